/- Package memory: New. Written by this session. -/
import Derived.Test.YthmeojeehemlaaaMem11
namespace Go.Proofs.Ythmeojeehemlaaa.Mem
open Go.RowKit Go.Lib Go.Proofs.YthmeojeehemlaaaW.PrintWords
open Go.Proofs.Ythmeojeehemlaaa.PM
set_option linter.unusedVariables false
set_option linter.unusedSimpArgs false
attribute [local go_sem] isSome_setCell
/-- regions added one behind the other -/
inductive Adds : List S39 → List Reg → Prop
  | nil : Adds [] []
  | snoc {xs : List S39} {rs : List Reg} {x : S39} {rg : Reg} : Adds xs rs → mayAdd rs x.f0 x.f1 = true → rg.first = x.f0 → rg.data = x.f1 → Adds (xs ++ [x]) (ins rs (place rs x.f0) rg)
theorem Adds.len {xs : List S39} {rs : List Reg} (h : Adds xs rs) : rs.length = xs.length := by
  induction h with
  | nil => rfl
  | snoc _ _ _ _ ih => rw [ins_length, ih]; simp
def NewRes (w : World) (xs : List S39) (e : Ending) (w' : World) : Prop :=
  (∃ s rs, e = .returned (.tuple #[.pointer (some ⟨s, 0, none⟩), .int .i64 0]) ∧ Adds xs rs ∧ St w.heap.size w' s rs ∧ Below w.heap.size w w') ∨
  (e = .returned (.tuple #[.pointer none, .int .i64 201]) ∧ (∃ k rs, ∃ h : k < xs.length, Adds (xs.take k) rs ∧ mayAdd rs xs[k].f0 xs[k].f1 = false) ∧ Below w.heap.size w w')
def Fits (x : S39) : Prop := 0 ≤ x.f0 ∧ x.f0 < 18446744073709551616 ∧ Bytes x.f1 ∧ x.f1.length ≤ 140737488355328
theorem St.fresh (w : World) : St w.heap.size (w.alloc (.cells #[.slice none 0 0] 61)) w.heap.size [] :=
  ⟨⟨none, 0, Blk.new _ _ _, ⟨by decide, Nat.le_refl _, by decide, .inl ⟨rfl, rfl⟩, fun _ h => absurd h List.not_mem_nil⟩, fun p h => by cases h⟩, Nat.le_refl _, fun _ h => absurd h List.not_mem_nil, List.Pairwise.nil, trivial, fun _ h => absurd h List.not_mem_nil⟩
set_option maxHeartbeats 2000000 in
set_option maxRecDepth 100000 in
theorem new_ (w : World) (A : Option Addr) (n c : Nat) (xs : List S39) (hC : Kd.C k39 w A n xs) (hF : ∀ x ∈ xs, Fits x) (hn : n + 1 < 4398046511104) :
    Calls Try.prog 7 #[.slice A n c] w fun e w' => NewRes w xs e w' := by
  have HC := Lib.hid hC
  have HF := Lib.hid hF
  have HN := Lib.hid hn
  have HL := Lib.hid hC.1
  have hn2 : n < 4398046511104 := by omega
  clear hC hF hn
  go_enter Try.func7, Try.ntmps7
  go_wp2
  go_loopw [12] (fun i wr => ∃ (k : Nat) (rs : List Reg), k ≤ n ∧ i = .int .i64 (k : Int) ∧ Hid (Adds (xs.take k) rs) ∧ Hid (St w.heap.size wr w.heap.size rs) ∧ Hid (Below w.heap.size w wr)) (fun i _ => n - (RowKit.intOf i).toNat)
  case atStart => exact ⟨0, [], Nat.zero_le _, rfl, Lib.hid (by rw [List.take_zero]; exact .nil), Lib.hid (St.fresh w), Lib.hid (below_push (Nat.le_refl _) (Below.refl _ _) _)⟩
  case round =>
    obtain ⟨k, rs, hk, rfl, hA, hS, hB⟩ := hrel
    by_cases hlt : k < n
    · obtain ⟨ad, A1, c1, hAd, e0, e1, l1, g1⟩ := at_T39 (Kd.C_below HC.out hB.out) (k : Int) (by omega) (by omega)
      subst hAd
      rw [Int.toNat_natCast] at e0 e1
      obtain ⟨x, hx⟩ : ∃ x, x = rd_T39 xs k := ⟨_, rfl⟩
      have hkx : k < xs.length := by rw [HL.out]; exact hlt
      have hx2 : xs[k] = x := by rw [hx]; unfold rd_T39; rw [Int.toNat_natCast, List.getD_eq_getElem?_getD, List.getElem?_eq_getElem hkx]; rfl
      rw [← hx] at e0 e1 l1 g1
      have HX := Lib.hid (show ∃ h : k < xs.length, xs[k] = x from ⟨hkx, hx2⟩)
      have hfit : Fits x := by rw [← hx2]; exact HF.out _ (List.getElem_mem hkx)
      have HFX := Lib.hid hfit
      have HG := Lib.hid g1
      have hrl : rs.length = k := by rw [hA.out.len, List.length_take]; omega
      have HRL := Lib.hid (show rs.length + 1 < 4398046511104 by omega)
      clear hx hx2 hkx hfit g1 hrl l1
      have HADD := Lib.hid (show ∀ W, Below wr.heap.size wr W → Calls Try.prog 20 #[.pointer (some ⟨w.heap.size, 0, none⟩), .agg #[.int .u64 x.f0, .slice A1 x.f1.length c1]] W fun e w' => AddRes (mayAdd rs x.f0 x.f1) w.heap.size W w.heap.size rs x.f0 x.f1 e w' from fun W hW => add_ w.heap.size W w.heap.size rs x.f0 A1 x.f1.length c1 x.f1 (hS.out.below hW) (Kd.C_below HG.out hW) HFX.out.2.2.1 HFX.out.1 HFX.out.2.1 HFX.out.2.2.2 HRL.out)
      cases hm : mayAdd rs x.f0 x.f1 with
      | true =>
        rw [hm] at HADD
        go_wp2_with (go_at_call 20; refine (HADD.out _ (below_push (Nat.le_refl _) (Below.refl _ _) _)).mono ?_; rintro e w' ⟨rfl, hbl, rg, h1, h2, hS2⟩; have HBL := Lib.hid hbl; have H1 := Lib.hid (And.intro h1 h2); have HS2 := Lib.hid hS2; clear hbl h1 h2 hS2)
        go_roundw
        case rel =>
          refine ⟨k + 1, _, by omega, by go_num, Lib.hid ?_, HS2, Lib.hid (hB.out.trans ((below_push hB.out.size (Below.refl _ _) _).trans HBL.out))⟩
          obtain ⟨h, e⟩ := HX.out
          rw [List.take_succ_eq_append_getElem h, e]
          exact .snoc hA.out hm H1.out.1 H1.out.2
        case measure => simp [RowKit.intOf]; omega
      | false =>
        rw [hm] at HADD
        go_wp2_with (go_at_call 20; refine (HADD.out _ (below_push (Nat.le_refl _) (Below.refl _ _) _)).mono ?_; rintro e w' ⟨rfl, hbl, _⟩; have HBL := Lib.hid hbl; clear hbl)
        go_ret2
        obtain ⟨h, e⟩ := HX.out
        exact .inr ⟨rfl, ⟨k, rs, h, hA.out, by rw [e]; exact hm⟩, hB.out.trans ((below_push hB.out.size (Below.refl _ _) _).trans HBL.out)⟩
    · obtain rfl : k = n := by omega
      go_wp2
      go_ret2
      refine .inl ⟨w.heap.size, rs, rfl, ?_, hS.out, hB.out⟩
      have := hA.out
      rw [List.take_of_length_le (by have := HL.out; omega)] at this
      exact this
end Go.Proofs.Ythmeojeehemlaaa.Mem
