/- MemoryOpens: the law's walk. Written by this session. -/
import Derived.Test.YthmeojeehemlaaaHand7
import Derived.Deep.RegionLaw
namespace Go.Proofs.Ythmeojeehemlaaa.Mem
open Go.RowKit Go.Proofs.YthmeojeehemlaaaW.PrintWords
open Go.Proofs.Ythmeojeehemlaaa.PM
set_option linter.unusedVariables false
set_option linter.unusedSimpArgs false
attribute [local go_sem] isSome_setCell
def oth (x : S39) : S39 := ⟨IntKind.u64.wrap (x.f0 + 1), x.f1⟩
/-- a row of regions of the call's own, whose data is another's -/
def Rows2 (w : World) (base : Nat) (v : Value) (os : List Out) : Prop :=
  w.ownsRow base 39 2 v os.length (outCells os) ∧ ∀ o ∈ os, o.data.length ≤ o.cap ∧ Kd.C (Kd.int .u8) w o.A o.data.length o.data
theorem Rows2.C {w : World} {base : Nat} {v : Value} {os : List Out} (h : Rows2 w base v os) (hbig : os.length < 9223372036854775808) : ∃ A c, v = .slice A os.length c ∧ os.length ≤ c ∧ Kd.C k39 w A os.length (os.map fun o => (⟨o.first, o.data⟩ : S39)) := by
  obtain ⟨⟨hl, h2⟩, hd⟩ := h
  rcases h2 with ⟨rfl, h0⟩ | ⟨g, cap, cur, rfl, _, hh, hnc, _, hsz, ht⟩
  · rw [h0]
    exact ⟨none, 0, rfl, Nat.le_refl _, ⟨by simpa using h0, by omega, fun h => absurd h (by omega)⟩⟩
  · refine ⟨_, cap, rfl, hnc, ⟨by simp, by omega, fun hp => ⟨⟨g, 0, none⟩, rfl, fun j p hj => ?_⟩⟩⟩
    rw [List.getElem?_map] at hj
    obtain ⟨o, ho, rfl⟩ := Option.map_eq_some_iff.1 hj
    obtain ⟨hdo1, hdo2⟩ := hd o (List.mem_of_getElem? ho)
    refine ⟨[.int .u64 o.first, .slice o.A o.data.length o.cap], rfl, k39_mk w ⟨o.first, o.data⟩ hdo1 hdo2, fun i u hu => ?_⟩
    have hi : i < 2 := by
      have := (List.getElem?_eq_some_iff.1 hu).1
      simpa using this
    have hj' : j < os.length := (List.getElem?_eq_some_iff.1 ho).1
    have ad : (⟨g, 0, none⟩ : Addr).add (j * k39.sz + i) = ⟨g, j * 2 + i, none⟩ := by
      show (⟨g, 0, none⟩ : Addr).add (j * 2 + i) = ⟨g, j * 2 + i, none⟩
      unfold Addr.add; split <;> simp_all
    have hb : Blk w g 39 cur := hh
    have e1 : (cur.toList.take (os.length * 2))[j * 2 + i]? = some u := by
      rw [ht, outCells_get os j o i ho hi]; exact hu
    rw [List.getElem?_take] at e1
    rw [ad, hb.cell]
    split at e1
    · simpa using e1
    · cases e1
theorem rows2_step {w wr w2 : World} {v v' : Value} {os : List Out} {f : Int} {A' : Option Addr} {c' : Nat} {l : List Int} {n : Nat} (hn : n = l.length) (hO : Rows2 wr w.heap.size v os) (hB : Below w.heap.size w wr) (hall : ∀ W, Below w.heap.size w W → (∀ o ∈ os, Kd.C (Kd.int .u8) W o.A o.data.length o.data) ∧ Kd.C (Kd.int .u8) W A' l.length l) (hc : n ≤ c')
    (ho : w2.ownsRow w.heap.size 39 2 v' (os.length + 1) (outCells os ++ [.int .u64 f, .slice A' n c'])) (hg : (wr.drew.alloc (.cells #[.int .u64 f, .slice A' n c'] 39)).grownBy w2 v.ownBlock) :
    Rows2 w2 w.heap.size v' (os ++ [⟨f, A', c', l⟩]) ∧ Below w.heap.size w w2 := by
  subst hn
  have b2 : Below w.heap.size w (wr.drew.alloc (.cells #[.int .u64 f, .slice A' l.length c'] 39)) := below_push (w := wr.drew) hB.size (below_drew hB) _
  have h1 := ownsRow_below hO.1 (below_push (w := wr.drew) (Nat.le_refl wr.heap.size) (below_drew (Below.refl wr.heap.size wr)) (.cells #[.int .u64 f, .slice A' l.length c'] 39))
  have b3 : Below w.heap.size w w2 := b2.grown hg (by have := b2.size; omega) (fun k hk => (h1.lt k hk).1)
  refine ⟨⟨by simpa [outCells, List.flatMap_append] using ho, fun o hm => ?_⟩, b3⟩
  rcases List.mem_append.1 hm with h | h
  · exact ⟨(hO.2 o h).1, (hall w2 b3).1 o h⟩
  · rw [List.mem_singleton.1 h]
    exact ⟨hc, (hall w2 b3).2⟩
set_option maxHeartbeats 4000000 in
set_option maxRecDepth 100000 in
theorem opens_ (w : World) (A : Option Addr) (n c : Nat) (xs : List S39) (hC : Kd.C k39 w A n xs) (hc : n ≤ c) (hn : n ≤ 1048576) (hx : ∀ y ∈ xs, Small y) :
    Calls Try.prog 5 #[.slice A n c] w fun e w' => e = .returned (.bool true) ∧ Below w.heap.size w w' := by
  have HC := Lib.hid hC
  have HX := Lib.hid hx
  have HLX := Lib.hid hC.1
  obtain ⟨i0, hi, hz0, hz1, hz2⟩ := info_parts (P := Try.prog) (e := 39) (z := .agg #[.int .u64 0, .slice none 0 0]) (size := 2) (bytes := 32) (by kernel_rfl)
  clear hC hx
  go_enter Try.func5, Try.ntmps5
  go_wp2
  go_loopw [3, 4] (fun v iV wr => ∃ (k : Nat) (os : List Out), k ≤ n ∧ iV = .int .i64 (k : Int) ∧ Hid (Rows2 wr w.heap.size v os) ∧ Hid (os.map (fun o => (⟨o.first, o.data⟩ : S39)) = (xs.take k).map oth) ∧ Hid (∀ W, Below w.heap.size w W → ∀ o ∈ os, Kd.C (Kd.int .u8) W o.A o.data.length o.data) ∧ Hid (Below w.heap.size w wr)) (fun _ iV _ => n - (RowKit.intOf iV).toNat)
  case atStart => exact ⟨0, [], Nat.zero_le _, rfl, Lib.hid ⟨⟨rfl, .inl ⟨rfl, rfl⟩⟩, fun _ h => absurd h List.not_mem_nil⟩, Lib.hid rfl, Lib.hid (fun _ _ _ h => absurd h List.not_mem_nil), Lib.hid (Below.refl _ _)⟩
  case round =>
    obtain ⟨k, os, hk, rfl, hO, hE, hA, hB⟩ := hrel
    by_cases hlt : k < n
    · obtain ⟨ad, Ai, ci, rfl, e0, e1, l1, k1⟩ := at_T39 HC.out (k : Int) (by omega) (by omega)
      have hkx : k < xs.length := by rw [HLX.out]; exact hlt
      rw [Int.toNat_natCast, rd39 xs k hkx] at e0 e1
      rw [rd39 xs k hkx] at l1 k1
      obtain ⟨x, hxk⟩ : ∃ x, x = xs[k] := ⟨_, rfl⟩
      rw [← hxk] at e0 e1 l1 k1
      have HXK := Lib.hid (show ∃ h : k < xs.length, xs[k] = x from ⟨hkx, hxk.symm⟩)
      replace e0 := (hB.out.cell (World.block_lt_of_cell? w _ e0)).trans e0
      replace e1 := (hB.out.cell (World.block_lt_of_cell? w _ e1)).trans e1
      have HK1 := Lib.hid k1
      have HOL := Lib.hid (show os.length = k from by
        have h1 := congrArg List.length hE.out
        simp at h1
        omega)
      have HOWN := Lib.hid (ownsRow_below hO.out.1 (below_push (w := wr.drew) (Nat.le_refl wr.heap.size) (below_drew (Below.refl wr.heap.size wr)) (.cells #[.int .u64 (IntKind.u64.wrap (x.f0 + 1)), .slice Ai x.f1.length ci] 39)))
      have HNEXT := Lib.hid (show ∀ W, Below w.heap.size w W → (∀ o ∈ os, Kd.C (Kd.int .u8) W o.A o.data.length o.data) ∧ Kd.C (Kd.int .u8) W Ai x.f1.length x.f1 from fun W hW => ⟨hA.out W hW, Kd.C_below k1 hW⟩)
      clear hkx hxk k1
      go_wp2
      go_region_law (refine step_append_own rfl (.tmp 18) (.tmp 31) 22 rfl w.heap.size 39 i0 (.agg #[.int .u64 0, .slice none 0 0]) 2 32 Try.underlying22 hi hz0 hz1 hz2 rfl (by decide) u3 os.length (outCells os) rfl HOWN.out ⟨wr.heap.size, 0, none⟩ 1 1 [.int .u64 (IntKind.u64.wrap (x.f0 + 1)), .slice Ai x.f1.length ci] rfl rfl (new_cells wr.drew _ _ _) (one_cells _) (by have := HOL.out; unfold maxLen; omega) (by have := HOL.out; omega) (Nat.le_trans hB.out.size (act_size wr.drew _)) ?_; intro v' w2 ho hgr hni; have HST := Lib.hid (rows2_step rfl hO.out hB.out HNEXT.out l1 ho hgr); clear ho hgr hni)
      all_goals
        go_wp2
        go_roundw
        case rel =>
          refine ⟨k + 1, os ++ [⟨IntKind.u64.wrap (x.f0 + 1), Ai, ci, x.f1⟩], by omega, by go_num, Lib.hid HST.out.1, Lib.hid ?_, Lib.hid ?_, Lib.hid HST.out.2⟩
          · obtain ⟨h, e⟩ := HXK.out
            rw [List.take_succ_eq_append_getElem h, List.map_append, List.map_append, hE.out, e]
            rfl
          · intro W hW o ho
            rcases List.mem_append.1 ho with h | h
            · exact (HNEXT.out W hW).1 o h
            · rw [List.mem_singleton.1 h]; exact (HNEXT.out W hW).2
        case measure => simp [RowKit.intOf]; omega
    · obtain rfl : k = n := by omega
      have hE2 := hE.out
      rw [List.take_of_length_le (by rw [HLX.out]; exact Nat.le_refl _)] at hE2
      have hol : os.length = k := by
        have h1 := congrArg List.length hE2
        simp at h1
        rw [h1]; exact HLX.out
      obtain ⟨A3, c3, rfl, hl3, hk3⟩ := hO.out.C (by omega)
      rw [hE2] at hk3
      have HK3 := Lib.hid hk3
      have HOL := Lib.hid hol
      have HSO := Lib.hid (show ∀ y ∈ xs.map oth, Small y from fun y hy => by
        obtain ⟨z, hz, rfl⟩ := List.mem_map.1 hy
        obtain ⟨⟨f0, f1, f2, f3⟩, f4⟩ := HX.out z hz
        refine ⟨⟨?_, ?_, f2, f3⟩, f4⟩
        · show 0 ≤ IntKind.u64.wrap (z.f0 + 1)
          rw [IntKind.wrap_u64]; omega
        · show IntKind.u64.wrap (z.f0 + 1) < 18446744073709551616
          rw [IntKind.wrap_u64]; omega)
      clear hE2 hol hk3
      go_wp2_with (first | (go_at_call_of 14 (Value.slice A3 os.length c3); refine (open_ _ A3 os.length c3 (xs.map oth) HK3.out hl3 (by have := HOL.out; omega) HSO.out).mono ?_; rintro e w1 ⟨g1, rfl, hd1, hb1⟩; have HB1 := Lib.hid hb1; clear hd1 hb1) | (go_at_call_of 14 (Value.slice A k c); refine (open_ _ A k c xs (Kd.C_below HC.out (hB.out.trans (HB1.out.mono hB.out.size))) hc hn HX.out).mono ?_; rintro e w2 ⟨g2, rfl, hd2, hb2⟩; have HD2 := Lib.hid hd2; have HB2 := Lib.hid hb2; clear hd2 hb2) | (go_at_call 16; refine (act_ _ _ xs g2 HD2.out (by rw [HLX.out]; exact hn) HX.out).mono ?_; rintro e w3 ⟨v1, v2, rfl, hb3⟩; have HB3 := Lib.hid hb3; clear hb3) | (go_at_call 9; refine (awake_ _).mono ?_; rintro e w4 ⟨rfl, hb4⟩; have HB4 := Lib.hid hb4; clear hb4))
      go_ret
      have b1 := hB.out.trans (HB1.out.mono hB.out.size)
      have b2 := b1.trans (HB2.out.mono b1.size)
      have b3 := b2.trans (HB3.out.mono b2.size)
      exact ⟨rfl, b3.trans (HB4.out.mono b3.size)⟩
end Go.Proofs.Ythmeojeehemlaaa.Mem
