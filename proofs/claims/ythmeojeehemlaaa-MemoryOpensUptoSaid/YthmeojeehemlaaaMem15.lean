/- Package memory: awake. Written by this session. -/
import Derived.Test.YthmeojeehemlaaaMem14
namespace Go.Proofs.Ythmeojeehemlaaa.Mem
open Go.RowKit Go.Proofs.YthmeojeehemlaaaW.PrintWords
open Go.Proofs.Ythmeojeehemlaaa.PM
set_option linter.unusedVariables false
set_option linter.unusedSimpArgs false
attribute [local go_sem] isSome_setCell
def awakeX : S39 := ⟨16, [1, 2, 3]⟩
theorem awake_arg (w : World) : Kd.C k39 ((w.alloc (.cells #[.int .u8 1, .int .u8 2, .int .u8 3] 5)).alloc (.cells #[.int .u64 16, .slice (some ⟨w.heap.size, 0, none⟩) 3 3] 39)) (some ⟨w.heap.size + 1, 0, none⟩) 1 [awakeX] := by
  have b1 : Blk ((w.alloc (.cells #[.int .u8 1, .int .u8 2, .int .u8 3] 5)).alloc (.cells #[.int .u64 16, .slice (some ⟨w.heap.size, 0, none⟩) 3 3] 39)) w.heap.size 5 #[.int .u8 1, .int .u8 2, .int .u8 3] := (Blk.new w 5 _).alloc _
  have b2 := Blk.new (w.alloc (.cells #[.int .u8 1, .int .u8 2, .int .u8 3] 5)) 39 #[.int .u64 16, .slice (some ⟨w.heap.size, 0, none⟩) 3 3]
  have hs : (w.alloc (.cells #[.int .u8 1, .int .u8 2, .int .u8 3] 5)).heap.size = w.heap.size + 1 := by
    show (w.heap.push _).size = _
    rw [Array.size_push]
  rw [hs] at b2
  have hd : Dat ((w.alloc (.cells #[.int .u8 1, .int .u8 2, .int .u8 3] 5)).alloc (.cells #[.int .u64 16, .slice (some ⟨w.heap.size, 0, none⟩) 3 3] 39)) (some ⟨w.heap.size, 0, none⟩) 3 [1, 2, 3] :=
    ⟨Nat.le_refl _, by decide, fun _ => ⟨_, _, rfl, b1, Nat.le_refl _, fun i h => by
      have h3 : i < 3 := h
      rcases i with _ | _ | _ | i
      · rfl
      · rfl
      · rfl
      · omega⟩⟩
  refine ⟨rfl, by decide, fun _ => ⟨⟨w.heap.size + 1, 0, none⟩, rfl, fun j p hj => ?_⟩⟩
  have hj0 : j = 0 := by
    have := (List.getElem?_eq_some_iff.1 hj).1
    simpa using this
  subst hj0
  have hp : awakeX = p := by simpa using hj
  subst hp
  refine ⟨[.int .u64 16, .slice (some ⟨w.heap.size, 0, none⟩) 3 3], rfl, k39_mk _ awakeX hd.len hd.C, fun i u hu => ?_⟩
  have ad : (⟨w.heap.size + 1, 0, none⟩ : Addr).add (0 * k39.sz + i) = ⟨w.heap.size + 1, i, none⟩ := by
    rw [Nat.zero_mul, Nat.zero_add]
    unfold Addr.add; split <;> simp_all
  rw [ad, b2.cell]
  simpa using hu
theorem awake_adds {rs : List Reg} (h : Adds [awakeX] rs) : ∃ rg : Reg, rs = [rg] ∧ rg.first = 16 ∧ rg.data = [1, 2, 3] := by
  generalize hx : [awakeX] = xs at h
  cases h with
  | nil => cases hx
  | @snoc xs rs x rg h1 hm h2 h3 =>
    have e := List.append_inj' (s₁ := []) (t₁ := [awakeX]) (s₂ := xs) (t₂ := [x]) hx rfl
    obtain ⟨e1, e2⟩ := e
    subst e1
    have e3 : awakeX = x := by simpa using e2
    subst e3
    have hr : rs = [] := by
      have := h1.len
      exact List.length_eq_zero_iff.1 this
    subst hr
    exact ⟨rg, rfl, h2, h3⟩
theorem awake_may : mayAdd [] 16 [1, 2, 3] = true := by
  unfold mayAdd aheadBad behindBad
  have e : wlast 16 3 = 18 := by unfold wlast; rw [IntKind.wrap_u64]; rfl
  show (!decide (∃ r ∈ ([] : List Reg), r.first = 16) && _) = true
  rw [decide_eq_false (by rintro ⟨r, h, _⟩; cases h)]
  show (false || (!decide (wlast 16 3 < 16) && true && true)) = true
  rw [e]
  decide
theorem awake_size (w : World) : w.heap.size ≤ ((w.alloc (.cells #[.int .u8 1, .int .u8 2, .int .u8 3] 5)).alloc (.cells #[.int .u64 16, .slice (some ⟨w.heap.size, 0, none⟩) 3 3] 39)).heap.size := by
  show w.heap.size ≤ ((w.heap.push _).push _).size
  simp only [Array.size_push]; omega
theorem awake_fits : ∀ x ∈ [awakeX], Fits x := by
  intro x hx
  rw [List.mem_singleton.1 hx]
  refine ⟨by decide, by decide, fun b hb => ?_, by decide⟩
  rcases List.mem_cons.1 hb with rfl | hb
  · decide
  · rcases List.mem_cons.1 hb with rfl | hb
    · decide
    · rw [List.mem_singleton.1 hb]; decide
theorem awake_new {w w' : World} {e : Ending} (h : NewRes ((w.alloc (.cells #[.int .u8 1, .int .u8 2, .int .u8 3] 5)).alloc (.cells #[.int .u64 16, .slice (some ⟨w.heap.size, 0, none⟩) 3 3] 39)) [awakeX] e w') :
    ∃ s, ∃ rg : Reg, e = .returned (.tuple #[.pointer (some ⟨s, 0, none⟩), .int .i64 0]) ∧ St ((w.alloc (.cells #[.int .u8 1, .int .u8 2, .int .u8 3] 5)).alloc (.cells #[.int .u64 16, .slice (some ⟨w.heap.size, 0, none⟩) 3 3] 39)).heap.size w' s [rg] ∧ rg.first = 16 ∧ rg.data = [1, 2, 3] ∧ Below w.heap.size w w' := by
  have hb0 : Below w.heap.size w ((w.alloc (.cells #[.int .u8 1, .int .u8 2, .int .u8 3] 5)).alloc (.cells #[.int .u64 16, .slice (some ⟨w.heap.size, 0, none⟩) 3 3] 39)) := below_push (by show w.heap.size ≤ (w.heap.push _).size; simp) (below_push (Nat.le_refl _) (Below.refl _ _) _) _
  rcases h with ⟨s, rs, he, ha, hs, hb⟩ | ⟨_, ⟨k, rs, hk, ha, hm⟩, _⟩
  · obtain ⟨rg, rfl, h1, h2⟩ := awake_adds ha
    exact ⟨s, rg, he, hs, h1, h2, hb0.trans (hb.mono (awake_size w))⟩
  · have hk0 : k = 0 := by simpa using hk
    subst hk0
    have hr : rs = [] := by
      have := ha.len
      exact List.length_eq_zero_iff.1 this
    subst hr
    have hm2 : mayAdd [] 16 [1, 2, 3] = false := hm
    rw [awake_may] at hm2
    cases hm2
theorem awake_view {rg : Reg} (h1 : rg.first = 16) (hl : rg.data.length = 3) (n : Nat) (hn : n ≤ 2) : viewOf [rg] 17 n = some (rg, 1) := by
  have h := view_at [rg] ⟨fun _ h => absurd h List.not_mem_nil, trivial⟩ (List.pairwise_singleton _ _) 0 (by simp) 1 n (by simp [hl])
  simp only [List.getElem_cons_zero, h1, hl] at h
  rw [if_neg (by omega)] at h
  exact h
theorem awake_stored {rg : Reg} {B : Nat} {w w' : World} {s : Nat} {e : Ending} (h1 : rg.first = 16) (h2 : rg.data = [1, 2, 3]) (h : StoreRes (storeOf [rg] 17 16 1541) [rg] B w s e w') : e = .returned (.int .i64 0) ∧ St B w' s [upd rg 1 (le 2 1541) rg] ∧ Below B w w' := by
  have hv := awake_view h1 (by rw [h2]; rfl) 2 (Nat.le_refl _)
  have e1 : storeOf [rg] 17 16 1541 = some [upd rg 1 (le 2 1541) rg] := by
    unfold storeOf
    rw [show wb 16 = 2 from rfl, hv]
    rfl
  rw [e1] at h
  exact ⟨h.1, h.2.1, h.2.2.1⟩
theorem awake_load {rg : Reg} (h1 : rg.first = 16) (h2 : rg.data = [1, 2, 3]) : loadOf [upd rg 1 (le 2 1541) rg] 17 8 = (5, 0) := by
  have e : (upd rg 1 (le 2 1541) rg).data = [1, 5, 6] := by
    unfold upd
    rw [if_pos rfl]
    show put rg.data 1 (le 2 1541) = _
    rw [h2]
    rfl
  have hv := awake_view (rg := upd rg 1 (le 2 1541) rg) (by rw [upd_first]; exact h1) (by rw [e]; rfl) 1 (by omega)
  unfold loadOf
  rw [show wb 8 = 1 from rfl, hv]
  show (num (((upd rg 1 (le 2 1541) rg).data.drop 1).take 1), (0 : Int)) = _
  rw [e]
  rfl
set_option maxHeartbeats 2000000 in
set_option maxRecDepth 100000 in
theorem awake_ (w : World) : Calls Try.prog 9 #[] w fun e w' => e = .returned (.bool true) ∧ Below w.heap.size w w' := by
  have HA := Lib.hid (awake_arg w)
  go_enter Try.func9, Try.ntmps9
  go_wp2_with (first | (go_at_call 7; refine (new_ _ _ 1 1 [awakeX] HA.out awake_fits (by omega)).mono ?_; rintro e w' hn; obtain ⟨s, rg, rfl, hs, h1, h2, hb⟩ := awake_new hn; have HS := Lib.hid hs; have HR := Lib.hid (And.intro h1 h2); have HB := Lib.hid hb; clear hn hs h1 h2 hb) | (go_at_call 11; refine (store_ _ _ s [rg] 17 16 1541 HS.out (by decide) (by decide) (by decide) (by decide)).mono ?_; rintro e w2 hst; obtain ⟨rfl, hs2, hb2⟩ := awake_stored HR.out.1 HR.out.2 hst; have HS2 := Lib.hid hs2; have HB2 := Lib.hid hb2; clear hst hs2 hb2) | (go_at_call 12; refine (load_ _ s _ 17 8 HS2.out.space HS2.out.rising HS2.out.bytes (by decide) (by decide)).mono ?_; rintro e w3 ⟨rfl, ⟨nd, rfl⟩⟩; rw [awake_load HR.out.1 HR.out.2]))
  go_ret
  exact ⟨rfl, pw_below_drewN ((HB.out).trans (HB2.out.mono (awake_size w))) _⟩
end Go.Proofs.Ythmeojeehemlaaa.Mem
