import Derived.Test.YtolhfcefpjfobaaLend
namespace Go.Proofs.Ytolhfcefpjfobaa.Lend
open Go.RowKit Go.Proofs.YtolhfcefpjfobaaW.PrintWords
set_option linter.unusedVariables false
attribute [local go_sem] isSome_setCell
theorem mark_q (p : Option Addr) (i : Int) (w : World) : Calls Try.prog 41 #[.pointer p, .int .i64 i] w fun e w' => e = .returned (.int .u8 (mk i)) ∧ w' = w :=
  (mark_any p i w).mono fun _ _ h => ⟨h.1, h.2.symm⟩
set_option maxHeartbeats 2000000 in
set_option maxRecDepth 100000 in
theorem back_ (w : World) (g gb L c : Nat) (A : Option Addr) (ys a : List Int) (hL : ys.length = L) (hbig : 2 * a.length + 70 ≤ L) (hl : L < 562949953421312) (hg : Blk w g 33 #[.slice (some ⟨gb, 0, none⟩) L L, .int .i64 a.length]) (hb : Blk w gb 5 (ints ys)) (hne : g ≠ gb)
    (ha : Kd.C (Kd.int .u8) w A a.length a) (hT : ys.take (2 * a.length + 70) = T a) (hfg : Far A a.length g) (hfb : Far A a.length gb) :
    Calls Try.prog 27 #[.pointer (some ⟨g, 0, none⟩), .slice A a.length c] w (fun e w' => e = .returned (.bool true) ∧ ∃ zs : List Int, zs.length = L ∧ Blk w' g 33 #[.slice (some ⟨gb, 0, none⟩) L L, .int .i64 a.length] ∧ Blk w' gb 5 (ints zs) ∧ Keeps w w' g gb) := by
  obtain ⟨m, hm⟩ : ∃ m, m = a.length := ⟨_, rfl⟩
  rw [← hm] at hbig hfg hfb hg ⊢
  have c0 := hg.cell 0
  have c1 := hg.cell 1
  have f0 := hg.frozen 0
  have f1 := hg.frozen 1
  simp only [List.getElem?_toArray, List.getElem?_cons_zero, List.getElem?_cons_succ] at c0 c1
  have hta : ys.take m = a := by
    have h := congrArg (List.take m) hT
    rw [List.take_take, Nat.min_eq_left (by omega)] at h
    rw [h, T, List.take_append_of_le_length (by omega), hm, List.take_length]
  have hs1 : ∀ q, (convert 30 9 (.slice (some ⟨gb, 0, none⟩) m L)).run Try.prog (w.drewN q) = .ok (.string (strOfNums a)) (w.drewN q) := by
    intro q
    have h := C_of_blk (hb.drewN q) m (by omega) (by omega)
    rw [hta] at h
    have := Kd.C_string (P := Try.prog) (c := L) Try.underlying30 Try.underlying5 Try.underlying9 h
    rw [← hm] at this
    exact this
  have hs2 : ∀ q, (convert 30 9 (.slice A m c)).run Try.prog (w.drewN q) = .ok (.string (strOfNums a)) (w.drewN q) := by
    intro q
    have h : Kd.C (Kd.int .u8) (w.drewN q) A a.length a := ha
    have := Kd.C_string (P := Try.prog) (c := c) Try.underlying30 Try.underlying5 Try.underlying9 h
    rw [← hm] at this
    exact this
  have hmL : m ≤ L := by omega
  have hmL2 : (m : Int) ≤ (L : Int) := by omega
  have HL := Lib.hid hL
  have HM := Lib.hid hm
  have HFG := Lib.hid hfg
  have HFB := Lib.hid hfb
  have HG := Lib.hid hg
  have HB := Lib.hid hb
  have HT := Lib.hid hT
  clear hL hm ha hg hb hfg hfb hT hta
  go_enter Try.func27, Try.ntmps27
  go_wp2
  go_quiet (fail)
  go_wp2
  go_loopw [5, 6] (fun b i wr => ∃ (k q : Nat), m ≤ k ∧ k ≤ 2 * m + 70 ∧ b = .bool true ∧ i = .int .i64 (k : Int) ∧ Hid (wr = w.drewN q)) (fun _ i _ => 2 * m + 70 - (intOf i).toNat)
  case atStart => exact ⟨m, nq, Nat.le_refl _, by omega, rfl, rfl, Lib.hid rfl⟩
  case round =>
    obtain ⟨k, q, hk0, hk1, rfl, rfl, hq⟩ := hrel
    clear c0 c1 f0 f1 hs1 hs2
    have c0 := (show Blk wr g 33 _ from by rw [hq.out]; exact HG.out.drewN q).cell 0
    have c1 := (show Blk wr g 33 _ from by rw [hq.out]; exact HG.out.drewN q).cell 1
    simp only [List.getElem?_toArray, List.getElem?_cons_zero, List.getElem?_cons_succ] at c0 c1
    by_cases hlt : k < 2 * m + 70
    · have cb : wr.cell? ⟨gb, k, none⟩ = some (.int .u8 (mk k)) := by
        have h := (show Blk wr gb 5 _ from by rw [hq.out]; exact HB.out.drewN q).cell k
        have hk : k < ys.length := by rw [HL.out]; omega
        rw [ints_at ys k hk] at h
        rw [h]
        have h2 : (ys.take (2 * a.length + 70))[k]? = (T a)[k]? := by rw [HT.out]
        rw [T_high a k (by rw [← HM.out]; exact hk0) (by rw [← HM.out]; exact hlt), List.getElem?_take, if_pos (by rw [← HM.out]; exact hlt), List.getElem?_eq_getElem hk] at h2
        rw [Option.some.inj h2]
      have hkL : (k : Int) < (L : Int) := by omega
      have hkN : k < L := by omega
      go_wp2
      go_quiet (first | (go_at_call 41; refine Calls.quiet_of_same (mark_q _ _ _)))
      go_wp2
      go_roundw
      case rel => exact ⟨k + 1, q + nq, by omega, by omega, rfl, by go_num, Lib.hid (by rw [hq.out, World.drewN_drewN])⟩
      case measure => simp [intOf]; omega
    · obtain rfl : k = 2 * m + 70 := by omega
      go_wp2
      go_loopw [7] (fun i wr => ∃ (k : Nat) (zs : List Int), k ≤ m ∧ i = .int .i64 (k : Int) ∧ Hid (zs.length = L) ∧ Hid (Blk wr g 33 #[.slice (some ⟨gb, 0, none⟩) L L, .int .i64 m]) ∧ Hid (Blk wr gb 5 (ints zs)) ∧ Hid (Keeps w wr g gb)) (fun i _ => m - (intOf i).toNat)
      case atStart => exact ⟨0, ys, Nat.zero_le _, rfl, HL, Lib.hid (by rw [hq.out]; exact HG.out), Lib.hid (by rw [hq.out]; exact HB.out), Lib.hid (by rw [hq.out]; exact (Keeps.refl w g gb).drewN q)⟩
      case round =>
        clear c0 c1
        obtain ⟨k, zs, hk, rfl, hzs, hG, hB, hK⟩ := hrel
        have c0 := hG.out.cell 0
        have c1 := hG.out.cell 1
        have f0 := hG.out.frozen 0
        have f1 := hG.out.frozen 1
        simp only [List.getElem?_toArray, List.getElem?_cons_zero, List.getElem?_cons_succ] at c0 c1
        by_cases hlt : k < m
        · have cb := hB.out.cell k
          rw [ints_at zs k (by rw [hzs.out]; omega)] at cb
          have fb := hB.out.frozen k
          have hkL : (k : Int) < (L : Int) := by omega
          have hkN : k < L := by omega
          go_wp2
          have h1 := Lib.hid (hG.out.far (p := ⟨gb, k, none⟩) (fun e => hne e.symm) (.int .u8 120))
          have h2 := Lib.hid (show Blk (wr.setCell ⟨gb, k, none⟩ (.int .u8 120)) gb 5 (ints (zs.set k 120)) from by rw [← ints_set]; exact hB.out.set_ k _)
          go_roundw
          case rel => exact ⟨k + 1, zs.set k 120, by omega, by go_num, Lib.hid (by rw [List.length_set]; exact hzs.out), h1, h2, Lib.hid (hK.out.set_ _ _ (.inr rfl))⟩
          case measure => simp [intOf]; omega
        · obtain rfl : k = m := by omega
          go_wp2
          go_ret
          exact ⟨rfl, zs, hzs.out, hG.out, hB.out, hK.out⟩
end Go.Proofs.Ytolhfcefpjfobaa.Lend
