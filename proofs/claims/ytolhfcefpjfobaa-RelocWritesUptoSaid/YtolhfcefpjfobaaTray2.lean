/- The tray: back. Written by this session. -/
import Derived.Test.YtolhfcefpjfobaaTray
namespace Go.Proofs.Ytolhfcefpjfobaa.Lend
open Go.RowKit Go.Proofs.YtolhfcefpjfobaaW.PrintWords
open Go.Proofs.Ytolhfcefpjfobaa.PR
set_option linter.unusedVariables false
set_option linter.unusedSimpArgs false
attribute [local go_sem] isSome_setCell
attribute [local go_sem high] eqA27

theorem TR_length (L : Nat) (rs : List S27) (h : rs.length ≤ L) : (TR L rs).length = L := by simp [TR, behs_length]; omega
theorem TR_take (L : Nat) (rs : List S27) : (TR L rs).take rs.length = rs := by simp [TR]
theorem TR_high (L : Nat) (rs : List S27) (k : Nat) (h0 : rs.length ≤ k) (h1 : k < L) (h : k < (TR L rs).length) : (TR L rs)[k] = beh k := by
  have e : (TR L rs)[k]? = some (beh k) := by
    unfold TR
    rw [List.getElem?_append_right h0, List.getElem?_drop]
    rw [show rs.length + (k - rs.length) = k from by omega]
    exact behs_at L k h1
  rw [List.getElem?_eq_getElem h] at e
  exact Option.some.inj e
theorem tr_cells {w : World} {gb L k : Nat} {rs : List S27} (hb : Blk w gb 27 (rels (TR L rs))) (h0 : rs.length ≤ k) (h1 : k < L) : w.cell? ⟨gb, k * 3, none⟩ = some (.int .i64 (beh k).f0) ∧ w.cell? ⟨gb, k * 3 + 1, none⟩ = some (.int .i64 (beh k).f1) ∧ w.cell? ⟨gb, k * 3 + 2, none⟩ = some (.int .i64 (beh k).f2) := by
  have hk : k < (TR L rs).length := by rw [TR_length L rs (by omega)]; exact h1
  have e := TR_high L rs k h0 h1 hk
  rw [hb.rel0 k hk, hb.rel1 k hk, hb.rel2 k hk, e]
  exact ⟨rfl, rfl, rfl⟩
set_option maxHeartbeats 4000000 in
set_option maxRecDepth 100000 in
theorem tback_ (k0 : Nat) (w : World) (g gb L c : Nat) (A : Option Addr) (rs : List S27) (hL : rs.length ≤ L) (hl : L < 562949953421312) (hg : Blk w g 25 #[.slice (some ⟨gb, 0, none⟩) L L]) (hb : Blk w gb 27 (rels (TR L rs))) (hne : g ≠ gb)
    (hc : Kd.C k27 w A rs.length rs) (hac : rs.length ≤ c) (hs : spindlelaw11_SameRels.f k0 rs rs = some true) :
    Calls Try.prog 25 #[.pointer (some ⟨g, 0, none⟩), .slice A rs.length c] w (fun e w' => e = .returned (.bool true) ∧ ∃ zs : List S27, zs.length = L ∧ Blk w' g 25 #[.slice (some ⟨gb, 0, none⟩) L L] ∧ Blk w' gb 27 (rels zs) ∧ Keeps w w' g gb) := by
  have hd : Kd.C k27 w (some ⟨gb, 0, none⟩) rs.length rs := by
    have h := C_of_rels hb rs.length (by rw [TR_length _ _ hL]; exact hL) (by rw [TR_length _ _ hL]; omega)
    rw [TR_take] at h
    exact h
  have HD := Lib.hid hd
  have HC := Lib.hid hc
  have HA := Lib.hid hac
  have HS := Lib.hid hs
  have HTL := Lib.hid (TR_length L rs hL)
  obtain ⟨m, hm⟩ : ∃ m, m = rs.length := ⟨_, rfl⟩
  have HM := Lib.hid hm
  rw [← hm] at hL ⊢
  have hmI : (m : Int) ≤ (L : Int) := by omega
  have c0 := hg.cell 0
  have f0 := hg.frozen 0
  simp only [List.getElem?_toArray, List.getElem?_cons_zero] at c0
  have HG := Lib.hid hg
  have HB := Lib.hid hb
  clear hg hb hm hd hc hac hs
  go_enter Try.func25, Try.ntmps25
  go_wp2_with (first | (go_at_call 19; refine (Calls.mono (by have h := spindlelaw11_SameRels.calls k0 (some ⟨gb, 0, none⟩) L rs A c rs true _ HD.out (by rw [← HM.out]; exact hL) HC.out HA.out HS.out; rw [← HM.out] at h; exact h) ?_); rintro e w' ⟨rfl, ⟨nd, rfl⟩⟩))

  go_loopw [5, 6] (fun b i wr => ∃ (k : Nat), m ≤ k ∧ k ≤ L ∧ b = .bool true ∧ i = .int .i64 (k : Int) ∧ Hid (Blk wr g 25 #[.slice (some ⟨gb, 0, none⟩) L L]) ∧ Hid (Blk wr gb 27 (rels (TR L rs))) ∧ Hid (Keeps w wr g gb)) (fun _ i _ => L - (intOf i).toNat)
  case atStart => exact ⟨m, Nat.le_refl _, hL, rfl, rfl, Lib.hid (HG.out.drewN nd), Lib.hid (HB.out.drewN nd), Lib.hid ((Keeps.refl w g gb).drewN nd)⟩
  case round =>
    obtain ⟨k, hk0, hk1, rfl, rfl, hG, hB, hK⟩ := hrel
    clear c0 f0
    have c0 := hG.out.cell 0
    have f0 := hG.out.frozen 0
    simp only [List.getElem?_toArray, List.getElem?_cons_zero] at c0
    by_cases hlt : k < L
    · have H0 := Lib.hid (show rs.length ≤ k by rw [← HM.out]; exact hk0)
      obtain ⟨b0, b1, b2⟩ := tr_cells hB.out H0.out hlt
      go_wp2
      go_region_with (go_at_call 40; refine (behind_ _ _).mono ?_; rintro e w' ⟨rfl, hb⟩; have hG' := Lib.hid (Blk.below (by exact hG.out.drew) hb hG.out.lt); have hB' := Lib.hid (Blk.below (by exact hB.out.drew) hb hB.out.lt); have hK' := Lib.hid (Keeps.below hK.out.drew hb); have d0 := hG'.out.cell 0; simp only [List.getElem?_toArray, List.getElem?_cons_zero] at d0; obtain ⟨e0, e1, e2⟩ := tr_cells hB'.out H0.out hlt; clear hb)
      all_goals
        go_wp2
        go_roundw
        case rel => exact ⟨k + 1, by omega, by omega, rfl, by go_num, hG', hB', hK'⟩
        case measure => simp [intOf]; omega
    · obtain rfl : k = L := by omega
      go_wp2
      obtain ⟨wo, rfl⟩ : ∃ wo : World, wo = wr := ⟨_, rfl⟩
      go_loopw [7] (fun i wr => ∃ (j : Nat) (zs : List S27), j ≤ m ∧ i = .int .i64 (j : Int) ∧ Hid (zs.length = k) ∧ Hid (Blk wr g 25 #[.slice (some ⟨gb, 0, none⟩) k k]) ∧ Hid (Blk wr gb 27 (rels zs)) ∧ Hid (Keeps w wr g gb)) (fun i _ => m - (intOf i).toNat)
      case atStart => exact ⟨0, TR k rs, Nat.zero_le _, rfl, HTL, hG, hB, hK⟩
      case round =>
        clear c0 f0 hG hB hK
        obtain ⟨j, zs, hj, rfl, hzs, hG, hB, hK⟩ := hrel
        have c0 := hG.out.cell 0
        have f0 := hG.out.frozen 0
        simp only [List.getElem?_toArray, List.getElem?_cons_zero] at c0
        by_cases hlt : j < m
        · have HJ := Lib.hid (show j < zs.length by rw [hzs.out]; omega)
          have b0 := hB.out.rel0 j HJ.out
          have b1 := hB.out.rel1 j HJ.out
          have b2 := hB.out.rel2 j HJ.out
          have z0 := hB.out.frozen (j * 3)
          have z1 := hB.out.frozen (j * 3 + 1)
          have z2 := hB.out.frozen (j * 3 + 2)
          have hjL : (j : Int) < (k : Int) := by omega
          have hjN : j < k := by omega
          go_wp2
          go_roundw
          case rel => exact ⟨j + 1, zs.set j ⟨0, 39, 0⟩, by omega, by go_num, Lib.hid (by rw [List.length_set]; exact hzs.out), Lib.hid (((hG.out.far (p := ⟨gb, j * 3, none⟩) (fun e => hne e.symm) _).far (p := ⟨gb, j * 3 + 1, none⟩) (fun e => hne e.symm) _).far (p := ⟨gb, j * 3 + 2, none⟩) (fun e => hne e.symm) _), Lib.hid (hB.out.setRel j ⟨0, 39, 0⟩), Lib.hid (((hK.out.set_ _ _ (.inr rfl)).set_ _ _ (.inr rfl)).set_ _ _ (.inr rfl))⟩
          case measure => simp [intOf]; omega
        · obtain rfl : j = m := by omega
          go_wp2
          go_ret
          exact ⟨rfl, zs, hzs.out, hG.out, hB.out, hK.out⟩
end Go.Proofs.Ytolhfcefpjfobaa.Lend
