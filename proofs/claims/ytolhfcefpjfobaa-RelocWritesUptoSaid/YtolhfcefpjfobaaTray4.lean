/- RelocWrites: the walk of the law itself. Written by this session. -/
import Derived.Test.YtolhfcefpjfobaaTray3
namespace Go.Proofs.Ytolhfcefpjfobaa.Lend
open Go.RowKit Go.Proofs.YtolhfcefpjfobaaW.PrintWords
open Go.Proofs.Ytolhfcefpjfobaa.PR
set_option linter.unusedVariables false
set_option linter.unusedSimpArgs false
attribute [local go_sem] isSome_setCell

def oth (x : S27) : S27 := ⟨x.f0, wrap64 (3 - x.f1), Go.bits .xor .i64 x.f2 1⟩
theorem oth_take (rs : List S27) (k : Nat) (h : k < rs.length) : (rs.map oth).take k ++ [oth (rd_T27 rs (k : Int))] = (rs.map oth).take (k + 1) := by
  rw [List.take_succ_eq_append_getElem (by simpa using h)]
  congr 2
  unfold rd_T27
  rw [Int.toNat_natCast, List.getD_eq_getElem?_getD, List.getElem?_eq_getElem h]
  simp
theorem TSt.first {w w1 : World} (hb : Below (w.alloc (.cells #[.slice none 0 0] 25)).heap.size (w.alloc (.cells #[.slice none 0 0] 25)) w1) : TSt w1.heap.size w1.heap.size w1 w.heap.size := by
  have h := (Blk.new w 25 #[.slice none 0 0]).below hb (by rw [size_alloc]; omega)
  exact ⟨h.lt, _, h, .inl rfl⟩
theorem first_far27 {w w1 : World} {o : Obj} {A : Option Addr} {n c : Nat} {b : List S27} (h : Kd.R k27 27 w1 (w.alloc o).heap.size (fun _ => True) (.slice A n c) b) : 0 < b.length → ∀ ad, A = some ad → ad.block ≠ w.heap.size ∧ ad.block < w1.heap.size := by
  intro hp ad e
  obtain ⟨g, cap, e2, h1, h2, _⟩ := Kd.R_form h hp
  rw [size_alloc] at h1
  cases e
  cases e2
  exact ⟨by simp only; omega, h2⟩
theorem old_far27 {w : World} {A : Option Addr} {a : List S27} (h : Kd.C k27 w A a.length a) : 0 < a.length → ∀ ad, A = some ad → ad.block ≠ w.heap.size ∧ ad.block < w.heap.size := by
  intro hp ad e
  obtain ⟨ad', e', hc⟩ := h.2.2 hp
  rw [e] at e'
  obtain rfl := Option.some.inj e'
  obtain ⟨c, hs, hr, hcell⟩ := hc 0 _ (List.getElem?_eq_getElem hp)
  obtain rfl := k27_open hr
  have := World.block_lt_of_cell? w _ (hcell 0 _ rfl)
  have e2 : (ad.add (0 * k27.sz + 0)).block = ad.block := by unfold Addr.add; split <;> rfl
  omega

set_option maxHeartbeats 4000000 in
set_option maxRecDepth 100000 in
theorem writes_ (k0 : Nat) (w : World) (c : Nat) (A : Option Addr) (rs : List S27) (r1 s1 : List Int) (r2 s2 : Int) (hsz : rs.length ≤ 1048576) (hc : Kd.C k27 w A rs.length rs) (hac : rs.length ≤ c)
    (g1 : spindleref11_Write.f k0 (rs.map oth) = some (s1, s2)) (g2 : reloc_Write.f k0 (rs.map oth) = some (s1, s2)) (g3 : spindlelaw11_SameRels.f k0 (rs.map oth) (rs.map oth) = some true) (g4 : spindlelaw0_SameBytes.f s1 s1 = some true) (g5 : spindlelaw0_Num.f s2 = some s2)
    (h1 : spindleref11_Write.f k0 rs = some (r1, r2)) (h2 : reloc_Write.f k0 rs = some (r1, r2)) (h3 : spindlelaw11_SameRels.f k0 rs rs = some true) (h4 : spindlelaw0_SameBytes.f r1 r1 = some true) (h5 : spindlelaw0_Num.f r2 = some r2)
    (hw : spindlelaw11_awake.f k0 = some true) :
    Calls Try.prog 3 #[.slice A rs.length c] w fun e w' => e = .returned (.bool true) ∧ Below w.heap.size w w' := by
  obtain ⟨m, hm⟩ : ∃ m, m = rs.length := ⟨_, rfl⟩
  have HM := Lib.hid hm
  have HC := Lib.hid hc
  have HA := Lib.hid hac
  have HF := Lib.hid (old_far27 hc)
  have HZ := Lib.hid hsz
  have G1 := Lib.hid g1
  have G2 := Lib.hid g2
  have G3 := Lib.hid g3
  have G4 := Lib.hid g4
  have G5 := Lib.hid g5
  have H1 := Lib.hid h1
  have H2 := Lib.hid h2
  have H3 := Lib.hid h3
  have H4 := Lib.hid h4
  have H5 := Lib.hid h5
  have HW := Lib.hid hw
  have hm2 : m ≤ 1048576 := by omega
  rw [← hm]
  clear hc hac hsz g1 g2 g3 g4 g5 h1 h2 h3 h4 h5 hw hm
  have HL := Lib.hid (Below.refl (w.alloc (.cells #[.slice none 0 0] 25)).heap.size (w.alloc (.cells #[.slice none 0 0] 25)))
  have HR0 := Lib.hid (Kd.R_nil k27 27 (w.alloc (.cells #[.slice none 0 0] 25)) (w.alloc (.cells #[.slice none 0 0] 25)).heap.size (fun _ => True))
  go_enter Try.func3, Try.ntmps3
  go_wp2
  go_loopw [4, 5] (fun o i wr => ∃ (k : Nat), k ≤ m ∧ i = .int .i64 (k : Int) ∧ Hid (Below (w.alloc (.cells #[.slice none 0 0] 25)).heap.size (w.alloc (.cells #[.slice none 0 0] 25)) wr) ∧ Hid (Kd.R k27 27 wr (w.alloc (.cells #[.slice none 0 0] 25)).heap.size (fun _ => True) o ((rs.map oth).take k))) (fun _ i _ => m - (intOf i).toNat)
  case atStart => exact ⟨0, Nat.zero_le _, rfl, HL, HR0⟩
  case round =>
    rename_i o i
    obtain ⟨k, hk, rfl, hB, hR⟩ := hrel
    clear HL HR0
    have QC := Lib.hid (Kd.C_below (Kd.C_alloc HC.out (.cells #[.slice none 0 0] 25)) hB.out)
    obtain ⟨A4, c4, rfl⟩ := Kd.R_slice hR.out
    by_cases hlt : k < m
    · obtain ⟨ad, rfl, b0, b1, b2⟩ := at_T27 QC.out (k : Int) (by omega) (by rw [← HM.out]; omega)
      rw [Int.toNat_natCast] at b0 b1 b2
      have HT := Lib.hid (oth_take rs k (by rw [← HM.out]; exact hlt))
      obtain ⟨X, hX⟩ : ∃ X, X = rd_T27 rs (k : Int) := ⟨_, rfl⟩
      rw [← hX] at b0 b1 b2
      have HX := Lib.hid hX
      clear hX
      have HLN := Lib.hid (show ((rs.map oth).take k).length ≤ 1048576 by simp; omega)
      go_wp2_with (first | ((with_reducible refine gate_builtin (b := .append) (xs := #[.tmp 27, .tmp 29]) rfl ?_); at_builtin; refine Kd.R_append k27 (w0 := w.alloc (.cells #[.slice none 0 0] 25)) (w.alloc (.cells #[.slice none 0 0] 25)).heap.size rfl (.tmp 27) (.tmp 29) 22 27 (.agg #[(.int .i64 0), (.int .i64 0), (.int .i64 0)]) 24 rfl Try.underlying22 info27 rfl (by decide) (by omega) (.slice A4 ((rs.map oth).take k).length c4) ((rs.map oth).take k) (oth X) [.int .i64 X.f0, .int .i64 (wrap64 (3 - X.f1)), .int .i64 (Go.bits .xor .i64 X.f2 1)] (fun _ => True) (fun _ => False) rfl (by first | (go_simp; done) | (go_simp; rfl)) ?aP (fun _ hk => hk.elim) ?aF ?aO ?aB ?aS ?aL ?_; (case aP => exact k27_mkM _ _ _ (oth X)); (case aF => exact (fun _ _ => trivial)); (case aO => exact Kd.R_alloc hR.out _); (case aB => exact hB.out.alloc hB.out.size _); (case aS => exact (hB.out.alloc hB.out.size _).size); (case aL => have := HLN.out; omega); intro v1 w1 ho hb hg hat; rw [HX.out, HT.out] at ho; have N0 := Lib.hid ho; have N1 := Lib.hid hb; clear ho hb hg hat))
      go_roundw
      case rel => exact ⟨k + 1, by omega, by go_num, N1, N0⟩
      case measure => simp [intOf]; omega
    · obtain rfl : k = m := by omega
      have el : ((rs.map oth).take k).length = k := by simp [← HM.out]
      have et : (rs.map oth).take k = rs.map oth := List.take_of_length_le (by simp [← HM.out])
      have em : (rs.map oth).length = k := by simp [← HM.out]
      have hR := hR.out
      rw [el, et] at hR
      have P1 := Lib.hid hR
      have HZ2 := Lib.hid (show (rs.map oth).length ≤ 1048576 by omega)
      have EM := Lib.hid em
      have Q0 := Lib.hid (below_step (below_alloc (Below.refl w.heap.size w) (.cells #[.slice none 0 0] 25)) hB.out)
      have W1 := Lib.hid (show Calls Try.prog 8 #[.pointer (some ⟨w.heap.size, 0, none⟩), .slice A4 k c4] wr fun e w' => e = .returned (.bool true) ∧ TSt wr.heap.size w'.heap.size w' w.heap.size ∧ Round wr.heap.size w.heap.size wr w' from by
        have hP : Kd.R k27 27 wr (w.alloc (.cells #[.slice none 0 0] 25)).heap.size (fun _ => True) (.slice A4 (rs.map oth).length c4) (rs.map oth) := by rw [em]; exact hR
        have h := written_ k0 wr.heap.size wr w.heap.size c4 A4 (rs.map oth) s1 s2 HZ2.out (Nat.le_refl _) (TSt.first hB.out) (Kd.R_reads' hP).2.2 (Kd.R_reads' hP).2.1 (first_far27 hP) G1.out G2.out G3.out G4.out G5.out
        rw [em] at h
        exact h)
      rw [el]
      clear el et em hR
      go_wp2_with (first
        | (go_at_call 8; refine W1.out.mono ?_; rintro e w2 ⟨rfl, p1, p2⟩; have S1 := Lib.hid (TSt.mono p1 (B' := w.heap.size) Q0.out.size); have Q1 := Lib.hid (Round.to_below Q0.out p2 Q0.out.size (Nat.le_refl _)); clear p1 p2 Q0 W1 hB QC P1)
        | (go_at_call 8; refine Calls.mono (by have h := written_ k0 w.heap.size _ _ c A rs r1 r2 HZ.out Q1.out.size S1.out (Kd.C_below HC.out Q1.out) HA.out HF.out H1.out H2.out H3.out H4.out H5.out; rw [← HM.out] at h; exact h) ?_; rintro e w3 ⟨rfl, p1, p2⟩; have S2 := Lib.hid p1; have Q2 := Lib.hid (Round.to_below Q1.out p2 (Nat.le_refl _) (Nat.le_refl _)); clear p1 p2 Q1 S1)
        | (go_at_call 8; refine Calls.mono (by have h := written_ k0 w.heap.size _ _ c A rs r1 r2 HZ.out Q2.out.size S2.out (Kd.C_below HC.out Q2.out) HA.out HF.out H1.out H2.out H3.out H4.out H5.out; rw [← HM.out] at h; exact h) ?_; rintro e w4 ⟨rfl, p1, p2⟩; have Q3 := Lib.hid (Round.to_below Q2.out p2 (Nat.le_refl _) (Nat.le_refl _)); clear p1 p2 Q2 S2)
        | (go_at_call 9; refine (spindlelaw11_awake.calls k0 true _ HW.out).mono ?_; rintro e w5 ⟨rfl, p1⟩; have Q4 := Lib.hid (below_step Q3.out p1); clear p1 Q3))
      go_ret
      exact ⟨rfl, Q4.out⟩
end Go.Proofs.Ytolhfcefpjfobaa.Lend
