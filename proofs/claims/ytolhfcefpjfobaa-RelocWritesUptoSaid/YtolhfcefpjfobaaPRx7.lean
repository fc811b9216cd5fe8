-- Printed by this session's own program (wip/tools/myprint.py) over the kit's print; the parts that are marked 'by hand' are this session's.
import Derived.Test.YtolhfcefpjfobaaPRx0
import Derived.Test.YtolhfcefpjfobaaPRx3
import Derived.Test.YtolhfcefpjfobaaPRx5
import Derived.Test.YtolhfcefpjfobaaPRx6
namespace Go.Proofs.Ytolhfcefpjfobaa.PR
open Go.RowKit Go.Proofs.YtolhfcefpjfobaaW.PrintWords Go.Proofs.YtolhfcefpjfobaaW.PrintLast Go.Proofs.YtolhfcefpjfobaaW.PrintMore
attribute [local go_sem] isSome_setCell max2_int min2_int max_two min_two max_three min_three max_four min_four   -- for this text's walks alone
set_option linter.unusedVariables false
set_option linter.unusedSimpArgs false

/-! ### spindlelaw11_RelocBack: function 6 -/
def spindlelaw11_RelocBack.j0 : Nat → List (S27) → Int → List Int → Bool → Option (Bool)
  | 0, _, _, _, _ => none
  | k + 1, x0, x1, x5, x57 => if x57 = true then (some false) else (if (wrap64 ((x5.length : Int) + 1)) = 0 then (none) else (if 0 ≤ (Int.tmod (Go.bits .and .i64 x1 4611686018427387903) (wrap64 ((x5.length : Int) + 1))) then (if (Int.tmod (Go.bits .and .i64 x1 4611686018427387903) (wrap64 ((x5.length : Int) + 1))) ≤ (x5.length : Int) then ((reloc_Read.f k (x5.take ((Int.tmod (Go.bits .and .i64 x1 4611686018427387903) (wrap64 ((x5.length : Int) + 1))) : Int).toNat)).bind fun bt178 => (if (Int.tmod (Int.tmod (Go.bits .and .i64 x1 4611686018427387903) (wrap64 ((x5.length : Int) + 1))) 16) = 0 then (if bt178.2.2 = 0 then (if bt178.2.1 = 0 then (if 0 ≤ (wrap64 (Int.tdiv (Int.tmod (Go.bits .and .i64 x1 4611686018427387903) (wrap64 ((x5.length : Int) + 1))) 16)) then (if (wrap64 (Int.tdiv (Int.tmod (Go.bits .and .i64 x1 4611686018427387903) (wrap64 ((x5.length : Int) + 1))) 16)) ≤ (x0.length : Int) then ((spindlelaw11_SameRels.f k bt178.1 (x0.take ((wrap64 (Int.tdiv (Int.tmod (Go.bits .and .i64 x1 4611686018427387903) (wrap64 ((x5.length : Int) + 1))) 16)) : Int).toNat)).bind fun t187 => (if t187 = true then ((spindlelaw11_awake.f k).bind fun t188 => (some t188)) else (some false))) else (none)) else (none)) else (some false)) else (some false)) else (if (bt178.1.length : Int) = 0 then (if bt178.2.1 = (wrap64 ((wrap64 (Int.tdiv (Int.tmod (Go.bits .and .i64 x1 4611686018427387903) (wrap64 ((x5.length : Int) + 1))) 16)) * 16)) then (if bt178.2.2 = 110 then ((spindlelaw11_awake.f k).bind fun t189 => (some t189)) else (some false)) else (some false)) else (some false)))) else (none)) else (none)))
def spindlelaw11_RelocBack.f (k : Nat) (l0 : List (S27)) (a1 : Int) : Option (Bool) := (reloc_Write.f k l0).bind fun bt162 => (if bt162.2 = 0 then ((reloc_Read.f k bt162.1).bind fun bt168 => (if bt168.2.2 = 0 then (if bt168.2.1 = 0 then ((spindlelaw11_SameRels.f k bt168.1 l0).bind fun t173 => (if t173 = true then (spindlelaw11_RelocBack.j0 k l0 a1 bt162.1 ((bt162.1.length : Int) != (wrap64 (16 * (l0.length : Int))))) else (spindlelaw11_RelocBack.j0 k l0 a1 bt162.1 true))) else (spindlelaw11_RelocBack.j0 k l0 a1 bt162.1 true)) else (spindlelaw11_RelocBack.j0 k l0 a1 bt162.1 true))) else (if (bt162.1.length : Int) = 0 then (if bt162.2 = 110 then ((spindlelaw11_awake.f k).bind fun t166 => (some t166)) else (if bt162.2 = 111 then ((spindlelaw11_awake.f k).bind fun t167 => (some t167)) else (some false))) else (some false)))
theorem spindlelaw11_RelocBack.mono_l : ∀ k, (∀ y0 y1 y2 y3, LeO (spindlelaw11_RelocBack.j0 k y0 y1 y2 y3) (spindlelaw11_RelocBack.j0 (k + 1) y0 y1 y2 y3))
  | 0 => fun _ _ _ _ r h => by simp [spindlelaw11_RelocBack.j0] at h
  | k + 1 => by
    have ih0 := spindlelaw11_RelocBack.mono_l k
    · intro y0 y1 y2 y3
      unfold spindlelaw11_RelocBack.j0
      repeat' first
      | (with_reducible exact ih0 _ _ _ _)
      | (with_reducible exact reloc_Read.mono _ _)
      | (with_reducible exact reloc_Write.mono _ _)
      | (with_reducible exact spindlelaw11_SameRels.mono _ _ _)
      | (with_reducible exact spindlelaw11_awake.mono _)
      | (with_reducible exact LeO.refl _)
      | (with_reducible exact LeO.none _)
      | (with_reducible refine LeO.ite ?_ ?_)
      | (with_reducible refine LeO.bind ?_ (fun _ => ?_))
      | exact ih0 _ _ _ _
      | exact reloc_Read.mono _ _
      | exact reloc_Write.mono _ _
      | exact spindlelaw11_SameRels.mono _ _ _
      | exact spindlelaw11_awake.mono _
      | exact LeO.none _
      | refine LeO.ite ?_ ?_
      | refine LeO.bind ?_ (fun _ => ?_)
theorem spindlelaw11_RelocBack.mono : ∀ a0 a1 k, LeO (spindlelaw11_RelocBack.f k a0 a1) (spindlelaw11_RelocBack.f (k + 1) a0 a1) := by
  intro a0 a1 k
  have ih0 := spindlelaw11_RelocBack.mono_l k
  unfold spindlelaw11_RelocBack.f
  repeat' first
      | (with_reducible exact ih0 _ _ _ _)
      | (with_reducible exact reloc_Read.mono _ _)
      | (with_reducible exact reloc_Write.mono _ _)
      | (with_reducible exact spindlelaw11_SameRels.mono _ _ _)
      | (with_reducible exact spindlelaw11_awake.mono _)
      | (with_reducible exact LeO.refl _)
      | (with_reducible exact LeO.none _)
      | (with_reducible refine LeO.ite ?_ ?_)
      | (with_reducible refine LeO.bind ?_ (fun _ => ?_))
      | exact ih0 _ _ _ _
      | exact reloc_Read.mono _ _
      | exact reloc_Write.mono _ _
      | exact spindlelaw11_SameRels.mono _ _ _
      | exact spindlelaw11_awake.mono _
      | exact LeO.none _
      | refine LeO.ite ?_ ?_
      | refine LeO.bind ?_ (fun _ => ?_)
set_option maxHeartbeats 8000000 in
set_option maxRecDepth 100000 in
theorem spindlelaw11_RelocBack.calls (k : Nat) (A0 : Option Addr) (c0 : Nat) (l0 : List (S27)) (a1 : Int) (r : Bool) (w : World) (hr0 : Kd.C k27 w A0 l0.length l0) (hc0 : l0.length ≤ c0) (h : spindlelaw11_RelocBack.f k l0 a1 = some r) :
    Calls Try.prog 6 #[.slice A0 l0.length c0, .int .i64 a1] w fun e w' => e = .returned (.bool r) ∧ Below w.heap.size w w' := by
  have HR0 := Aside0.mk hr0
  have HC0 := Aside0.mk hc0
  clear hr0 hc0
  have HB := Aside0.mk (Below.refl w.heap.size w)
  have H : ((reloc_Write.f k l0).bind fun bt162 => (if bt162.2 = 0 then ((reloc_Read.f k bt162.1).bind fun bt168 => (if bt168.2.2 = 0 then (if bt168.2.1 = 0 then ((spindlelaw11_SameRels.f k bt168.1 l0).bind fun t173 => (if t173 = true then (spindlelaw11_RelocBack.j0 k l0 a1 bt162.1 ((bt162.1.length : Int) != (wrap64 (16 * (l0.length : Int))))) else (spindlelaw11_RelocBack.j0 k l0 a1 bt162.1 true))) else (spindlelaw11_RelocBack.j0 k l0 a1 bt162.1 true)) else (spindlelaw11_RelocBack.j0 k l0 a1 bt162.1 true))) else (if (bt162.1.length : Int) = 0 then (if bt162.2 = 110 then ((spindlelaw11_awake.f k).bind fun t166 => (some t166)) else (if bt162.2 = 111 then ((spindlelaw11_awake.f k).bind fun t167 => (some t167)) else (some false))) else (some false)))) = some r := h
  clear h
  replace H := Option.bind_eq_some_iff.mp H
  obtain ⟨⟨t162, t163⟩, A30, H⟩ := H
  replace H : (if t163 = 0 then ((reloc_Read.f k t162).bind fun bt168 => (if bt168.2.2 = 0 then (if bt168.2.1 = 0 then ((spindlelaw11_SameRels.f k bt168.1 l0).bind fun t173 => (if t173 = true then (spindlelaw11_RelocBack.j0 k l0 a1 t162 ((t162.length : Int) != (wrap64 (16 * (l0.length : Int))))) else (spindlelaw11_RelocBack.j0 k l0 a1 t162 true))) else (spindlelaw11_RelocBack.j0 k l0 a1 t162 true)) else (spindlelaw11_RelocBack.j0 k l0 a1 t162 true))) else (if (t162.length : Int) = 0 then (if t163 = 110 then ((spindlelaw11_awake.f k).bind fun t166 => (some t166)) else (if t163 = 111 then ((spindlelaw11_awake.f k).bind fun t167 => (some t167)) else (some false))) else (some false))) = some r := H
  have A3 := Aside0.mk A30
  clear A30
  by_cases c4 : t163 = 0
  · rw [if_pos c4] at H
    have c4b0 : (t163 == 0) = true := beq_iff_eq.mpr c4
    have c4b1 : (t163 != 0) = false := bne_eq_false_iff_eq.mpr c4
    clear c4
    replace H := Option.bind_eq_some_iff.mp H
    obtain ⟨⟨t168, t169, t170⟩, A50, H⟩ := H
    replace H : (if t170 = 0 then (if t169 = 0 then ((spindlelaw11_SameRels.f k t168 l0).bind fun t173 => (if t173 = true then (spindlelaw11_RelocBack.j0 k l0 a1 t162 ((t162.length : Int) != (wrap64 (16 * (l0.length : Int))))) else (spindlelaw11_RelocBack.j0 k l0 a1 t162 true))) else (spindlelaw11_RelocBack.j0 k l0 a1 t162 true)) else (spindlelaw11_RelocBack.j0 k l0 a1 t162 true)) = some r := H
    have A5 := Aside0.mk A50
    clear A50
    have HC6 := Aside0.mk H
    clear H
    go_enter Try.func6, Try.ntmps6
    go_upto_region 5 with (first | ((with_reducible refine gate_callee (f := 13) rfl ?_); refine goesL_ (some 13) rfl rfl Try.func13 (by kernel_rfl) rfl #[.slice A0 l0.length c0] rfl (by (try simp only [List.map_toArray, List.map_cons, List.map_nil]); first | done | rfl | (simp only [List.length_drop, List.length_take]; rfl)) ?_; (with_reducible refine (reloc_Write.calls k _ _ l0 t162 t163 _ ?side1 ?side2 A3.out).mono ?_); (case side1 => repeat (first | exact HR0.out | (with_reducible refine Kd.C_alloc ?_ _) | (with_reducible refine Kd.C_drewN ?_ _) | (with_reducible refine Kd.C_drew ?_))); (case side2 => exact HC0.out); rintro e w7 ⟨v164, rfl, ho0, hb⟩; refine ⟨_, rfl, ?_⟩; have n0_ := Aside0.mk (Kd.R_lower ho0 (below_size (by repeat (first | (with_reducible first | exact HB.out | apply below_alloc | apply pw_below_drewN | apply below_drew1) | exact HB.out)))); have n1_ := Aside0.mk (below_step (by repeat (first | (with_reducible first | exact HB.out | apply below_alloc | apply pw_below_drewN | apply below_drew1) | exact HB.out)) hb); clear HB; have HO165 := n0_; have HB := n1_; clear n0_ n1_; (try clear hb); (try clear hb2); (try clear hk); (try clear hi); (try clear ho0); obtain ⟨Ao8, co8, eo8⟩ := Kd.R_slice HO165.out; subst eo8) | ((with_reducible refine gate_callee (f := 16) rfl ?_); refine goesL_ (some 34) rfl rfl Try.func16 (by kernel_rfl) rfl #[.slice Ao8 t162.length co8] rfl (by (try simp only [List.map_toArray, List.map_cons, List.map_nil]); first | done | rfl | (simp only [List.length_drop, List.length_take]; rfl)) ?_; (with_reducible refine (reloc_Read.calls k _ _ t162 t168 t169 t170 _ ?side1 ?side2 A5.out).mono ?_); (case side1 => repeat (first | exact (Kd.R_reads' HO165.out).2.2 | (with_reducible refine Kd.C_alloc ?_ _) | (with_reducible refine Kd.C_drewN ?_ _) | (with_reducible refine Kd.C_drew ?_))); (case side2 => exact (Kd.R_reads' HO165.out).2.1); rintro e w9 ⟨v171, rfl, ho0, hb⟩; refine ⟨_, rfl, ?_⟩; have n0_ := Aside0.mk (Kd.R_below (by (with_reducible repeat (first | apply Kd.R_alloc | apply Kd.R_drewN | apply Kd.R_drew)); exact HO165.out) hb); have n1_ := Aside0.mk (Kd.R_lower ho0 (below_size (by repeat (first | (with_reducible first | exact HB.out | apply below_alloc | apply pw_below_drewN | apply below_drew1) | exact HB.out)))); have n2_ := Aside0.mk (below_step (by repeat (first | (with_reducible first | exact HB.out | apply below_alloc | apply pw_below_drewN | apply below_drew1) | exact HB.out)) hb); clear HO165; clear HB; have HO165 := n0_; have HO172 := n1_; have HB := n2_; clear n0_ n1_ n2_; (try clear hb); (try clear hb2); (try clear hk); (try clear hi); (try clear ho0)))
    (try simp only [Act.put, List.setIfInBounds_toArray, List.set_cons_zero, List.set_cons_succ])
    go_cut [57] (fun v57 wc => ∃ (kq : Nat) (x57_5 : Bool), v57 = .bool x57_5 ∧ Aside0 (spindlelaw11_RelocBack.j0 kq l0 a1 t162 x57_5 = some r) ∧ Aside0 (kq ≤ k) ∧ Aside0 (Kd.R (Kd.int .u8) 5 wc w.heap.size (fun _ => True) (.slice Ao8 t162.length co8) t162) ∧ Aside0 (Below w.heap.size w wc))
    case first =>
      have H := HC6.out
      clear HC6
      by_cases c10 : t170 = 0
      · rw [if_pos c10] at H
        have c10b0 : (t170 == 0) = true := beq_iff_eq.mpr c10
        have c10b1 : (t170 != 0) = false := bne_eq_false_iff_eq.mpr c10
        clear c10
        (first | rw [c10b0] | (simp only [i64_w, i32_w]; rw [c10b0]) | skip)
        by_cases c11 : t169 = 0
        · rw [if_pos c11] at H
          have c11b0 : (t169 == 0) = true := beq_iff_eq.mpr c11
          have c11b1 : (t169 != 0) = false := bne_eq_false_iff_eq.mpr c11
          clear c11
          replace H := Option.bind_eq_some_iff.mp H
          obtain ⟨t173, A120, H⟩ := H
          replace H : (if t173 = true then (spindlelaw11_RelocBack.j0 k l0 a1 t162 ((t162.length : Int) != (wrap64 (16 * (l0.length : Int))))) else (spindlelaw11_RelocBack.j0 k l0 a1 t162 true)) = some r := H
          have A12 := Aside0.mk A120
          clear A120
          by_cases c13 : t173 = true
          · subst c13
            have H1 : (spindlelaw11_RelocBack.j0 k l0 a1 t162 ((t162.length : Int) != (wrap64 (16 * (l0.length : Int))))) = some r := by rw [if_pos rfl] at H; exact H
            clear H
            have H := H1
            clear H1
            have H' := Aside0.mk H
            clear H
            obtain ⟨Ao14, co14, eo14⟩ := Kd.R_slice HO172.out
            subst eo14
            go_wp2_with (first | (go_at_call 19; (with_reducible refine (spindlelaw11_SameRels.calls k _ _ t168 _ _ l0 true _ ?side1 ?side2 ?side3 ?side4 A12.out).mono ?_); (case side1 => repeat (first | exact (Kd.R_reads' HO172.out).2.2 | (with_reducible refine Kd.C_alloc ?_ _) | (with_reducible refine Kd.C_drewN ?_ _) | (with_reducible refine Kd.C_drew ?_))); (case side2 => exact (Kd.R_reads' HO172.out).2.1); (case side3 => repeat (first | exact (Kd.C_below HR0.out HB.out) | (with_reducible refine Kd.C_alloc ?_ _) | (with_reducible refine Kd.C_drewN ?_ _) | (with_reducible refine Kd.C_drew ?_))); (case side4 => exact HC0.out); rintro e w' ⟨rfl, ⟨nd, rfl⟩⟩))
            go_meet
            case rel => exact ⟨_, (((t162.length : Int) != (wrap64 (16 * (l0.length : Int))))), (by first | rfl | (simp; done) | (simp [*]; done)), H', ⟨by first | omega | exact Nat.le_refl _⟩, ⟨by (with_reducible repeat (first | apply Kd.R_alloc | apply Kd.R_drewN | apply Kd.R_drew)); exact HO165.out⟩, ⟨by repeat (first | (with_reducible first | exact HB.out | apply below_alloc | apply pw_below_drewN | apply below_drew1) | exact HB.out)⟩⟩
          · replace c13 := Bool.eq_false_iff.mpr c13
            subst c13
            have H1 : (spindlelaw11_RelocBack.j0 k l0 a1 t162 true) = some r := by rw [if_neg (show ¬ (false = true) by decide)] at H; exact H
            clear H
            have H := H1
            clear H1
            have H' := Aside0.mk H
            clear H
            obtain ⟨Ao15, co15, eo15⟩ := Kd.R_slice HO172.out
            subst eo15
            go_wp2_with (first | (go_at_call 19; (with_reducible refine (spindlelaw11_SameRels.calls k _ _ t168 _ _ l0 false _ ?side1 ?side2 ?side3 ?side4 A12.out).mono ?_); (case side1 => repeat (first | exact (Kd.R_reads' HO172.out).2.2 | (with_reducible refine Kd.C_alloc ?_ _) | (with_reducible refine Kd.C_drewN ?_ _) | (with_reducible refine Kd.C_drew ?_))); (case side2 => exact (Kd.R_reads' HO172.out).2.1); (case side3 => repeat (first | exact (Kd.C_below HR0.out HB.out) | (with_reducible refine Kd.C_alloc ?_ _) | (with_reducible refine Kd.C_drewN ?_ _) | (with_reducible refine Kd.C_drew ?_))); (case side4 => exact HC0.out); rintro e w' ⟨rfl, ⟨nd, rfl⟩⟩))
            go_meet
            case rel => exact ⟨_, (true), (by first | rfl | (simp; done) | (simp [*]; done)), H', ⟨by first | omega | exact Nat.le_refl _⟩, ⟨by (with_reducible repeat (first | apply Kd.R_alloc | apply Kd.R_drewN | apply Kd.R_drew)); exact HO165.out⟩, ⟨by repeat (first | (with_reducible first | exact HB.out | apply below_alloc | apply pw_below_drewN | apply below_drew1) | exact HB.out)⟩⟩
        · rw [if_neg c11] at H
          have c11b0 : (t169 == 0) = false := beq_eq_false_iff_ne.mpr c11
          have c11b1 : (t169 != 0) = true := bne_iff_ne.mpr c11
          have H' := Aside0.mk H
          clear H
          go_wp2
          go_meet
          case rel => exact ⟨_, (true), (by first | rfl | (simp; done) | (simp [*]; done)), H', ⟨by first | omega | exact Nat.le_refl _⟩, ⟨by (with_reducible repeat (first | apply Kd.R_alloc | apply Kd.R_drewN | apply Kd.R_drew)); exact HO165.out⟩, ⟨by repeat (first | (with_reducible first | exact HB.out | apply below_alloc | apply pw_below_drewN | apply below_drew1) | exact HB.out)⟩⟩
      · rw [if_neg c10] at H
        have c10b0 : (t170 == 0) = false := beq_eq_false_iff_ne.mpr c10
        have c10b1 : (t170 != 0) = true := bne_iff_ne.mpr c10
        (first | rw [c10b0] | (simp only [i64_w, i32_w]; rw [c10b0]) | skip)
        have H' := Aside0.mk H
        clear H
        go_wp2
        go_meet
        case rel => exact ⟨_, (true), (by first | rfl | (simp; done) | (simp [*]; done)), H', ⟨by first | omega | exact Nat.le_refl _⟩, ⟨by (with_reducible repeat (first | apply Kd.R_alloc | apply Kd.R_drewN | apply Kd.R_drew)); exact HO165.out⟩, ⟨by repeat (first | (with_reducible first | exact HB.out | apply below_alloc | apply pw_below_drewN | apply below_drew1) | exact HB.out)⟩⟩
    case rest =>
      clear HC6
      try clear c1
      try clear p2
      try clear c4
      try clear c4b0
      try clear c4b1
      try clear c6
      try clear p6
      try clear c10
      try clear c10b0
      try clear c10b1
      try clear c11
      try clear c11b0
      try clear c11b1
      try clear c13
      obtain ⟨kq, x57_5, rfl, HA, HJ5, HO_5, HB⟩ := hcut
      cases kq with
      | zero => exact absurd HA.out (by simp [spindlelaw11_RelocBack.j0])
      | succ kj5 =>
        have H := HA.out
        clear HA
        simp only [spindlelaw11_RelocBack.j0] at H
        by_cases c16 : x57_5 = true
        · subst c16
          have H1 : (some false) = some r := by rw [if_pos rfl] at H; exact H
          clear H
          have H := H1
          clear H1
          obtain rfl := Option.some.inj H
          go_wp2
          go_ret
          exact ⟨by first | rfl | (simp [errW_none, errW_some] <;> rfl) | (simp [*, errW_none, errW_some] <;> rfl), by repeat (first | (with_reducible first | exact HB.out | apply below_alloc | apply pw_below_drewN | apply below_drew1) | exact HB.out)⟩
        · replace c16 := Bool.eq_false_iff.mpr c16
          subst c16
          have H1 : (if (wrap64 ((t162.length : Int) + 1)) = 0 then (none) else (if 0 ≤ (Int.tmod (Go.bits .and .i64 a1 4611686018427387903) (wrap64 ((t162.length : Int) + 1))) then (if (Int.tmod (Go.bits .and .i64 a1 4611686018427387903) (wrap64 ((t162.length : Int) + 1))) ≤ (t162.length : Int) then ((reloc_Read.f kj5 (t162.take ((Int.tmod (Go.bits .and .i64 a1 4611686018427387903) (wrap64 ((t162.length : Int) + 1))) : Int).toNat)).bind fun bt178 => (if (Int.tmod (Int.tmod (Go.bits .and .i64 a1 4611686018427387903) (wrap64 ((t162.length : Int) + 1))) 16) = 0 then (if bt178.2.2 = 0 then (if bt178.2.1 = 0 then (if 0 ≤ (wrap64 (Int.tdiv (Int.tmod (Go.bits .and .i64 a1 4611686018427387903) (wrap64 ((t162.length : Int) + 1))) 16)) then (if (wrap64 (Int.tdiv (Int.tmod (Go.bits .and .i64 a1 4611686018427387903) (wrap64 ((t162.length : Int) + 1))) 16)) ≤ (l0.length : Int) then ((spindlelaw11_SameRels.f kj5 bt178.1 (l0.take ((wrap64 (Int.tdiv (Int.tmod (Go.bits .and .i64 a1 4611686018427387903) (wrap64 ((t162.length : Int) + 1))) 16)) : Int).toNat)).bind fun t187 => (if t187 = true then ((spindlelaw11_awake.f kj5).bind fun t188 => (some t188)) else (some false))) else (none)) else (none)) else (some false)) else (some false)) else (if (bt178.1.length : Int) = 0 then (if bt178.2.1 = (wrap64 ((wrap64 (Int.tdiv (Int.tmod (Go.bits .and .i64 a1 4611686018427387903) (wrap64 ((t162.length : Int) + 1))) 16)) * 16)) then (if bt178.2.2 = 110 then ((spindlelaw11_awake.f kj5).bind fun t189 => (some t189)) else (some false)) else (some false)) else (some false)))) else (none)) else (none))) = some r := by rw [if_neg (show ¬ (false = true) by decide)] at H; exact H
          clear H
          have H := H1
          clear H1
          by_cases c17 : (wrap64 ((t162.length : Int) + 1)) = 0
          · rw [if_pos c17] at H
            exact absurd H (by simp)
          · rw [if_neg c17] at H
            have c17b0 : ((wrap64 ((t162.length : Int) + 1)) == 0) = false := beq_eq_false_iff_ne.mpr c17
            have c17b1 : ((wrap64 ((t162.length : Int) + 1)) != 0) = true := bne_iff_ne.mpr c17
            obtain ⟨ji18, hji18⟩ : ∃ j_ : Int, (Int.tmod (Go.bits .and .i64 a1 4611686018427387903) (wrap64 ((t162.length : Int) + 1))) = j_ := ⟨_, rfl⟩
            replace H : (if 0 ≤ (ji18) then (if (ji18) ≤ (t162.length : Int) then ((reloc_Read.f kj5 (t162.take ((ji18) : Int).toNat)).bind fun bt178 => (if (Int.tmod (ji18) 16) = 0 then (if bt178.2.2 = 0 then (if bt178.2.1 = 0 then (if 0 ≤ (wrap64 (Int.tdiv (ji18) 16)) then (if (wrap64 (Int.tdiv (ji18) 16)) ≤ (l0.length : Int) then ((spindlelaw11_SameRels.f kj5 bt178.1 (l0.take ((wrap64 (Int.tdiv (ji18) 16)) : Int).toNat)).bind fun t187 => (if t187 = true then ((spindlelaw11_awake.f kj5).bind fun t188 => (some t188)) else (some false))) else (none)) else (none)) else (some false)) else (some false)) else (if (bt178.1.length : Int) = 0 then (if bt178.2.1 = (wrap64 ((wrap64 (Int.tdiv (ji18) 16)) * 16)) then (if bt178.2.2 = 110 then ((spindlelaw11_awake.f kj5).bind fun t189 => (some t189)) else (some false)) else (some false)) else (some false)))) else (none)) else (none)) = some r := by first | (rw [hji18] at H; exact H) | (simp only [hji18] at H ⊢; exact H)
            by_cases c19 : 0 ≤ (ji18)
            · rw [if_pos c19] at H
              have c19b0 := eq_true c19
              have c19b1 : decide (0 ≤ (ji18)) = true := decide_eq_true c19
              clear c19
              by_cases c20 : (ji18) ≤ (t162.length : Int)
              · rw [if_pos c20] at H
                have c20b0 := eq_true c20
                have c20b1 : decide ((ji18) ≤ (t162.length : Int)) = true := decide_eq_true c20
                clear c20
                obtain ⟨y174, hy174⟩ : ∃ y_ : List Int, y_ = (t162.take ((ji18) : Int).toNat) := ⟨_, rfl⟩
                replace H : ((reloc_Read.f kj5 y174).bind fun bt178 => (if (Int.tmod (ji18) 16) = 0 then (if bt178.2.2 = 0 then (if bt178.2.1 = 0 then (if 0 ≤ (wrap64 (Int.tdiv (ji18) 16)) then (if (wrap64 (Int.tdiv (ji18) 16)) ≤ (l0.length : Int) then ((spindlelaw11_SameRels.f kj5 bt178.1 (l0.take ((wrap64 (Int.tdiv (ji18) 16)) : Int).toNat)).bind fun t187 => (if t187 = true then ((spindlelaw11_awake.f kj5).bind fun t188 => (some t188)) else (some false))) else (none)) else (none)) else (some false)) else (some false)) else (if (bt178.1.length : Int) = 0 then (if bt178.2.1 = (wrap64 ((wrap64 (Int.tdiv (ji18) 16)) * 16)) then (if bt178.2.2 = 110 then ((spindlelaw11_awake.f kj5).bind fun t189 => (some t189)) else (some false)) else (some false)) else (some false)))) = some r := by first | (rw [hy174]; with_reducible exact H) | (have H2_ := (Option.bind_some _ _).symm.trans H; rw [hy174]; with_reducible exact H2_) | (have H2_ := (Option.bind_some _ _).symm.trans H; with_reducible exact H2_) | with_reducible exact H | (rw [hy174]; exact H) | exact H
                have Ny174 := Aside0.mk hy174
                clear hy174
                replace H := Option.bind_eq_some_iff.mp H
                obtain ⟨⟨t178, t179, t180⟩, A210, H⟩ := H
                replace H : (if (Int.tmod (ji18) 16) = 0 then (if t180 = 0 then (if t179 = 0 then (if 0 ≤ (wrap64 (Int.tdiv (ji18) 16)) then (if (wrap64 (Int.tdiv (ji18) 16)) ≤ (l0.length : Int) then ((spindlelaw11_SameRels.f kj5 t178 (l0.take ((wrap64 (Int.tdiv (ji18) 16)) : Int).toNat)).bind fun t187 => (if t187 = true then ((spindlelaw11_awake.f kj5).bind fun t188 => (some t188)) else (some false))) else (none)) else (none)) else (some false)) else (some false)) else (if (t178.length : Int) = 0 then (if t179 = (wrap64 ((wrap64 (Int.tdiv (ji18) 16)) * 16)) then (if t180 = 110 then ((spindlelaw11_awake.f kj5).bind fun t189 => (some t189)) else (some false)) else (some false)) else (some false))) = some r := H
                have A21 := Aside0.mk A210
                clear A210
                by_cases c22 : (Int.tmod (ji18) 16) = 0
                · rw [if_pos c22] at H
                  have c22b0 : ((Int.tmod (ji18) 16) == 0) = true := beq_iff_eq.mpr c22
                  have c22b1 : ((Int.tmod (ji18) 16) != 0) = false := bne_eq_false_iff_eq.mpr c22
                  clear c22
                  by_cases c23 : t180 = 0
                  · rw [if_pos c23] at H
                    have c23b0 : (t180 == 0) = true := beq_iff_eq.mpr c23
                    have c23b1 : (t180 != 0) = false := bne_eq_false_iff_eq.mpr c23
                    clear c23
                    by_cases c24 : t179 = 0
                    · rw [if_pos c24] at H
                      have c24b0 : (t179 == 0) = true := beq_iff_eq.mpr c24
                      have c24b1 : (t179 != 0) = false := bne_eq_false_iff_eq.mpr c24
                      clear c24
                      obtain ⟨ji25, hji25⟩ : ∃ j_ : Int, (wrap64 (Int.tdiv (ji18) 16)) = j_ := ⟨_, rfl⟩
                      replace H : (if 0 ≤ (ji25) then (if (ji25) ≤ (l0.length : Int) then ((spindlelaw11_SameRels.f kj5 t178 (l0.take ((ji25) : Int).toNat)).bind fun t187 => (if t187 = true then ((spindlelaw11_awake.f kj5).bind fun t188 => (some t188)) else (some false))) else (none)) else (none)) = some r := by first | (rw [hji25] at H; exact H) | (simp only [hji25] at H ⊢; exact H)
                      (try rw [hji25] at A21)
                      have hji25w : (IntKind.i64.wrap (Int.tdiv (ji18) 16)) = ji25 := (i64_w _).trans hji25
                      by_cases c26 : 0 ≤ (ji25)
                      · rw [if_pos c26] at H
                        have c26b0 := eq_true c26
                        have c26b1 : decide (0 ≤ (ji25)) = true := decide_eq_true c26
                        clear c26
                        by_cases c27 : (ji25) ≤ (l0.length : Int)
                        · rw [if_pos c27] at H
                          have c27b0 := eq_true c27
                          have c27b1 : decide ((ji25) ≤ (l0.length : Int)) = true := decide_eq_true c27
                          clear c27
                          obtain ⟨y183, hy183⟩ : ∃ y_ : List (S27), y_ = (l0.take ((ji25) : Int).toNat) := ⟨_, rfl⟩
                          replace H : ((spindlelaw11_SameRels.f kj5 t178 y183).bind fun t187 => (if t187 = true then ((spindlelaw11_awake.f kj5).bind fun t188 => (some t188)) else (some false))) = some r := by first | (rw [hy183]; with_reducible exact H) | (have H2_ := (Option.bind_some _ _).symm.trans H; rw [hy183]; with_reducible exact H2_) | (have H2_ := (Option.bind_some _ _).symm.trans H; with_reducible exact H2_) | with_reducible exact H | (rw [hy183]; exact H) | exact H
                          have Ny183 := Aside0.mk hy183
                          clear hy183
                          replace H := Option.bind_eq_some_iff.mp H
                          obtain ⟨t187, A280, H⟩ := H
                          replace H : (if t187 = true then ((spindlelaw11_awake.f kj5).bind fun t188 => (some t188)) else (some false)) = some r := H
                          have A28 := Aside0.mk A280
                          clear A280
                          by_cases c29 : t187 = true
                          · subst c29
                            have H1 : ((spindlelaw11_awake.f kj5).bind fun t188 => (some t188)) = some r := by rw [if_pos rfl] at H; exact H
                            clear H
                            have H := H1
                            clear H1
                            replace H := Option.bind_eq_some_iff.mp H
                            obtain ⟨t188, A300, H⟩ := H
                            replace H : (some t188) = some r := H
                            have A30 := Aside0.mk A300
                            clear A300
                            obtain rfl := Option.some.inj H
                            have q31 : ((ji18) : Int) ≤ ((t162.length : Int) : Int) := of_decide_eq_true (by first | (with_reducible assumption) | assumption)
                            obtain ⟨i031, hi031, _, hsz31, _⟩ := info_parts info5
                            have hroom31 : t162.length ≤ co8 := (Kd.R_reads' HO_5.out).2.1
                            have hC31 : Kd.C (Kd.int .u8) _ Ao8 t162.length t162 := (Kd.R_reads' HO_5.out).2.2
                            have hcut31 := cut_to (P := Try.prog) 30 5 .i64 Try.underlying30 hi031 Ao8 t162.length co8 (ji18) (of_decide_eq_true (by first | (with_reducible assumption) | assumption)) q31 hroom31
                            have hr31 := Kd.C_take (m := ((ji18) : Int).toNat) hC31 (by omega)
                            have hy31 : y174.length = ((ji18) : Int).toNat := (by rw [Ny174.out, List.length_take]; omega)
                            rw [← Ny174.out] at hr31
                            rw [← hy31] at hcut31
                            have HR177 := Aside0.mk hr31
                            have HC177 := Aside0.mk (show y174.length ≤ co8 from by omega)
                            clear hr31 hC31 hroom31 hi031 hsz31
                            have KY31 := Aside0.mk hy31
                            clear hy31
                            have KL31 := Aside0.mk (show ((ji18) : Int).toNat ≤ t162.length from by omega)
                            replace q31 := eq_true q31
                            go_wp2_with (first | ((with_reducible refine gate_callee (f := 16) rfl ?_); refine goesL_ (some 68) rfl rfl Try.func16 (by kernel_rfl) rfl #[.slice Ao8 y174.length co8] rfl (by (try simp only [List.map_toArray, List.map_cons, List.map_nil]); first | done | rfl | (simp only [List.length_drop, List.length_take]; rfl)) ?_; (with_reducible refine (reloc_Read.calls kj5 _ _ y174 t178 t179 t180 _ ?side1 ?side2 A21.out).mono ?_); (case side1 => repeat (first | exact (by repeat (first | (with_reducible exact HR177.out) | (with_reducible refine Kd.C_alloc ?_ _) | (with_reducible refine Kd.C_drewN ?_ _) | (with_reducible refine Kd.C_drew ?_) | exact HR177.out)) | (with_reducible refine Kd.C_alloc ?_ _) | (with_reducible refine Kd.C_drewN ?_ _) | (with_reducible refine Kd.C_drew ?_))); (case side2 => exact HC177.out); rintro e w32 ⟨v181, rfl, ho0, hb⟩; refine ⟨_, rfl, ?_⟩; have n0_ := Aside0.mk (Kd.R_below (by (with_reducible repeat (first | apply Kd.R_alloc | apply Kd.R_drewN | apply Kd.R_drew)); exact HO_5.out) hb); have n1_ := Aside0.mk (Kd.R_lower ho0 (below_size (by repeat (first | (with_reducible first | exact HB.out | apply below_alloc | apply pw_below_drewN | apply below_drew1) | exact HB.out)))); have n2_ := Aside0.mk (Kd.C_below (by repeat (first | (with_reducible exact HR177.out) | (with_reducible refine Kd.C_alloc ?_ _) | (with_reducible refine Kd.C_drewN ?_ _) | (with_reducible refine Kd.C_drew ?_) | exact HR177.out)) hb); have n3_ := Aside0.mk (below_step (by repeat (first | (with_reducible first | exact HB.out | apply below_alloc | apply pw_below_drewN | apply below_drew1) | exact HB.out)) hb); clear HO_5; clear HR177; clear HB; have HO_5 := n0_; have HO182 := n1_; have HR177 := n2_; have HB := n3_; clear n0_ n1_ n2_ n3_; (try clear hb); (try clear hb2); (try clear hk); (try clear hi); (try clear ho0); have q33 : ((ji25) : Int) ≤ ((l0.length : Int) : Int) := of_decide_eq_true (by first | (with_reducible assumption) | assumption); obtain ⟨i033, hi033, _, hsz33, _⟩ := info_parts info27; have hroom33 : l0.length ≤ c0 := HC0.out; have hC33 : Kd.C k27 _ A0 l0.length l0 := HR0.out; have hcut33 := cut_to (P := Try.prog) 22 27 .i64 Try.underlying22 hi033 A0 l0.length c0 (ji25) (of_decide_eq_true (by first | (with_reducible assumption) | assumption)) q33 hroom33; have hr33 := Kd.C_take (m := ((ji25) : Int).toNat) hC33 (by omega); have hy33 : y183.length = ((ji25) : Int).toNat := (by rw [Ny183.out, List.length_take]; omega); rw [← Ny183.out] at hr33; rw [← hy33] at hcut33; have HR186 := Aside0.mk hr33; have HC186 := Aside0.mk (show y183.length ≤ c0 from by omega); clear hr33 hC33 hroom33 hi033 hsz33; have KY33 := Aside0.mk hy33; clear hy33; replace q33 := eq_true q33; obtain ⟨Ao34, co34, eo34⟩ := Kd.R_slice HO182.out; subst eo34) | (go_at_call 19; (with_reducible refine (spindlelaw11_SameRels.calls kj5 _ _ t178 _ _ y183 true _ ?side1 ?side2 ?side3 ?side4 A28.out).mono ?_); (case side1 => repeat (first | exact (Kd.R_reads' HO182.out).2.2 | (with_reducible refine Kd.C_alloc ?_ _) | (with_reducible refine Kd.C_drewN ?_ _) | (with_reducible refine Kd.C_drew ?_))); (case side2 => exact (Kd.R_reads' HO182.out).2.1); (case side3 => repeat (first | exact (Kd.C_below HR186.out HB.out) | (with_reducible refine Kd.C_alloc ?_ _) | (with_reducible refine Kd.C_drewN ?_ _) | (with_reducible refine Kd.C_drew ?_))); (case side4 => exact HC186.out); rintro e w' ⟨rfl, ⟨nd, rfl⟩⟩) | (go_at_call 9; (with_reducible refine (spindlelaw11_awake.calls kj5  t188 _ A30.out).mono ?_); rintro e w35 ⟨rfl, hb⟩; have n0_ := Aside0.mk (Kd.R_below (by (with_reducible repeat (first | apply Kd.R_alloc | apply Kd.R_drewN | apply Kd.R_drew)); exact HO_5.out) hb); have n1_ := Aside0.mk (Kd.R_below (by (with_reducible repeat (first | apply Kd.R_alloc | apply Kd.R_drewN | apply Kd.R_drew)); exact HO182.out) hb); have n2_ := Aside0.mk (Kd.C_below (by repeat (first | (with_reducible exact HR177.out) | (with_reducible refine Kd.C_alloc ?_ _) | (with_reducible refine Kd.C_drewN ?_ _) | (with_reducible refine Kd.C_drew ?_) | exact HR177.out)) hb); have n3_ := Aside0.mk (below_step (by repeat (first | (with_reducible first | exact HB.out | apply below_alloc | apply pw_below_drewN | apply below_drew1) | exact HB.out)) hb); clear HO_5; clear HO182; clear HR177; clear HB; have HO_5 := n0_; have HO182 := n1_; have HR177 := n2_; have HB := n3_; clear n0_ n1_ n2_ n3_; (try clear hb); (try clear hb2); (try clear hk); (try clear hi)))
                            go_ret
                            exact ⟨by first | rfl | (simp [errW_none, errW_some] <;> rfl) | (simp only [← hji18, ← hji25]; first | rfl | (simp [errW_none, errW_some] <;> rfl)) | (simp [*, errW_none, errW_some] <;> rfl), by repeat (first | (with_reducible first | exact HB.out | apply below_alloc | apply pw_below_drewN | apply below_drew1) | exact HB.out)⟩
                          · replace c29 := Bool.eq_false_iff.mpr c29
                            subst c29
                            have H1 : (some false) = some r := by rw [if_neg (show ¬ (false = true) by decide)] at H; exact H
                            clear H
                            have H := H1
                            clear H1
                            obtain rfl := Option.some.inj H
                            have q36 : ((ji18) : Int) ≤ ((t162.length : Int) : Int) := of_decide_eq_true (by first | (with_reducible assumption) | assumption)
                            obtain ⟨i036, hi036, _, hsz36, _⟩ := info_parts info5
                            have hroom36 : t162.length ≤ co8 := (Kd.R_reads' HO_5.out).2.1
                            have hC36 : Kd.C (Kd.int .u8) _ Ao8 t162.length t162 := (Kd.R_reads' HO_5.out).2.2
                            have hcut36 := cut_to (P := Try.prog) 30 5 .i64 Try.underlying30 hi036 Ao8 t162.length co8 (ji18) (of_decide_eq_true (by first | (with_reducible assumption) | assumption)) q36 hroom36
                            have hr36 := Kd.C_take (m := ((ji18) : Int).toNat) hC36 (by omega)
                            have hy36 : y174.length = ((ji18) : Int).toNat := (by rw [Ny174.out, List.length_take]; omega)
                            rw [← Ny174.out] at hr36
                            rw [← hy36] at hcut36
                            have HR177 := Aside0.mk hr36
                            have HC177 := Aside0.mk (show y174.length ≤ co8 from by omega)
                            clear hr36 hC36 hroom36 hi036 hsz36
                            have KY36 := Aside0.mk hy36
                            clear hy36
                            have KL36 := Aside0.mk (show ((ji18) : Int).toNat ≤ t162.length from by omega)
                            replace q36 := eq_true q36
                            go_wp2_with (first | ((with_reducible refine gate_callee (f := 16) rfl ?_); refine goesL_ (some 68) rfl rfl Try.func16 (by kernel_rfl) rfl #[.slice Ao8 y174.length co8] rfl (by (try simp only [List.map_toArray, List.map_cons, List.map_nil]); first | done | rfl | (simp only [List.length_drop, List.length_take]; rfl)) ?_; (with_reducible refine (reloc_Read.calls kj5 _ _ y174 t178 t179 t180 _ ?side1 ?side2 A21.out).mono ?_); (case side1 => repeat (first | exact (by repeat (first | (with_reducible exact HR177.out) | (with_reducible refine Kd.C_alloc ?_ _) | (with_reducible refine Kd.C_drewN ?_ _) | (with_reducible refine Kd.C_drew ?_) | exact HR177.out)) | (with_reducible refine Kd.C_alloc ?_ _) | (with_reducible refine Kd.C_drewN ?_ _) | (with_reducible refine Kd.C_drew ?_))); (case side2 => exact HC177.out); rintro e w37 ⟨v181, rfl, ho0, hb⟩; refine ⟨_, rfl, ?_⟩; have n0_ := Aside0.mk (Kd.R_below (by (with_reducible repeat (first | apply Kd.R_alloc | apply Kd.R_drewN | apply Kd.R_drew)); exact HO_5.out) hb); have n1_ := Aside0.mk (Kd.R_lower ho0 (below_size (by repeat (first | (with_reducible first | exact HB.out | apply below_alloc | apply pw_below_drewN | apply below_drew1) | exact HB.out)))); have n2_ := Aside0.mk (Kd.C_below (by repeat (first | (with_reducible exact HR177.out) | (with_reducible refine Kd.C_alloc ?_ _) | (with_reducible refine Kd.C_drewN ?_ _) | (with_reducible refine Kd.C_drew ?_) | exact HR177.out)) hb); have n3_ := Aside0.mk (below_step (by repeat (first | (with_reducible first | exact HB.out | apply below_alloc | apply pw_below_drewN | apply below_drew1) | exact HB.out)) hb); clear HO_5; clear HR177; clear HB; have HO_5 := n0_; have HO182 := n1_; have HR177 := n2_; have HB := n3_; clear n0_ n1_ n2_ n3_; (try clear hb); (try clear hb2); (try clear hk); (try clear hi); (try clear ho0); have q38 : ((ji25) : Int) ≤ ((l0.length : Int) : Int) := of_decide_eq_true (by first | (with_reducible assumption) | assumption); obtain ⟨i038, hi038, _, hsz38, _⟩ := info_parts info27; have hroom38 : l0.length ≤ c0 := HC0.out; have hC38 : Kd.C k27 _ A0 l0.length l0 := HR0.out; have hcut38 := cut_to (P := Try.prog) 22 27 .i64 Try.underlying22 hi038 A0 l0.length c0 (ji25) (of_decide_eq_true (by first | (with_reducible assumption) | assumption)) q38 hroom38; have hr38 := Kd.C_take (m := ((ji25) : Int).toNat) hC38 (by omega); have hy38 : y183.length = ((ji25) : Int).toNat := (by rw [Ny183.out, List.length_take]; omega); rw [← Ny183.out] at hr38; rw [← hy38] at hcut38; have HR186 := Aside0.mk hr38; have HC186 := Aside0.mk (show y183.length ≤ c0 from by omega); clear hr38 hC38 hroom38 hi038 hsz38; have KY38 := Aside0.mk hy38; clear hy38; replace q38 := eq_true q38; obtain ⟨Ao39, co39, eo39⟩ := Kd.R_slice HO182.out; subst eo39) | (go_at_call 19; (with_reducible refine (spindlelaw11_SameRels.calls kj5 _ _ t178 _ _ y183 false _ ?side1 ?side2 ?side3 ?side4 A28.out).mono ?_); (case side1 => repeat (first | exact (Kd.R_reads' HO182.out).2.2 | (with_reducible refine Kd.C_alloc ?_ _) | (with_reducible refine Kd.C_drewN ?_ _) | (with_reducible refine Kd.C_drew ?_))); (case side2 => exact (Kd.R_reads' HO182.out).2.1); (case side3 => repeat (first | exact (Kd.C_below HR186.out HB.out) | (with_reducible refine Kd.C_alloc ?_ _) | (with_reducible refine Kd.C_drewN ?_ _) | (with_reducible refine Kd.C_drew ?_))); (case side4 => exact HC186.out); rintro e w' ⟨rfl, ⟨nd, rfl⟩⟩))
                            go_ret
                            exact ⟨by first | rfl | (simp [errW_none, errW_some] <;> rfl) | (simp only [← hji18, ← hji25]; first | rfl | (simp [errW_none, errW_some] <;> rfl)) | (simp [*, errW_none, errW_some] <;> rfl), by repeat (first | (with_reducible first | exact HB.out | apply below_alloc | apply pw_below_drewN | apply below_drew1) | exact HB.out)⟩
                        · rw [if_neg c27] at H
                          exact absurd H (by simp)
                      · rw [if_neg c26] at H
                        exact absurd H (by simp)
                    · rw [if_neg c24] at H
                      have c24b0 : (t179 == 0) = false := beq_eq_false_iff_ne.mpr c24
                      have c24b1 : (t179 != 0) = true := bne_iff_ne.mpr c24
                      obtain rfl := Option.some.inj H
                      have q40 : ((ji18) : Int) ≤ ((t162.length : Int) : Int) := of_decide_eq_true (by first | (with_reducible assumption) | assumption)
                      obtain ⟨i040, hi040, _, hsz40, _⟩ := info_parts info5
                      have hroom40 : t162.length ≤ co8 := (Kd.R_reads' HO_5.out).2.1
                      have hC40 : Kd.C (Kd.int .u8) _ Ao8 t162.length t162 := (Kd.R_reads' HO_5.out).2.2
                      have hcut40 := cut_to (P := Try.prog) 30 5 .i64 Try.underlying30 hi040 Ao8 t162.length co8 (ji18) (of_decide_eq_true (by first | (with_reducible assumption) | assumption)) q40 hroom40
                      have hr40 := Kd.C_take (m := ((ji18) : Int).toNat) hC40 (by omega)
                      have hy40 : y174.length = ((ji18) : Int).toNat := (by rw [Ny174.out, List.length_take]; omega)
                      rw [← Ny174.out] at hr40
                      rw [← hy40] at hcut40
                      have HR177 := Aside0.mk hr40
                      have HC177 := Aside0.mk (show y174.length ≤ co8 from by omega)
                      clear hr40 hC40 hroom40 hi040 hsz40
                      have KY40 := Aside0.mk hy40
                      clear hy40
                      have KL40 := Aside0.mk (show ((ji18) : Int).toNat ≤ t162.length from by omega)
                      replace q40 := eq_true q40
                      go_wp2_with (first | ((with_reducible refine gate_callee (f := 16) rfl ?_); refine goesL_ (some 68) rfl rfl Try.func16 (by kernel_rfl) rfl #[.slice Ao8 y174.length co8] rfl (by (try simp only [List.map_toArray, List.map_cons, List.map_nil]); first | done | rfl | (simp only [List.length_drop, List.length_take]; rfl)) ?_; (with_reducible refine (reloc_Read.calls kj5 _ _ y174 t178 t179 t180 _ ?side1 ?side2 A21.out).mono ?_); (case side1 => repeat (first | exact (by repeat (first | (with_reducible exact HR177.out) | (with_reducible refine Kd.C_alloc ?_ _) | (with_reducible refine Kd.C_drewN ?_ _) | (with_reducible refine Kd.C_drew ?_) | exact HR177.out)) | (with_reducible refine Kd.C_alloc ?_ _) | (with_reducible refine Kd.C_drewN ?_ _) | (with_reducible refine Kd.C_drew ?_))); (case side2 => exact HC177.out); rintro e w41 ⟨v181, rfl, ho0, hb⟩; refine ⟨_, rfl, ?_⟩; have n0_ := Aside0.mk (Kd.R_below (by (with_reducible repeat (first | apply Kd.R_alloc | apply Kd.R_drewN | apply Kd.R_drew)); exact HO_5.out) hb); have n1_ := Aside0.mk (Kd.R_lower ho0 (below_size (by repeat (first | (with_reducible first | exact HB.out | apply below_alloc | apply pw_below_drewN | apply below_drew1) | exact HB.out)))); have n2_ := Aside0.mk (Kd.C_below (by repeat (first | (with_reducible exact HR177.out) | (with_reducible refine Kd.C_alloc ?_ _) | (with_reducible refine Kd.C_drewN ?_ _) | (with_reducible refine Kd.C_drew ?_) | exact HR177.out)) hb); have n3_ := Aside0.mk (below_step (by repeat (first | (with_reducible first | exact HB.out | apply below_alloc | apply pw_below_drewN | apply below_drew1) | exact HB.out)) hb); clear HO_5; clear HR177; clear HB; have HO_5 := n0_; have HO182 := n1_; have HR177 := n2_; have HB := n3_; clear n0_ n1_ n2_ n3_; (try clear hb); (try clear hb2); (try clear hk); (try clear hi); (try clear ho0)))
                      go_ret
                      exact ⟨by first | rfl | (simp [errW_none, errW_some] <;> rfl) | (simp only [← hji18]; first | rfl | (simp [errW_none, errW_some] <;> rfl)) | (simp [*, errW_none, errW_some] <;> rfl), by repeat (first | (with_reducible first | exact HB.out | apply below_alloc | apply pw_below_drewN | apply below_drew1) | exact HB.out)⟩
                  · rw [if_neg c23] at H
                    have c23b0 : (t180 == 0) = false := beq_eq_false_iff_ne.mpr c23
                    have c23b1 : (t180 != 0) = true := bne_iff_ne.mpr c23
                    obtain rfl := Option.some.inj H
                    have q42 : ((ji18) : Int) ≤ ((t162.length : Int) : Int) := of_decide_eq_true (by first | (with_reducible assumption) | assumption)
                    obtain ⟨i042, hi042, _, hsz42, _⟩ := info_parts info5
                    have hroom42 : t162.length ≤ co8 := (Kd.R_reads' HO_5.out).2.1
                    have hC42 : Kd.C (Kd.int .u8) _ Ao8 t162.length t162 := (Kd.R_reads' HO_5.out).2.2
                    have hcut42 := cut_to (P := Try.prog) 30 5 .i64 Try.underlying30 hi042 Ao8 t162.length co8 (ji18) (of_decide_eq_true (by first | (with_reducible assumption) | assumption)) q42 hroom42
                    have hr42 := Kd.C_take (m := ((ji18) : Int).toNat) hC42 (by omega)
                    have hy42 : y174.length = ((ji18) : Int).toNat := (by rw [Ny174.out, List.length_take]; omega)
                    rw [← Ny174.out] at hr42
                    rw [← hy42] at hcut42
                    have HR177 := Aside0.mk hr42
                    have HC177 := Aside0.mk (show y174.length ≤ co8 from by omega)
                    clear hr42 hC42 hroom42 hi042 hsz42
                    have KY42 := Aside0.mk hy42
                    clear hy42
                    have KL42 := Aside0.mk (show ((ji18) : Int).toNat ≤ t162.length from by omega)
                    replace q42 := eq_true q42
                    go_wp2_with (first | ((with_reducible refine gate_callee (f := 16) rfl ?_); refine goesL_ (some 68) rfl rfl Try.func16 (by kernel_rfl) rfl #[.slice Ao8 y174.length co8] rfl (by (try simp only [List.map_toArray, List.map_cons, List.map_nil]); first | done | rfl | (simp only [List.length_drop, List.length_take]; rfl)) ?_; (with_reducible refine (reloc_Read.calls kj5 _ _ y174 t178 t179 t180 _ ?side1 ?side2 A21.out).mono ?_); (case side1 => repeat (first | exact (by repeat (first | (with_reducible exact HR177.out) | (with_reducible refine Kd.C_alloc ?_ _) | (with_reducible refine Kd.C_drewN ?_ _) | (with_reducible refine Kd.C_drew ?_) | exact HR177.out)) | (with_reducible refine Kd.C_alloc ?_ _) | (with_reducible refine Kd.C_drewN ?_ _) | (with_reducible refine Kd.C_drew ?_))); (case side2 => exact HC177.out); rintro e w43 ⟨v181, rfl, ho0, hb⟩; refine ⟨_, rfl, ?_⟩; have n0_ := Aside0.mk (Kd.R_below (by (with_reducible repeat (first | apply Kd.R_alloc | apply Kd.R_drewN | apply Kd.R_drew)); exact HO_5.out) hb); have n1_ := Aside0.mk (Kd.R_lower ho0 (below_size (by repeat (first | (with_reducible first | exact HB.out | apply below_alloc | apply pw_below_drewN | apply below_drew1) | exact HB.out)))); have n2_ := Aside0.mk (Kd.C_below (by repeat (first | (with_reducible exact HR177.out) | (with_reducible refine Kd.C_alloc ?_ _) | (with_reducible refine Kd.C_drewN ?_ _) | (with_reducible refine Kd.C_drew ?_) | exact HR177.out)) hb); have n3_ := Aside0.mk (below_step (by repeat (first | (with_reducible first | exact HB.out | apply below_alloc | apply pw_below_drewN | apply below_drew1) | exact HB.out)) hb); clear HO_5; clear HR177; clear HB; have HO_5 := n0_; have HO182 := n1_; have HR177 := n2_; have HB := n3_; clear n0_ n1_ n2_ n3_; (try clear hb); (try clear hb2); (try clear hk); (try clear hi); (try clear ho0)))
                    go_ret
                    exact ⟨by first | rfl | (simp [errW_none, errW_some] <;> rfl) | (simp only [← hji18]; first | rfl | (simp [errW_none, errW_some] <;> rfl)) | (simp [*, errW_none, errW_some] <;> rfl), by repeat (first | (with_reducible first | exact HB.out | apply below_alloc | apply pw_below_drewN | apply below_drew1) | exact HB.out)⟩
                · rw [if_neg c22] at H
                  have c22b0 : ((Int.tmod (ji18) 16) == 0) = false := beq_eq_false_iff_ne.mpr c22
                  have c22b1 : ((Int.tmod (ji18) 16) != 0) = true := bne_iff_ne.mpr c22
                  by_cases c44 : (t178.length : Int) = 0
                  · rw [if_pos c44] at H
                    have c44b0 : ((t178.length : Int) == 0) = true := beq_iff_eq.mpr c44
                    have c44b1 : ((t178.length : Int) != 0) = false := bne_eq_false_iff_eq.mpr c44
                    clear c44
                    by_cases c45 : t179 = (wrap64 ((wrap64 (Int.tdiv (ji18) 16)) * 16))
                    · rw [if_pos c45] at H
                      have c45b0 : (t179 == (wrap64 ((wrap64 (Int.tdiv (ji18) 16)) * 16))) = true := beq_iff_eq.mpr c45
                      have c45b1 : (t179 != (wrap64 ((wrap64 (Int.tdiv (ji18) 16)) * 16))) = false := bne_eq_false_iff_eq.mpr c45
                      clear c45
                      by_cases c46 : t180 = 110
                      · rw [if_pos c46] at H
                        have c46b0 : (t180 == 110) = true := beq_iff_eq.mpr c46
                        have c46b1 : (t180 != 110) = false := bne_eq_false_iff_eq.mpr c46
                        clear c46
                        replace H := Option.bind_eq_some_iff.mp H
                        obtain ⟨t189, A470, H⟩ := H
                        replace H : (some t189) = some r := H
                        have A47 := Aside0.mk A470
                        clear A470
                        obtain rfl := Option.some.inj H
                        have q48 : ((ji18) : Int) ≤ ((t162.length : Int) : Int) := of_decide_eq_true (by first | (with_reducible assumption) | assumption)
                        obtain ⟨i048, hi048, _, hsz48, _⟩ := info_parts info5
                        have hroom48 : t162.length ≤ co8 := (Kd.R_reads' HO_5.out).2.1
                        have hC48 : Kd.C (Kd.int .u8) _ Ao8 t162.length t162 := (Kd.R_reads' HO_5.out).2.2
                        have hcut48 := cut_to (P := Try.prog) 30 5 .i64 Try.underlying30 hi048 Ao8 t162.length co8 (ji18) (of_decide_eq_true (by first | (with_reducible assumption) | assumption)) q48 hroom48
                        have hr48 := Kd.C_take (m := ((ji18) : Int).toNat) hC48 (by omega)
                        have hy48 : y174.length = ((ji18) : Int).toNat := (by rw [Ny174.out, List.length_take]; omega)
                        rw [← Ny174.out] at hr48
                        rw [← hy48] at hcut48
                        have HR177 := Aside0.mk hr48
                        have HC177 := Aside0.mk (show y174.length ≤ co8 from by omega)
                        clear hr48 hC48 hroom48 hi048 hsz48
                        have KY48 := Aside0.mk hy48
                        clear hy48
                        have KL48 := Aside0.mk (show ((ji18) : Int).toNat ≤ t162.length from by omega)
                        replace q48 := eq_true q48
                        go_wp2_with (first | ((with_reducible refine gate_callee (f := 16) rfl ?_); refine goesL_ (some 68) rfl rfl Try.func16 (by kernel_rfl) rfl #[.slice Ao8 y174.length co8] rfl (by (try simp only [List.map_toArray, List.map_cons, List.map_nil]); first | done | rfl | (simp only [List.length_drop, List.length_take]; rfl)) ?_; (with_reducible refine (reloc_Read.calls kj5 _ _ y174 t178 t179 t180 _ ?side1 ?side2 A21.out).mono ?_); (case side1 => repeat (first | exact (by repeat (first | (with_reducible exact HR177.out) | (with_reducible refine Kd.C_alloc ?_ _) | (with_reducible refine Kd.C_drewN ?_ _) | (with_reducible refine Kd.C_drew ?_) | exact HR177.out)) | (with_reducible refine Kd.C_alloc ?_ _) | (with_reducible refine Kd.C_drewN ?_ _) | (with_reducible refine Kd.C_drew ?_))); (case side2 => exact HC177.out); rintro e w49 ⟨v181, rfl, ho0, hb⟩; refine ⟨_, rfl, ?_⟩; have n0_ := Aside0.mk (Kd.R_below (by (with_reducible repeat (first | apply Kd.R_alloc | apply Kd.R_drewN | apply Kd.R_drew)); exact HO_5.out) hb); have n1_ := Aside0.mk (Kd.R_lower ho0 (below_size (by repeat (first | (with_reducible first | exact HB.out | apply below_alloc | apply pw_below_drewN | apply below_drew1) | exact HB.out)))); have n2_ := Aside0.mk (Kd.C_below (by repeat (first | (with_reducible exact HR177.out) | (with_reducible refine Kd.C_alloc ?_ _) | (with_reducible refine Kd.C_drewN ?_ _) | (with_reducible refine Kd.C_drew ?_) | exact HR177.out)) hb); have n3_ := Aside0.mk (below_step (by repeat (first | (with_reducible first | exact HB.out | apply below_alloc | apply pw_below_drewN | apply below_drew1) | exact HB.out)) hb); clear HO_5; clear HR177; clear HB; have HO_5 := n0_; have HO182 := n1_; have HR177 := n2_; have HB := n3_; clear n0_ n1_ n2_ n3_; (try clear hb); (try clear hb2); (try clear hk); (try clear hi); (try clear ho0); obtain ⟨Ao50, co50, eo50⟩ := Kd.R_slice HO182.out; subst eo50) | (go_at_call 9; (with_reducible refine (spindlelaw11_awake.calls kj5  t189 _ A47.out).mono ?_); rintro e w51 ⟨rfl, hb⟩; have n0_ := Aside0.mk (Kd.R_below (by (with_reducible repeat (first | apply Kd.R_alloc | apply Kd.R_drewN | apply Kd.R_drew)); exact HO_5.out) hb); have n1_ := Aside0.mk (Kd.R_below (by (with_reducible repeat (first | apply Kd.R_alloc | apply Kd.R_drewN | apply Kd.R_drew)); exact HO182.out) hb); have n2_ := Aside0.mk (Kd.C_below (by repeat (first | (with_reducible exact HR177.out) | (with_reducible refine Kd.C_alloc ?_ _) | (with_reducible refine Kd.C_drewN ?_ _) | (with_reducible refine Kd.C_drew ?_) | exact HR177.out)) hb); have n3_ := Aside0.mk (below_step (by repeat (first | (with_reducible first | exact HB.out | apply below_alloc | apply pw_below_drewN | apply below_drew1) | exact HB.out)) hb); clear HO_5; clear HO182; clear HR177; clear HB; have HO_5 := n0_; have HO182 := n1_; have HR177 := n2_; have HB := n3_; clear n0_ n1_ n2_ n3_; (try clear hb); (try clear hb2); (try clear hk); (try clear hi)))
                        go_ret
                        exact ⟨by first | rfl | (simp [errW_none, errW_some] <;> rfl) | (simp only [← hji18]; first | rfl | (simp [errW_none, errW_some] <;> rfl)) | (simp [*, errW_none, errW_some] <;> rfl), by repeat (first | (with_reducible first | exact HB.out | apply below_alloc | apply pw_below_drewN | apply below_drew1) | exact HB.out)⟩
                      · rw [if_neg c46] at H
                        have c46b0 : (t180 == 110) = false := beq_eq_false_iff_ne.mpr c46
                        have c46b1 : (t180 != 110) = true := bne_iff_ne.mpr c46
                        obtain rfl := Option.some.inj H
                        have q52 : ((ji18) : Int) ≤ ((t162.length : Int) : Int) := of_decide_eq_true (by first | (with_reducible assumption) | assumption)
                        obtain ⟨i052, hi052, _, hsz52, _⟩ := info_parts info5
                        have hroom52 : t162.length ≤ co8 := (Kd.R_reads' HO_5.out).2.1
                        have hC52 : Kd.C (Kd.int .u8) _ Ao8 t162.length t162 := (Kd.R_reads' HO_5.out).2.2
                        have hcut52 := cut_to (P := Try.prog) 30 5 .i64 Try.underlying30 hi052 Ao8 t162.length co8 (ji18) (of_decide_eq_true (by first | (with_reducible assumption) | assumption)) q52 hroom52
                        have hr52 := Kd.C_take (m := ((ji18) : Int).toNat) hC52 (by omega)
                        have hy52 : y174.length = ((ji18) : Int).toNat := (by rw [Ny174.out, List.length_take]; omega)
                        rw [← Ny174.out] at hr52
                        rw [← hy52] at hcut52
                        have HR177 := Aside0.mk hr52
                        have HC177 := Aside0.mk (show y174.length ≤ co8 from by omega)
                        clear hr52 hC52 hroom52 hi052 hsz52
                        have KY52 := Aside0.mk hy52
                        clear hy52
                        have KL52 := Aside0.mk (show ((ji18) : Int).toNat ≤ t162.length from by omega)
                        replace q52 := eq_true q52
                        go_wp2_with (first | ((with_reducible refine gate_callee (f := 16) rfl ?_); refine goesL_ (some 68) rfl rfl Try.func16 (by kernel_rfl) rfl #[.slice Ao8 y174.length co8] rfl (by (try simp only [List.map_toArray, List.map_cons, List.map_nil]); first | done | rfl | (simp only [List.length_drop, List.length_take]; rfl)) ?_; (with_reducible refine (reloc_Read.calls kj5 _ _ y174 t178 t179 t180 _ ?side1 ?side2 A21.out).mono ?_); (case side1 => repeat (first | exact (by repeat (first | (with_reducible exact HR177.out) | (with_reducible refine Kd.C_alloc ?_ _) | (with_reducible refine Kd.C_drewN ?_ _) | (with_reducible refine Kd.C_drew ?_) | exact HR177.out)) | (with_reducible refine Kd.C_alloc ?_ _) | (with_reducible refine Kd.C_drewN ?_ _) | (with_reducible refine Kd.C_drew ?_))); (case side2 => exact HC177.out); rintro e w53 ⟨v181, rfl, ho0, hb⟩; refine ⟨_, rfl, ?_⟩; have n0_ := Aside0.mk (Kd.R_below (by (with_reducible repeat (first | apply Kd.R_alloc | apply Kd.R_drewN | apply Kd.R_drew)); exact HO_5.out) hb); have n1_ := Aside0.mk (Kd.R_lower ho0 (below_size (by repeat (first | (with_reducible first | exact HB.out | apply below_alloc | apply pw_below_drewN | apply below_drew1) | exact HB.out)))); have n2_ := Aside0.mk (Kd.C_below (by repeat (first | (with_reducible exact HR177.out) | (with_reducible refine Kd.C_alloc ?_ _) | (with_reducible refine Kd.C_drewN ?_ _) | (with_reducible refine Kd.C_drew ?_) | exact HR177.out)) hb); have n3_ := Aside0.mk (below_step (by repeat (first | (with_reducible first | exact HB.out | apply below_alloc | apply pw_below_drewN | apply below_drew1) | exact HB.out)) hb); clear HO_5; clear HR177; clear HB; have HO_5 := n0_; have HO182 := n1_; have HR177 := n2_; have HB := n3_; clear n0_ n1_ n2_ n3_; (try clear hb); (try clear hb2); (try clear hk); (try clear hi); (try clear ho0); obtain ⟨Ao54, co54, eo54⟩ := Kd.R_slice HO182.out; subst eo54))
                        go_ret
                        exact ⟨by first | rfl | (simp [errW_none, errW_some] <;> rfl) | (simp only [← hji18]; first | rfl | (simp [errW_none, errW_some] <;> rfl)) | (simp [*, errW_none, errW_some] <;> rfl), by repeat (first | (with_reducible first | exact HB.out | apply below_alloc | apply pw_below_drewN | apply below_drew1) | exact HB.out)⟩
                    · rw [if_neg c45] at H
                      have c45b0 : (t179 == (wrap64 ((wrap64 (Int.tdiv (ji18) 16)) * 16))) = false := beq_eq_false_iff_ne.mpr c45
                      have c45b1 : (t179 != (wrap64 ((wrap64 (Int.tdiv (ji18) 16)) * 16))) = true := bne_iff_ne.mpr c45
                      obtain rfl := Option.some.inj H
                      have q55 : ((ji18) : Int) ≤ ((t162.length : Int) : Int) := of_decide_eq_true (by first | (with_reducible assumption) | assumption)
                      obtain ⟨i055, hi055, _, hsz55, _⟩ := info_parts info5
                      have hroom55 : t162.length ≤ co8 := (Kd.R_reads' HO_5.out).2.1
                      have hC55 : Kd.C (Kd.int .u8) _ Ao8 t162.length t162 := (Kd.R_reads' HO_5.out).2.2
                      have hcut55 := cut_to (P := Try.prog) 30 5 .i64 Try.underlying30 hi055 Ao8 t162.length co8 (ji18) (of_decide_eq_true (by first | (with_reducible assumption) | assumption)) q55 hroom55
                      have hr55 := Kd.C_take (m := ((ji18) : Int).toNat) hC55 (by omega)
                      have hy55 : y174.length = ((ji18) : Int).toNat := (by rw [Ny174.out, List.length_take]; omega)
                      rw [← Ny174.out] at hr55
                      rw [← hy55] at hcut55
                      have HR177 := Aside0.mk hr55
                      have HC177 := Aside0.mk (show y174.length ≤ co8 from by omega)
                      clear hr55 hC55 hroom55 hi055 hsz55
                      have KY55 := Aside0.mk hy55
                      clear hy55
                      have KL55 := Aside0.mk (show ((ji18) : Int).toNat ≤ t162.length from by omega)
                      replace q55 := eq_true q55
                      go_wp2_with (first | ((with_reducible refine gate_callee (f := 16) rfl ?_); refine goesL_ (some 68) rfl rfl Try.func16 (by kernel_rfl) rfl #[.slice Ao8 y174.length co8] rfl (by (try simp only [List.map_toArray, List.map_cons, List.map_nil]); first | done | rfl | (simp only [List.length_drop, List.length_take]; rfl)) ?_; (with_reducible refine (reloc_Read.calls kj5 _ _ y174 t178 t179 t180 _ ?side1 ?side2 A21.out).mono ?_); (case side1 => repeat (first | exact (by repeat (first | (with_reducible exact HR177.out) | (with_reducible refine Kd.C_alloc ?_ _) | (with_reducible refine Kd.C_drewN ?_ _) | (with_reducible refine Kd.C_drew ?_) | exact HR177.out)) | (with_reducible refine Kd.C_alloc ?_ _) | (with_reducible refine Kd.C_drewN ?_ _) | (with_reducible refine Kd.C_drew ?_))); (case side2 => exact HC177.out); rintro e w56 ⟨v181, rfl, ho0, hb⟩; refine ⟨_, rfl, ?_⟩; have n0_ := Aside0.mk (Kd.R_below (by (with_reducible repeat (first | apply Kd.R_alloc | apply Kd.R_drewN | apply Kd.R_drew)); exact HO_5.out) hb); have n1_ := Aside0.mk (Kd.R_lower ho0 (below_size (by repeat (first | (with_reducible first | exact HB.out | apply below_alloc | apply pw_below_drewN | apply below_drew1) | exact HB.out)))); have n2_ := Aside0.mk (Kd.C_below (by repeat (first | (with_reducible exact HR177.out) | (with_reducible refine Kd.C_alloc ?_ _) | (with_reducible refine Kd.C_drewN ?_ _) | (with_reducible refine Kd.C_drew ?_) | exact HR177.out)) hb); have n3_ := Aside0.mk (below_step (by repeat (first | (with_reducible first | exact HB.out | apply below_alloc | apply pw_below_drewN | apply below_drew1) | exact HB.out)) hb); clear HO_5; clear HR177; clear HB; have HO_5 := n0_; have HO182 := n1_; have HR177 := n2_; have HB := n3_; clear n0_ n1_ n2_ n3_; (try clear hb); (try clear hb2); (try clear hk); (try clear hi); (try clear ho0); obtain ⟨Ao57, co57, eo57⟩ := Kd.R_slice HO182.out; subst eo57))
                      go_ret
                      exact ⟨by first | rfl | (simp [errW_none, errW_some] <;> rfl) | (simp only [← hji18]; first | rfl | (simp [errW_none, errW_some] <;> rfl)) | (simp [*, errW_none, errW_some] <;> rfl), by repeat (first | (with_reducible first | exact HB.out | apply below_alloc | apply pw_below_drewN | apply below_drew1) | exact HB.out)⟩
                  · rw [if_neg c44] at H
                    have c44b0 : ((t178.length : Int) == 0) = false := beq_eq_false_iff_ne.mpr c44
                    have c44b1 : ((t178.length : Int) != 0) = true := bne_iff_ne.mpr c44
                    have c44b2 : ¬ (t178 = []) := fun h_ => c44 (by rw [h_]; rfl)
                    obtain rfl := Option.some.inj H
                    have q58 : ((ji18) : Int) ≤ ((t162.length : Int) : Int) := of_decide_eq_true (by first | (with_reducible assumption) | assumption)
                    obtain ⟨i058, hi058, _, hsz58, _⟩ := info_parts info5
                    have hroom58 : t162.length ≤ co8 := (Kd.R_reads' HO_5.out).2.1
                    have hC58 : Kd.C (Kd.int .u8) _ Ao8 t162.length t162 := (Kd.R_reads' HO_5.out).2.2
                    have hcut58 := cut_to (P := Try.prog) 30 5 .i64 Try.underlying30 hi058 Ao8 t162.length co8 (ji18) (of_decide_eq_true (by first | (with_reducible assumption) | assumption)) q58 hroom58
                    have hr58 := Kd.C_take (m := ((ji18) : Int).toNat) hC58 (by omega)
                    have hy58 : y174.length = ((ji18) : Int).toNat := (by rw [Ny174.out, List.length_take]; omega)
                    rw [← Ny174.out] at hr58
                    rw [← hy58] at hcut58
                    have HR177 := Aside0.mk hr58
                    have HC177 := Aside0.mk (show y174.length ≤ co8 from by omega)
                    clear hr58 hC58 hroom58 hi058 hsz58
                    have KY58 := Aside0.mk hy58
                    clear hy58
                    have KL58 := Aside0.mk (show ((ji18) : Int).toNat ≤ t162.length from by omega)
                    replace q58 := eq_true q58
                    go_wp2_with (first | ((with_reducible refine gate_callee (f := 16) rfl ?_); refine goesL_ (some 68) rfl rfl Try.func16 (by kernel_rfl) rfl #[.slice Ao8 y174.length co8] rfl (by (try simp only [List.map_toArray, List.map_cons, List.map_nil]); first | done | rfl | (simp only [List.length_drop, List.length_take]; rfl)) ?_; (with_reducible refine (reloc_Read.calls kj5 _ _ y174 t178 t179 t180 _ ?side1 ?side2 A21.out).mono ?_); (case side1 => repeat (first | exact (by repeat (first | (with_reducible exact HR177.out) | (with_reducible refine Kd.C_alloc ?_ _) | (with_reducible refine Kd.C_drewN ?_ _) | (with_reducible refine Kd.C_drew ?_) | exact HR177.out)) | (with_reducible refine Kd.C_alloc ?_ _) | (with_reducible refine Kd.C_drewN ?_ _) | (with_reducible refine Kd.C_drew ?_))); (case side2 => exact HC177.out); rintro e w59 ⟨v181, rfl, ho0, hb⟩; refine ⟨_, rfl, ?_⟩; have n0_ := Aside0.mk (Kd.R_below (by (with_reducible repeat (first | apply Kd.R_alloc | apply Kd.R_drewN | apply Kd.R_drew)); exact HO_5.out) hb); have n1_ := Aside0.mk (Kd.R_lower ho0 (below_size (by repeat (first | (with_reducible first | exact HB.out | apply below_alloc | apply pw_below_drewN | apply below_drew1) | exact HB.out)))); have n2_ := Aside0.mk (Kd.C_below (by repeat (first | (with_reducible exact HR177.out) | (with_reducible refine Kd.C_alloc ?_ _) | (with_reducible refine Kd.C_drewN ?_ _) | (with_reducible refine Kd.C_drew ?_) | exact HR177.out)) hb); have n3_ := Aside0.mk (below_step (by repeat (first | (with_reducible first | exact HB.out | apply below_alloc | apply pw_below_drewN | apply below_drew1) | exact HB.out)) hb); clear HO_5; clear HR177; clear HB; have HO_5 := n0_; have HO182 := n1_; have HR177 := n2_; have HB := n3_; clear n0_ n1_ n2_ n3_; (try clear hb); (try clear hb2); (try clear hk); (try clear hi); (try clear ho0); obtain ⟨Ao60, co60, eo60⟩ := Kd.R_slice HO182.out; subst eo60))
                    go_ret
                    exact ⟨by first | rfl | (simp [errW_none, errW_some] <;> rfl) | (simp only [← hji18]; first | rfl | (simp [errW_none, errW_some] <;> rfl)) | (simp [*, errW_none, errW_some] <;> rfl), by repeat (first | (with_reducible first | exact HB.out | apply below_alloc | apply pw_below_drewN | apply below_drew1) | exact HB.out)⟩
              · rw [if_neg c20] at H
                exact absurd H (by simp)
            · rw [if_neg c19] at H
              exact absurd H (by simp)
  · rw [if_neg c4] at H
    have c4b0 : (t163 == 0) = false := beq_eq_false_iff_ne.mpr c4
    have c4b1 : (t163 != 0) = true := bne_iff_ne.mpr c4
    by_cases c61 : (t162.length : Int) = 0
    · rw [if_pos c61] at H
      have c61b0 : ((t162.length : Int) == 0) = true := beq_iff_eq.mpr c61
      have c61b1 : ((t162.length : Int) != 0) = false := bne_eq_false_iff_eq.mpr c61
      clear c61
      by_cases c62 : t163 = 110
      · rw [if_pos c62] at H
        have c62b0 : (t163 == 110) = true := beq_iff_eq.mpr c62
        have c62b1 : (t163 != 110) = false := bne_eq_false_iff_eq.mpr c62
        clear c62
        replace H := Option.bind_eq_some_iff.mp H
        obtain ⟨t166, A630, H⟩ := H
        replace H : (some t166) = some r := H
        have A63 := Aside0.mk A630
        clear A630
        obtain rfl := Option.some.inj H
        go_enter Try.func6, Try.ntmps6
        go_wp2_with (first | ((with_reducible refine gate_callee (f := 13) rfl ?_); refine goesL_ (some 13) rfl rfl Try.func13 (by kernel_rfl) rfl #[.slice A0 l0.length c0] rfl (by (try simp only [List.map_toArray, List.map_cons, List.map_nil]); first | done | rfl | (simp only [List.length_drop, List.length_take]; rfl)) ?_; (with_reducible refine (reloc_Write.calls k _ _ l0 t162 t163 _ ?side1 ?side2 A3.out).mono ?_); (case side1 => repeat (first | exact HR0.out | (with_reducible refine Kd.C_alloc ?_ _) | (with_reducible refine Kd.C_drewN ?_ _) | (with_reducible refine Kd.C_drew ?_))); (case side2 => exact HC0.out); rintro e w64 ⟨v164, rfl, ho0, hb⟩; refine ⟨_, rfl, ?_⟩; have n0_ := Aside0.mk (Kd.R_lower ho0 (below_size (by repeat (first | (with_reducible first | exact HB.out | apply below_alloc | apply pw_below_drewN | apply below_drew1) | exact HB.out)))); have n1_ := Aside0.mk (below_step (by repeat (first | (with_reducible first | exact HB.out | apply below_alloc | apply pw_below_drewN | apply below_drew1) | exact HB.out)) hb); clear HB; have HO165 := n0_; have HB := n1_; clear n0_ n1_; (try clear hb); (try clear hb2); (try clear hk); (try clear hi); (try clear ho0); obtain ⟨Ao65, co65, eo65⟩ := Kd.R_slice HO165.out; subst eo65) | (go_at_call 9; (with_reducible refine (spindlelaw11_awake.calls k  t166 _ A63.out).mono ?_); rintro e w66 ⟨rfl, hb⟩; have n0_ := Aside0.mk (Kd.R_below (by (with_reducible repeat (first | apply Kd.R_alloc | apply Kd.R_drewN | apply Kd.R_drew)); exact HO165.out) hb); have n1_ := Aside0.mk (below_step (by repeat (first | (with_reducible first | exact HB.out | apply below_alloc | apply pw_below_drewN | apply below_drew1) | exact HB.out)) hb); clear HO165; clear HB; have HO165 := n0_; have HB := n1_; clear n0_ n1_; (try clear hb); (try clear hb2); (try clear hk); (try clear hi)))
        go_ret
        exact ⟨by first | rfl | (simp [errW_none, errW_some] <;> rfl) | (simp [*, errW_none, errW_some] <;> rfl), by repeat (first | (with_reducible first | exact HB.out | apply below_alloc | apply pw_below_drewN | apply below_drew1) | exact HB.out)⟩
      · rw [if_neg c62] at H
        have c62b0 : (t163 == 110) = false := beq_eq_false_iff_ne.mpr c62
        have c62b1 : (t163 != 110) = true := bne_iff_ne.mpr c62
        by_cases c67 : t163 = 111
        · rw [if_pos c67] at H
          have c67b0 : (t163 == 111) = true := beq_iff_eq.mpr c67
          have c67b1 : (t163 != 111) = false := bne_eq_false_iff_eq.mpr c67
          clear c67
          replace H := Option.bind_eq_some_iff.mp H
          obtain ⟨t167, A680, H⟩ := H
          replace H : (some t167) = some r := H
          have A68 := Aside0.mk A680
          clear A680
          obtain rfl := Option.some.inj H
          go_enter Try.func6, Try.ntmps6
          go_wp2_with (first | ((with_reducible refine gate_callee (f := 13) rfl ?_); refine goesL_ (some 13) rfl rfl Try.func13 (by kernel_rfl) rfl #[.slice A0 l0.length c0] rfl (by (try simp only [List.map_toArray, List.map_cons, List.map_nil]); first | done | rfl | (simp only [List.length_drop, List.length_take]; rfl)) ?_; (with_reducible refine (reloc_Write.calls k _ _ l0 t162 t163 _ ?side1 ?side2 A3.out).mono ?_); (case side1 => repeat (first | exact HR0.out | (with_reducible refine Kd.C_alloc ?_ _) | (with_reducible refine Kd.C_drewN ?_ _) | (with_reducible refine Kd.C_drew ?_))); (case side2 => exact HC0.out); rintro e w69 ⟨v164, rfl, ho0, hb⟩; refine ⟨_, rfl, ?_⟩; have n0_ := Aside0.mk (Kd.R_lower ho0 (below_size (by repeat (first | (with_reducible first | exact HB.out | apply below_alloc | apply pw_below_drewN | apply below_drew1) | exact HB.out)))); have n1_ := Aside0.mk (below_step (by repeat (first | (with_reducible first | exact HB.out | apply below_alloc | apply pw_below_drewN | apply below_drew1) | exact HB.out)) hb); clear HB; have HO165 := n0_; have HB := n1_; clear n0_ n1_; (try clear hb); (try clear hb2); (try clear hk); (try clear hi); (try clear ho0); obtain ⟨Ao70, co70, eo70⟩ := Kd.R_slice HO165.out; subst eo70) | (go_at_call 9; (with_reducible refine (spindlelaw11_awake.calls k  t167 _ A68.out).mono ?_); rintro e w71 ⟨rfl, hb⟩; have n0_ := Aside0.mk (Kd.R_below (by (with_reducible repeat (first | apply Kd.R_alloc | apply Kd.R_drewN | apply Kd.R_drew)); exact HO165.out) hb); have n1_ := Aside0.mk (below_step (by repeat (first | (with_reducible first | exact HB.out | apply below_alloc | apply pw_below_drewN | apply below_drew1) | exact HB.out)) hb); clear HO165; clear HB; have HO165 := n0_; have HB := n1_; clear n0_ n1_; (try clear hb); (try clear hb2); (try clear hk); (try clear hi)))
          go_ret
          exact ⟨by first | rfl | (simp [errW_none, errW_some] <;> rfl) | (simp [*, errW_none, errW_some] <;> rfl), by repeat (first | (with_reducible first | exact HB.out | apply below_alloc | apply pw_below_drewN | apply below_drew1) | exact HB.out)⟩
        · rw [if_neg c67] at H
          have c67b0 : (t163 == 111) = false := beq_eq_false_iff_ne.mpr c67
          have c67b1 : (t163 != 111) = true := bne_iff_ne.mpr c67
          obtain rfl := Option.some.inj H
          go_enter Try.func6, Try.ntmps6
          go_wp2_with (first | ((with_reducible refine gate_callee (f := 13) rfl ?_); refine goesL_ (some 13) rfl rfl Try.func13 (by kernel_rfl) rfl #[.slice A0 l0.length c0] rfl (by (try simp only [List.map_toArray, List.map_cons, List.map_nil]); first | done | rfl | (simp only [List.length_drop, List.length_take]; rfl)) ?_; (with_reducible refine (reloc_Write.calls k _ _ l0 t162 t163 _ ?side1 ?side2 A3.out).mono ?_); (case side1 => repeat (first | exact HR0.out | (with_reducible refine Kd.C_alloc ?_ _) | (with_reducible refine Kd.C_drewN ?_ _) | (with_reducible refine Kd.C_drew ?_))); (case side2 => exact HC0.out); rintro e w72 ⟨v164, rfl, ho0, hb⟩; refine ⟨_, rfl, ?_⟩; have n0_ := Aside0.mk (Kd.R_lower ho0 (below_size (by repeat (first | (with_reducible first | exact HB.out | apply below_alloc | apply pw_below_drewN | apply below_drew1) | exact HB.out)))); have n1_ := Aside0.mk (below_step (by repeat (first | (with_reducible first | exact HB.out | apply below_alloc | apply pw_below_drewN | apply below_drew1) | exact HB.out)) hb); clear HB; have HO165 := n0_; have HB := n1_; clear n0_ n1_; (try clear hb); (try clear hb2); (try clear hk); (try clear hi); (try clear ho0); obtain ⟨Ao73, co73, eo73⟩ := Kd.R_slice HO165.out; subst eo73))
          go_ret
          exact ⟨by first | rfl | (simp [errW_none, errW_some] <;> rfl) | (simp [*, errW_none, errW_some] <;> rfl), by repeat (first | (with_reducible first | exact HB.out | apply below_alloc | apply pw_below_drewN | apply below_drew1) | exact HB.out)⟩
    · rw [if_neg c61] at H
      have c61b0 : ((t162.length : Int) == 0) = false := beq_eq_false_iff_ne.mpr c61
      have c61b1 : ((t162.length : Int) != 0) = true := bne_iff_ne.mpr c61
      have c61b2 : ¬ (t162 = []) := fun h_ => c61 (by rw [h_]; rfl)
      obtain rfl := Option.some.inj H
      go_enter Try.func6, Try.ntmps6
      go_wp2_with (first | ((with_reducible refine gate_callee (f := 13) rfl ?_); refine goesL_ (some 13) rfl rfl Try.func13 (by kernel_rfl) rfl #[.slice A0 l0.length c0] rfl (by (try simp only [List.map_toArray, List.map_cons, List.map_nil]); first | done | rfl | (simp only [List.length_drop, List.length_take]; rfl)) ?_; (with_reducible refine (reloc_Write.calls k _ _ l0 t162 t163 _ ?side1 ?side2 A3.out).mono ?_); (case side1 => repeat (first | exact HR0.out | (with_reducible refine Kd.C_alloc ?_ _) | (with_reducible refine Kd.C_drewN ?_ _) | (with_reducible refine Kd.C_drew ?_))); (case side2 => exact HC0.out); rintro e w74 ⟨v164, rfl, ho0, hb⟩; refine ⟨_, rfl, ?_⟩; have n0_ := Aside0.mk (Kd.R_lower ho0 (below_size (by repeat (first | (with_reducible first | exact HB.out | apply below_alloc | apply pw_below_drewN | apply below_drew1) | exact HB.out)))); have n1_ := Aside0.mk (below_step (by repeat (first | (with_reducible first | exact HB.out | apply below_alloc | apply pw_below_drewN | apply below_drew1) | exact HB.out)) hb); clear HB; have HO165 := n0_; have HB := n1_; clear n0_ n1_; (try clear hb); (try clear hb2); (try clear hk); (try clear hi); (try clear ho0); obtain ⟨Ao75, co75, eo75⟩ := Kd.R_slice HO165.out; subst eo75))
      go_ret
      exact ⟨by first | rfl | (simp [errW_none, errW_some] <;> rfl) | (simp [*, errW_none, errW_some] <;> rfl), by repeat (first | (with_reducible first | exact HB.out | apply below_alloc | apply pw_below_drewN | apply below_drew1) | exact HB.out)⟩

end Go.Proofs.Ytolhfcefpjfobaa.PR
