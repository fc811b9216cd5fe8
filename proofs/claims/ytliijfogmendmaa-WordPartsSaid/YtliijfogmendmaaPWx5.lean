-- Printed by this session's own program (wip/tools/myprint.py) over the kit's print; the parts that are marked 'by hand' are this session's.
import Derived.Test.YtliijfogmendmaaPWx0
import Derived.Test.YtliijfogmendmaaPWx1
import Derived.Test.YtliijfogmendmaaPWx4
namespace Go.Proofs.Ytliijfogmendmaa.PW
open Go.RowKit Go.Proofs.YtliijfogmendmaaW.PrintWords Go.Proofs.YtliijfogmendmaaW.PrintLast Go.Proofs.YtliijfogmendmaaW.PrintMore
attribute [local go_sem] max2_int min2_int max_two min_two max_three min_three max_four min_four   -- for this text's walks alone
set_option linter.unusedVariables false
set_option linter.unusedSimpArgs false

/-! ### spindleref1_Bits: function 18 -/
def spindleref1_Bits.l0 : Nat → Int → Int → Int → Int → Int → Option (Int)
  | 0, _, _, _, _, _ => none
  | k + 1, x0, x1, x2, x7, x8 => if x8 ≥ 0 then ((spindleref1_power.f k x8).bind fun t141 => (if t141 = 0 then (none) else (if x0 = 1 then (if x0 = 2 then (spindleref1_Bits.l0 k x0 x1 x2 (IntKind.u64.wrap ((IntKind.u64.wrap (x7 + x7)) + (Int.tmod (IntKind.u64.wrap ((Int.tmod (IntKind.u64.wrap (Int.tdiv x1 t141)) 2) + (Int.tmod (IntKind.u64.wrap (Int.tdiv x2 t141)) 2))) 2))) (wrap64 (x8 - 1))) else (spindleref1_Bits.l0 k x0 x1 x2 (IntKind.u64.wrap ((IntKind.u64.wrap (x7 + x7)) + (IntKind.u64.wrap (Int.tdiv (IntKind.u64.wrap ((IntKind.u64.wrap ((Int.tmod (IntKind.u64.wrap (Int.tdiv x1 t141)) 2) + (Int.tmod (IntKind.u64.wrap (Int.tdiv x2 t141)) 2))) + 1)) 2)))) (wrap64 (x8 - 1)))) else (if x0 = 2 then (spindleref1_Bits.l0 k x0 x1 x2 (IntKind.u64.wrap ((IntKind.u64.wrap (x7 + x7)) + (Int.tmod (IntKind.u64.wrap ((Int.tmod (IntKind.u64.wrap (Int.tdiv x1 t141)) 2) + (Int.tmod (IntKind.u64.wrap (Int.tdiv x2 t141)) 2))) 2))) (wrap64 (x8 - 1))) else (spindleref1_Bits.l0 k x0 x1 x2 (IntKind.u64.wrap ((IntKind.u64.wrap (x7 + x7)) + (IntKind.u64.wrap (Int.tdiv (IntKind.u64.wrap ((Int.tmod (IntKind.u64.wrap (Int.tdiv x1 t141)) 2) + (Int.tmod (IntKind.u64.wrap (Int.tdiv x2 t141)) 2))) 2)))) (wrap64 (x8 - 1))))))) else (some x7)
def spindleref1_Bits.f (k : Nat) (a0 : Int) (a1 : Int) (a2 : Int) : Option (Int) := spindleref1_Bits.l0 k a0 a1 a2 0 63
theorem spindleref1_Bits.mono_l : ∀ k, (∀ y0 y1 y2 y3 y4, LeO (spindleref1_Bits.l0 k y0 y1 y2 y3 y4) (spindleref1_Bits.l0 (k + 1) y0 y1 y2 y3 y4))
  | 0 => fun _ _ _ _ _ r h => by simp [spindleref1_Bits.l0] at h
  | k + 1 => by
    have ih0 := spindleref1_Bits.mono_l k
    · intro y0 y1 y2 y3 y4
      unfold spindleref1_Bits.l0
      repeat' first
      | (with_reducible exact ih0 _ _ _ _ _)
      | (with_reducible exact spindleref1_power.mono _ _)
      | (with_reducible exact LeO.refl _)
      | (with_reducible exact LeO.none _)
      | (with_reducible refine LeO.ite ?_ ?_)
      | (with_reducible refine LeO.bind ?_ (fun _ => ?_))
      | exact ih0 _ _ _ _ _
      | exact spindleref1_power.mono _ _
      | exact LeO.none _
      | refine LeO.ite ?_ ?_
      | refine LeO.bind ?_ (fun _ => ?_)
theorem spindleref1_Bits.mono : ∀ a0 a1 a2 k, LeO (spindleref1_Bits.f k a0 a1 a2) (spindleref1_Bits.f (k + 1) a0 a1 a2) := by
  intro a0 a1 a2 k
  have ih0 := spindleref1_Bits.mono_l k
  unfold spindleref1_Bits.f
  repeat' first
      | (with_reducible exact ih0 _ _ _ _ _)
      | (with_reducible exact spindleref1_power.mono _ _)
      | (with_reducible exact LeO.refl _)
      | (with_reducible exact LeO.none _)
      | (with_reducible refine LeO.ite ?_ ?_)
      | (with_reducible refine LeO.bind ?_ (fun _ => ?_))
      | exact ih0 _ _ _ _ _
      | exact spindleref1_power.mono _ _
      | exact LeO.none _
      | refine LeO.ite ?_ ?_
      | refine LeO.bind ?_ (fun _ => ?_)
set_option maxHeartbeats 8000000 in
set_option maxRecDepth 100000 in
theorem spindleref1_Bits.calls (k : Nat) (a0 : Int) (a1 : Int) (a2 : Int) (r : Int) (w : World) (h : spindleref1_Bits.f k a0 a1 a2 = some r) :
    Calls Try.prog 18 #[.int .i64 a0, .int .u64 a1, .int .u64 a2] w fun e w' => e = .returned (.int .u64 r) ∧ Drawn0 w w' := by
  have H : (spindleref1_Bits.l0 k a0 a1 a2 0 63) = some r := h
  clear h
  have H' := Aside0.mk H
  clear H
  go_enter Try.func18, Try.ntmps18
  go_wp2
  go_loopg [7, 8] k (fun kq v7 v8 w' => ∃ (x7_1 : Int) (x8_1 : Int), v7 = .int .u64 x7_1 ∧ v8 = .int .i64 x8_1 ∧ Aside0 (spindleref1_Bits.l0 kq a0 a1 a2 x7_1 x8_1 = some r) ∧ Aside0 (kq ≤ k) ∧ Drawn0 w w')
  case atStart => exact ⟨(0), (63), (by first | rfl | (simp; done) | (simp [*]; done)), (by first | rfl | (simp; done) | (simp [*]; done)), H', ⟨Nat.le_refl _⟩, by repeat (first | exact Drawn0.refl _ | apply Drawn0.step)⟩
  case round =>
    clear H'
    try clear c1
    try clear p2
    obtain ⟨x7_1, x8_1, rfl, rfl, HA, HK1, ⟨m1, rfl⟩⟩ := hrel
    cases gk with
    | zero => exact absurd HA.out (by simp [spindleref1_Bits.l0])
    | succ k1 =>
      have H := HA.out
      clear HA
      simp only [spindleref1_Bits.l0] at H
      by_cases c4 : x8_1 ≥ 0
      · rw [if_pos c4] at H
        have c4b0 : decide (0 ≤ x8_1) = true := decide_eq_true c4
        clear c4
        replace H := Option.bind_eq_some_iff.mp H
        obtain ⟨t141, A50, H⟩ := H
        replace H : (if t141 = 0 then (none) else (if a0 = 1 then (if a0 = 2 then (spindleref1_Bits.l0 k1 a0 a1 a2 (IntKind.u64.wrap ((IntKind.u64.wrap (x7_1 + x7_1)) + (Int.tmod (IntKind.u64.wrap ((Int.tmod (IntKind.u64.wrap (Int.tdiv a1 t141)) 2) + (Int.tmod (IntKind.u64.wrap (Int.tdiv a2 t141)) 2))) 2))) (wrap64 (x8_1 - 1))) else (spindleref1_Bits.l0 k1 a0 a1 a2 (IntKind.u64.wrap ((IntKind.u64.wrap (x7_1 + x7_1)) + (IntKind.u64.wrap (Int.tdiv (IntKind.u64.wrap ((IntKind.u64.wrap ((Int.tmod (IntKind.u64.wrap (Int.tdiv a1 t141)) 2) + (Int.tmod (IntKind.u64.wrap (Int.tdiv a2 t141)) 2))) + 1)) 2)))) (wrap64 (x8_1 - 1)))) else (if a0 = 2 then (spindleref1_Bits.l0 k1 a0 a1 a2 (IntKind.u64.wrap ((IntKind.u64.wrap (x7_1 + x7_1)) + (Int.tmod (IntKind.u64.wrap ((Int.tmod (IntKind.u64.wrap (Int.tdiv a1 t141)) 2) + (Int.tmod (IntKind.u64.wrap (Int.tdiv a2 t141)) 2))) 2))) (wrap64 (x8_1 - 1))) else (spindleref1_Bits.l0 k1 a0 a1 a2 (IntKind.u64.wrap ((IntKind.u64.wrap (x7_1 + x7_1)) + (IntKind.u64.wrap (Int.tdiv (IntKind.u64.wrap ((Int.tmod (IntKind.u64.wrap (Int.tdiv a1 t141)) 2) + (Int.tmod (IntKind.u64.wrap (Int.tdiv a2 t141)) 2))) 2)))) (wrap64 (x8_1 - 1)))))) = some r := H
        have A5 := Aside0.mk A50
        clear A50
        by_cases c6 : t141 = 0
        · rw [if_pos c6] at H
          exact absurd H (by simp)
        · rw [if_neg c6] at H
          have c6b0 : (t141 == 0) = false := beq_eq_false_iff_ne.mpr c6
          have c6b1 : (t141 != 0) = true := bne_iff_ne.mpr c6
          by_cases c7 : a0 = 1
          · rw [if_pos c7] at H
            have c7b0 : (a0 == 1) = true := beq_iff_eq.mpr c7
            have c7b1 : (a0 != 1) = false := bne_eq_false_iff_eq.mpr c7
            clear c7
            by_cases c8 : a0 = 2
            · rw [if_pos c8] at H
              have c8b0 : (a0 == 2) = true := beq_iff_eq.mpr c8
              have c8b1 : (a0 != 2) = false := bne_eq_false_iff_eq.mpr c8
              clear c8
              have H' := Aside0.mk H
              clear H
              go_wp2_with (first | ((with_reducible refine gate_callee (f := 46) rfl ?_); refine goesL_ (some 18) rfl rfl Try.func46 (by kernel_rfl) rfl #[.int .i64 x8_1] rfl (by (try simp only [List.map_toArray, List.map_cons, List.map_nil]); first | done | rfl | (simp only [List.length_drop, List.length_take]; rfl)) ?_; (with_reducible refine (spindleref1_power.calls k1 x8_1 t141 _ A5.out).mono ?_); rintro e w' ⟨rfl, ⟨nd, rfl⟩⟩; refine ⟨_, rfl, ?_⟩) | ((with_reducible refine gate_callee (f := 46) rfl ?_); refine goesL_ (some 23) rfl rfl Try.func46 (by kernel_rfl) rfl #[.int .i64 x8_1] rfl (by (try simp only [List.map_toArray, List.map_cons, List.map_nil]); first | done | rfl | (simp only [List.length_drop, List.length_take]; rfl)) ?_; (with_reducible refine (spindleref1_power.calls k1 x8_1 t141 _ A5.out).mono ?_); rintro e w' ⟨rfl, ⟨nd, rfl⟩⟩; refine ⟨_, rfl, ?_⟩))
              go_roundg k1
              case measure => have := HK1.out; omega
              case rel => exact ⟨(IntKind.u64.wrap ((IntKind.u64.wrap (x7_1 + x7_1)) + (Int.tmod (IntKind.u64.wrap ((Int.tmod (IntKind.u64.wrap (Int.tdiv a1 t141)) 2) + (Int.tmod (IntKind.u64.wrap (Int.tdiv a2 t141)) 2))) 2))), (wrap64 (x8_1 - 1)), (by first | rfl | (simp; done) | (simp [*]; done)), (by first | rfl | (simp; done) | (simp [*]; done)), H', ⟨by have := HK1.out; omega⟩, by repeat (first | exact Drawn0.refl _ | apply Drawn0.step)⟩
            · rw [if_neg c8] at H
              have c8b0 : (a0 == 2) = false := beq_eq_false_iff_ne.mpr c8
              have c8b1 : (a0 != 2) = true := bne_iff_ne.mpr c8
              have H' := Aside0.mk H
              clear H
              go_wp2_with (first | ((with_reducible refine gate_callee (f := 46) rfl ?_); refine goesL_ (some 18) rfl rfl Try.func46 (by kernel_rfl) rfl #[.int .i64 x8_1] rfl (by (try simp only [List.map_toArray, List.map_cons, List.map_nil]); first | done | rfl | (simp only [List.length_drop, List.length_take]; rfl)) ?_; (with_reducible refine (spindleref1_power.calls k1 x8_1 t141 _ A5.out).mono ?_); rintro e w' ⟨rfl, ⟨nd, rfl⟩⟩; refine ⟨_, rfl, ?_⟩) | ((with_reducible refine gate_callee (f := 46) rfl ?_); refine goesL_ (some 23) rfl rfl Try.func46 (by kernel_rfl) rfl #[.int .i64 x8_1] rfl (by (try simp only [List.map_toArray, List.map_cons, List.map_nil]); first | done | rfl | (simp only [List.length_drop, List.length_take]; rfl)) ?_; (with_reducible refine (spindleref1_power.calls k1 x8_1 t141 _ A5.out).mono ?_); rintro e w' ⟨rfl, ⟨nd, rfl⟩⟩; refine ⟨_, rfl, ?_⟩))
              go_roundg k1
              case measure => have := HK1.out; omega
              case rel => exact ⟨(IntKind.u64.wrap ((IntKind.u64.wrap (x7_1 + x7_1)) + (IntKind.u64.wrap (Int.tdiv (IntKind.u64.wrap ((IntKind.u64.wrap ((Int.tmod (IntKind.u64.wrap (Int.tdiv a1 t141)) 2) + (Int.tmod (IntKind.u64.wrap (Int.tdiv a2 t141)) 2))) + 1)) 2)))), (wrap64 (x8_1 - 1)), (by first | rfl | (simp; done) | (simp [*]; done)), (by first | rfl | (simp; done) | (simp [*]; done)), H', ⟨by have := HK1.out; omega⟩, by repeat (first | exact Drawn0.refl _ | apply Drawn0.step)⟩
          · rw [if_neg c7] at H
            have c7b0 : (a0 == 1) = false := beq_eq_false_iff_ne.mpr c7
            have c7b1 : (a0 != 1) = true := bne_iff_ne.mpr c7
            by_cases c9 : a0 = 2
            · rw [if_pos c9] at H
              have c9b0 : (a0 == 2) = true := beq_iff_eq.mpr c9
              have c9b1 : (a0 != 2) = false := bne_eq_false_iff_eq.mpr c9
              clear c9
              have H' := Aside0.mk H
              clear H
              go_wp2_with (first | ((with_reducible refine gate_callee (f := 46) rfl ?_); refine goesL_ (some 18) rfl rfl Try.func46 (by kernel_rfl) rfl #[.int .i64 x8_1] rfl (by (try simp only [List.map_toArray, List.map_cons, List.map_nil]); first | done | rfl | (simp only [List.length_drop, List.length_take]; rfl)) ?_; (with_reducible refine (spindleref1_power.calls k1 x8_1 t141 _ A5.out).mono ?_); rintro e w' ⟨rfl, ⟨nd, rfl⟩⟩; refine ⟨_, rfl, ?_⟩) | ((with_reducible refine gate_callee (f := 46) rfl ?_); refine goesL_ (some 23) rfl rfl Try.func46 (by kernel_rfl) rfl #[.int .i64 x8_1] rfl (by (try simp only [List.map_toArray, List.map_cons, List.map_nil]); first | done | rfl | (simp only [List.length_drop, List.length_take]; rfl)) ?_; (with_reducible refine (spindleref1_power.calls k1 x8_1 t141 _ A5.out).mono ?_); rintro e w' ⟨rfl, ⟨nd, rfl⟩⟩; refine ⟨_, rfl, ?_⟩))
              go_roundg k1
              case measure => have := HK1.out; omega
              case rel => exact ⟨(IntKind.u64.wrap ((IntKind.u64.wrap (x7_1 + x7_1)) + (Int.tmod (IntKind.u64.wrap ((Int.tmod (IntKind.u64.wrap (Int.tdiv a1 t141)) 2) + (Int.tmod (IntKind.u64.wrap (Int.tdiv a2 t141)) 2))) 2))), (wrap64 (x8_1 - 1)), (by first | rfl | (simp; done) | (simp [*]; done)), (by first | rfl | (simp; done) | (simp [*]; done)), H', ⟨by have := HK1.out; omega⟩, by repeat (first | exact Drawn0.refl _ | apply Drawn0.step)⟩
            · rw [if_neg c9] at H
              have c9b0 : (a0 == 2) = false := beq_eq_false_iff_ne.mpr c9
              have c9b1 : (a0 != 2) = true := bne_iff_ne.mpr c9
              have H' := Aside0.mk H
              clear H
              go_wp2_with (first | ((with_reducible refine gate_callee (f := 46) rfl ?_); refine goesL_ (some 18) rfl rfl Try.func46 (by kernel_rfl) rfl #[.int .i64 x8_1] rfl (by (try simp only [List.map_toArray, List.map_cons, List.map_nil]); first | done | rfl | (simp only [List.length_drop, List.length_take]; rfl)) ?_; (with_reducible refine (spindleref1_power.calls k1 x8_1 t141 _ A5.out).mono ?_); rintro e w' ⟨rfl, ⟨nd, rfl⟩⟩; refine ⟨_, rfl, ?_⟩) | ((with_reducible refine gate_callee (f := 46) rfl ?_); refine goesL_ (some 23) rfl rfl Try.func46 (by kernel_rfl) rfl #[.int .i64 x8_1] rfl (by (try simp only [List.map_toArray, List.map_cons, List.map_nil]); first | done | rfl | (simp only [List.length_drop, List.length_take]; rfl)) ?_; (with_reducible refine (spindleref1_power.calls k1 x8_1 t141 _ A5.out).mono ?_); rintro e w' ⟨rfl, ⟨nd, rfl⟩⟩; refine ⟨_, rfl, ?_⟩))
              go_roundg k1
              case measure => have := HK1.out; omega
              case rel => exact ⟨(IntKind.u64.wrap ((IntKind.u64.wrap (x7_1 + x7_1)) + (IntKind.u64.wrap (Int.tdiv (IntKind.u64.wrap ((Int.tmod (IntKind.u64.wrap (Int.tdiv a1 t141)) 2) + (Int.tmod (IntKind.u64.wrap (Int.tdiv a2 t141)) 2))) 2)))), (wrap64 (x8_1 - 1)), (by first | rfl | (simp; done) | (simp [*]; done)), (by first | rfl | (simp; done) | (simp [*]; done)), H', ⟨by have := HK1.out; omega⟩, by repeat (first | exact Drawn0.refl _ | apply Drawn0.step)⟩
      · rw [if_neg c4] at H
        have c4b0 : decide (0 ≤ x8_1) = false := decide_eq_false c4
        clear c4
        obtain rfl := Option.some.inj H
        go_wp2
        go_ret
        exact ⟨by first | rfl | (simp; done) | (simp [*]; done), by repeat (first | exact Drawn0.refl _ | apply Drawn0.step)⟩

/-! ### spindlelaw1_WordSums: function 3 -/
mutual
def spindlelaw1_WordSums.l0 : Nat → List (S26) → Int → Option (Bool)
  | 0, _, _ => none
  | k + 1, x0, x3 => if x3 < (x0.length : Int) then (if 0 ≤ x3 then ((word_Add.f ((rd_T26 x0 x3).f0) ((rd_T26 x0 x3).f1)).bind fun t145 => (if t145 = (IntKind.u64.wrap (((rd_T26 x0 x3).f0) + ((rd_T26 x0 x3).f1))) then ((word_Sub.f ((rd_T26 x0 x3).f0) ((rd_T26 x0 x3).f1)).bind fun t146 => (if t146 = (IntKind.u64.wrap (((rd_T26 x0 x3).f0) - ((rd_T26 x0 x3).f1))) then ((word_Neg.f ((rd_T26 x0 x3).f0)).bind fun t147 => (if t147 = (IntKind.u64.wrap (-((rd_T26 x0 x3).f0))) then ((word_Mul.f ((rd_T26 x0 x3).f0) ((rd_T26 x0 x3).f1)).bind fun t148 => ((spindleref1_Mul.f k ((rd_T26 x0 x3).f0) ((rd_T26 x0 x3).f1)).bind fun t149 => (spindlelaw1_WordSums.j1 k x0 x3 ((rd_T26 x0 x3).f0) ((rd_T26 x0 x3).f1) (t148 == t149)))) else (spindlelaw1_WordSums.j1 k x0 x3 ((rd_T26 x0 x3).f0) ((rd_T26 x0 x3).f1) false))) else (spindlelaw1_WordSums.j1 k x0 x3 ((rd_T26 x0 x3).f0) ((rd_T26 x0 x3).f1) false))) else (spindlelaw1_WordSums.j1 k x0 x3 ((rd_T26 x0 x3).f0) ((rd_T26 x0 x3).f1) false))) else (none)) else (some true)
def spindlelaw1_WordSums.j1 : Nat → List (S26) → Int → Int → Int → Bool → Option (Bool)
  | 0, _, _, _, _, _ => none
  | k + 1, x0, x3, x4, x5, x6 => if x6 = true then ((word_And.f x4 x5).bind fun t150 => ((spindleref1_Bits.f k 0 x4 x5).bind fun t151 => (if t150 = t151 then ((word_Or.f x4 x5).bind fun t152 => ((spindleref1_Bits.f k 1 x4 x5).bind fun t153 => (if t152 = t153 then ((word_Xor.f x4 x5).bind fun t154 => ((spindleref1_Bits.f k 2 x4 x5).bind fun t155 => (if t154 = t155 then (spindlelaw1_WordSums.l0 k x0 (wrap64 (x3 + 1))) else (some false)))) else (some false)))) else (some false)))) else (some false)
end
def spindlelaw1_WordSums.f (k : Nat) (l0 : List (S26)) : Option (Bool) := (spindlelaw1_awake.f k).bind fun t142 => (if t142 = true then (spindlelaw1_WordSums.l0 k l0 0) else (some false))
theorem spindlelaw1_WordSums.mono_l : ∀ k, (∀ y0 y1, LeO (spindlelaw1_WordSums.l0 k y0 y1) (spindlelaw1_WordSums.l0 (k + 1) y0 y1)) ∧ (∀ y0 y1 y2 y3 y4, LeO (spindlelaw1_WordSums.j1 k y0 y1 y2 y3 y4) (spindlelaw1_WordSums.j1 (k + 1) y0 y1 y2 y3 y4))
  | 0 => ⟨fun _ _ r h => by simp [spindlelaw1_WordSums.l0] at h, fun _ _ _ _ _ r h => by simp [spindlelaw1_WordSums.j1] at h⟩
  | k + 1 => by
    obtain ⟨ih0, ih1⟩ := spindlelaw1_WordSums.mono_l k
    refine ⟨?_, ?_⟩
    · intro y0 y1
      unfold spindlelaw1_WordSums.l0
      repeat' first
      | (with_reducible exact ih0 _ _)
      | (with_reducible exact ih1 _ _ _ _ _)
      | (with_reducible exact spindlelaw1_awake.mono _)
      | (with_reducible exact spindleref1_Bits.mono _ _ _ _)
      | (with_reducible exact spindleref1_Mul.mono _ _ _)
      | (with_reducible exact LeO.refl _)
      | (with_reducible exact LeO.none _)
      | (with_reducible refine LeO.ite ?_ ?_)
      | (with_reducible refine LeO.bind ?_ (fun _ => ?_))
      | exact ih0 _ _
      | exact ih1 _ _ _ _ _
      | exact spindlelaw1_awake.mono _
      | exact spindleref1_Bits.mono _ _ _ _
      | exact spindleref1_Mul.mono _ _ _
      | exact LeO.none _
      | refine LeO.ite ?_ ?_
      | refine LeO.bind ?_ (fun _ => ?_)
    · intro y0 y1 y2 y3 y4
      unfold spindlelaw1_WordSums.j1
      repeat' first
      | (with_reducible exact ih0 _ _)
      | (with_reducible exact ih1 _ _ _ _ _)
      | (with_reducible exact spindlelaw1_awake.mono _)
      | (with_reducible exact spindleref1_Bits.mono _ _ _ _)
      | (with_reducible exact spindleref1_Mul.mono _ _ _)
      | (with_reducible exact LeO.refl _)
      | (with_reducible exact LeO.none _)
      | (with_reducible refine LeO.ite ?_ ?_)
      | (with_reducible refine LeO.bind ?_ (fun _ => ?_))
      | exact ih0 _ _
      | exact ih1 _ _ _ _ _
      | exact spindlelaw1_awake.mono _
      | exact spindleref1_Bits.mono _ _ _ _
      | exact spindleref1_Mul.mono _ _ _
      | exact LeO.none _
      | refine LeO.ite ?_ ?_
      | refine LeO.bind ?_ (fun _ => ?_)
theorem spindlelaw1_WordSums.mono : ∀ a0 k, LeO (spindlelaw1_WordSums.f k a0) (spindlelaw1_WordSums.f (k + 1) a0) := by
  intro a0 k
  obtain ⟨ih0, ih1⟩ := spindlelaw1_WordSums.mono_l k
  unfold spindlelaw1_WordSums.f
  repeat' first
      | (with_reducible exact ih0 _ _)
      | (with_reducible exact ih1 _ _ _ _ _)
      | (with_reducible exact spindlelaw1_awake.mono _)
      | (with_reducible exact spindleref1_Bits.mono _ _ _ _)
      | (with_reducible exact spindleref1_Mul.mono _ _ _)
      | (with_reducible exact LeO.refl _)
      | (with_reducible exact LeO.none _)
      | (with_reducible refine LeO.ite ?_ ?_)
      | (with_reducible refine LeO.bind ?_ (fun _ => ?_))
      | exact ih0 _ _
      | exact ih1 _ _ _ _ _
      | exact spindlelaw1_awake.mono _
      | exact spindleref1_Bits.mono _ _ _ _
      | exact spindleref1_Mul.mono _ _ _
      | exact LeO.none _
      | refine LeO.ite ?_ ?_
      | refine LeO.bind ?_ (fun _ => ?_)
set_option maxHeartbeats 8000000 in
set_option maxRecDepth 100000 in
theorem spindlelaw1_WordSums.calls (k : Nat) (A0 : Option Addr) (c0 : Nat) (l0 : List (S26)) (r : Bool) (w : World) (hr0 : Kd.C k26 w A0 l0.length l0) (hc0 : l0.length ≤ c0) (h : spindlelaw1_WordSums.f k l0 = some r) :
    Calls Try.prog 3 #[.slice A0 l0.length c0] w fun e w' => e = .returned (.bool r) ∧ Drawn0 w w' := by
  have HR0 := Aside0.mk hr0
  have HC0 := Aside0.mk hc0
  clear hr0 hc0
  have H : ((spindlelaw1_awake.f k).bind fun t142 => (if t142 = true then (spindlelaw1_WordSums.l0 k l0 0) else (some false))) = some r := h
  clear h
  replace H := Option.bind_eq_some_iff.mp H
  obtain ⟨t142, A20, H⟩ := H
  replace H : (if t142 = true then (spindlelaw1_WordSums.l0 k l0 0) else (some false)) = some r := H
  have A2 := Aside0.mk A20
  clear A20
  by_cases c3 : t142 = true
  · subst c3
    have H1 : (spindlelaw1_WordSums.l0 k l0 0) = some r := by rw [if_pos rfl] at H; exact H
    clear H
    have H := H1
    clear H1
    have H' := Aside0.mk H
    clear H
    go_enter Try.func3, Try.ntmps3
    go_wp2_with (first | ((with_reducible refine gate_callee (f := 11) rfl ?_); refine goesL_ (some 7) rfl rfl Try.func11 (by kernel_rfl) rfl #[] rfl (by (try simp only [List.map_toArray, List.map_cons, List.map_nil]); first | done | rfl | (simp only [List.length_drop, List.length_take]; rfl)) ?_; (with_reducible refine (spindlelaw1_awake.calls k  true _ A2.out).mono ?_); rintro e w' ⟨rfl, ⟨nd, rfl⟩⟩; refine ⟨_, rfl, ?_⟩))
    go_loopg [3] k (fun kq v3 w' => ∃ (x3_1 : Int), v3 = .int .i64 x3_1 ∧ Aside0 (spindlelaw1_WordSums.l0 kq l0 x3_1 = some r) ∧ Aside0 (kq ≤ k) ∧ Drawn0 w w')
    case atStart => exact ⟨(0), (by first | rfl | (simp; done) | (simp [*]; done)), H', ⟨Nat.le_refl _⟩, by repeat (first | exact Drawn0.refl _ | apply Drawn0.step)⟩
    case round =>
      clear H'
      try clear c1
      try clear p2
      try clear c3
      obtain ⟨x3_1, rfl, HA, HK1, ⟨m1, rfl⟩⟩ := hrel
      cases gk with
      | zero => exact absurd HA.out (by simp [spindlelaw1_WordSums.l0])
      | succ k1 =>
        have H := HA.out
        clear HA
        simp only [spindlelaw1_WordSums.l0] at H
        by_cases c4 : x3_1 < (l0.length : Int)
        · rw [if_pos c4] at H
          have c4b0 : decide (x3_1 < (l0.length : Int)) = true := decide_eq_true c4
          clear c4
          by_cases c5 : 0 ≤ x3_1
          · rw [if_pos c5] at H
            have c5b0 : decide (0 ≤ x3_1) = true := decide_eq_true c5
            clear c5
            have HC6 := Aside0.mk H
            clear H
            have p143 : 0 ≤ (x3_1 : Int) := of_decide_eq_true (by first | (with_reducible assumption) | assumption)
            have q143 : x3_1 < (l0.length : Int) := of_decide_eq_true (by first | (with_reducible assumption) | assumption)
            obtain ⟨ad143, e143, hx143_0, hx143_1, hx143_2, hx143_3⟩ := at_T26 HR0.out x3_1 p143 q143
            cases e143
            replace p143 := eq_true p143
            replace q143 := eq_true q143
            have p144 : 0 ≤ (x3_1 : Int) := of_decide_eq_true (by first | (with_reducible assumption) | assumption)
            have q144 : x3_1 < (l0.length : Int) := of_decide_eq_true (by first | (with_reducible assumption) | assumption)
            obtain ⟨ad144, e144, hx144_0, hx144_1, hx144_2, hx144_3⟩ := at_T26 HR0.out x3_1 p144 q144
            obtain rfl : ad143 = ad144 := (by injection e144)
            replace p144 := eq_true p144
            replace q144 := eq_true q144
            go_upto_region 8 with (fail)
            go_cut [6] (fun v6 wc => ∃ (kq : Nat) (x6_5 : Bool), v6 = .bool x6_5 ∧ Aside0 (spindlelaw1_WordSums.j1 kq l0 x3_1 ((rd_T26 l0 x3_1).f0) ((rd_T26 l0 x3_1).f1) x6_5 = some r) ∧ Aside0 (kq ≤ k1) ∧ Drawn0 w wc)
            case first =>
              have H := HC6.out
              clear HC6
              replace H := Option.bind_eq_some_iff.mp H
              obtain ⟨t145, A70, H⟩ := H
              replace H : (if t145 = (IntKind.u64.wrap (((rd_T26 l0 x3_1).f0) + ((rd_T26 l0 x3_1).f1))) then ((word_Sub.f ((rd_T26 l0 x3_1).f0) ((rd_T26 l0 x3_1).f1)).bind fun t146 => (if t146 = (IntKind.u64.wrap (((rd_T26 l0 x3_1).f0) - ((rd_T26 l0 x3_1).f1))) then ((word_Neg.f ((rd_T26 l0 x3_1).f0)).bind fun t147 => (if t147 = (IntKind.u64.wrap (-((rd_T26 l0 x3_1).f0))) then ((word_Mul.f ((rd_T26 l0 x3_1).f0) ((rd_T26 l0 x3_1).f1)).bind fun t148 => ((spindleref1_Mul.f k1 ((rd_T26 l0 x3_1).f0) ((rd_T26 l0 x3_1).f1)).bind fun t149 => (spindlelaw1_WordSums.j1 k1 l0 x3_1 ((rd_T26 l0 x3_1).f0) ((rd_T26 l0 x3_1).f1) (t148 == t149)))) else (spindlelaw1_WordSums.j1 k1 l0 x3_1 ((rd_T26 l0 x3_1).f0) ((rd_T26 l0 x3_1).f1) false))) else (spindlelaw1_WordSums.j1 k1 l0 x3_1 ((rd_T26 l0 x3_1).f0) ((rd_T26 l0 x3_1).f1) false))) else (spindlelaw1_WordSums.j1 k1 l0 x3_1 ((rd_T26 l0 x3_1).f0) ((rd_T26 l0 x3_1).f1) false)) = some r := H
              have A7 := Aside0.mk A70
              clear A70
              by_cases c8 : t145 = (IntKind.u64.wrap (((rd_T26 l0 x3_1).f0) + ((rd_T26 l0 x3_1).f1)))
              · rw [if_pos c8] at H
                have c8b0 : (t145 == (IntKind.u64.wrap (((rd_T26 l0 x3_1).f0) + ((rd_T26 l0 x3_1).f1)))) = true := beq_iff_eq.mpr c8
                have c8b1 : (t145 != (IntKind.u64.wrap (((rd_T26 l0 x3_1).f0) + ((rd_T26 l0 x3_1).f1)))) = false := bne_eq_false_iff_eq.mpr c8
                clear c8
                (first | rw [c8b0] | (simp only [i64_w, i32_w]; rw [c8b0]) | skip)
                replace H := Option.bind_eq_some_iff.mp H
                obtain ⟨t146, A90, H⟩ := H
                replace H : (if t146 = (IntKind.u64.wrap (((rd_T26 l0 x3_1).f0) - ((rd_T26 l0 x3_1).f1))) then ((word_Neg.f ((rd_T26 l0 x3_1).f0)).bind fun t147 => (if t147 = (IntKind.u64.wrap (-((rd_T26 l0 x3_1).f0))) then ((word_Mul.f ((rd_T26 l0 x3_1).f0) ((rd_T26 l0 x3_1).f1)).bind fun t148 => ((spindleref1_Mul.f k1 ((rd_T26 l0 x3_1).f0) ((rd_T26 l0 x3_1).f1)).bind fun t149 => (spindlelaw1_WordSums.j1 k1 l0 x3_1 ((rd_T26 l0 x3_1).f0) ((rd_T26 l0 x3_1).f1) (t148 == t149)))) else (spindlelaw1_WordSums.j1 k1 l0 x3_1 ((rd_T26 l0 x3_1).f0) ((rd_T26 l0 x3_1).f1) false))) else (spindlelaw1_WordSums.j1 k1 l0 x3_1 ((rd_T26 l0 x3_1).f0) ((rd_T26 l0 x3_1).f1) false)) = some r := H
                have A9 := Aside0.mk A90
                clear A90
                by_cases c10 : t146 = (IntKind.u64.wrap (((rd_T26 l0 x3_1).f0) - ((rd_T26 l0 x3_1).f1)))
                · rw [if_pos c10] at H
                  have c10b0 : (t146 == (IntKind.u64.wrap (((rd_T26 l0 x3_1).f0) - ((rd_T26 l0 x3_1).f1)))) = true := beq_iff_eq.mpr c10
                  have c10b1 : (t146 != (IntKind.u64.wrap (((rd_T26 l0 x3_1).f0) - ((rd_T26 l0 x3_1).f1)))) = false := bne_eq_false_iff_eq.mpr c10
                  clear c10
                  replace H := Option.bind_eq_some_iff.mp H
                  obtain ⟨t147, A110, H⟩ := H
                  replace H : (if t147 = (IntKind.u64.wrap (-((rd_T26 l0 x3_1).f0))) then ((word_Mul.f ((rd_T26 l0 x3_1).f0) ((rd_T26 l0 x3_1).f1)).bind fun t148 => ((spindleref1_Mul.f k1 ((rd_T26 l0 x3_1).f0) ((rd_T26 l0 x3_1).f1)).bind fun t149 => (spindlelaw1_WordSums.j1 k1 l0 x3_1 ((rd_T26 l0 x3_1).f0) ((rd_T26 l0 x3_1).f1) (t148 == t149)))) else (spindlelaw1_WordSums.j1 k1 l0 x3_1 ((rd_T26 l0 x3_1).f0) ((rd_T26 l0 x3_1).f1) false)) = some r := H
                  have A11 := Aside0.mk A110
                  clear A110
                  by_cases c12 : t147 = (IntKind.u64.wrap (-((rd_T26 l0 x3_1).f0)))
                  · rw [if_pos c12] at H
                    have c12b0 : (t147 == (IntKind.u64.wrap (-((rd_T26 l0 x3_1).f0)))) = true := beq_iff_eq.mpr c12
                    have c12b1 : (t147 != (IntKind.u64.wrap (-((rd_T26 l0 x3_1).f0)))) = false := bne_eq_false_iff_eq.mpr c12
                    clear c12
                    replace H := Option.bind_eq_some_iff.mp H
                    obtain ⟨t148, A130, H⟩ := H
                    replace H : ((spindleref1_Mul.f k1 ((rd_T26 l0 x3_1).f0) ((rd_T26 l0 x3_1).f1)).bind fun t149 => (spindlelaw1_WordSums.j1 k1 l0 x3_1 ((rd_T26 l0 x3_1).f0) ((rd_T26 l0 x3_1).f1) (t148 == t149))) = some r := H
                    have A13 := Aside0.mk A130
                    clear A130
                    replace H := Option.bind_eq_some_iff.mp H
                    obtain ⟨t149, A140, H⟩ := H
                    replace H : (spindlelaw1_WordSums.j1 k1 l0 x3_1 ((rd_T26 l0 x3_1).f0) ((rd_T26 l0 x3_1).f1) (t148 == t149)) = some r := H
                    have A14 := Aside0.mk A140
                    clear A140
                    have H' := Aside0.mk H
                    clear H
                    go_wp2_with (first | ((with_reducible refine gate_callee (f := 12) rfl ?_); refine goesL_ (some 27) rfl rfl Try.func12 (by kernel_rfl) rfl #[.int .u64 ((rd_T26 l0 x3_1).f0), .int .u64 ((rd_T26 l0 x3_1).f1)] rfl (by (try simp only [List.map_toArray, List.map_cons, List.map_nil]); first | done | rfl | (simp only [List.length_drop, List.length_take]; rfl)) ?_; (with_reducible refine (word_Add.calls ((rd_T26 l0 x3_1).f0) ((rd_T26 l0 x3_1).f1) t145 _ A7.out).mono ?_); rintro e w' ⟨rfl, ⟨nd, rfl⟩⟩; refine ⟨_, rfl, ?_⟩) | (go_at_call 13; (with_reducible refine (word_Sub.calls ((rd_T26 l0 x3_1).f0) ((rd_T26 l0 x3_1).f1) t146 _ A9.out).mono ?_); rintro e w' ⟨rfl, ⟨nd, rfl⟩⟩) | (go_at_call 14; (with_reducible refine (word_Neg.calls ((rd_T26 l0 x3_1).f0) t147 _ A11.out).mono ?_); rintro e w' ⟨rfl, ⟨nd, rfl⟩⟩) | (go_at_call 15; (with_reducible refine (word_Mul.calls ((rd_T26 l0 x3_1).f0) ((rd_T26 l0 x3_1).f1) t148 _ A13.out).mono ?_); rintro e w' ⟨rfl, ⟨nd, rfl⟩⟩) | (go_at_call 16; (with_reducible refine (spindleref1_Mul.calls k1 ((rd_T26 l0 x3_1).f0) ((rd_T26 l0 x3_1).f1) t149 _ A14.out).mono ?_); rintro e w' ⟨rfl, ⟨nd, rfl⟩⟩))
                    go_meet
                    case rel => exact ⟨_, ((t148 == t149)), (by first | rfl | (simp; done) | (simp [*]; done)), H', ⟨by have := HK1.out; first | omega | exact Nat.le_refl _⟩, by repeat (first | exact Drawn0.refl _ | apply Drawn0.step)⟩
                  · rw [if_neg c12] at H
                    have c12b0 : (t147 == (IntKind.u64.wrap (-((rd_T26 l0 x3_1).f0)))) = false := beq_eq_false_iff_ne.mpr c12
                    have c12b1 : (t147 != (IntKind.u64.wrap (-((rd_T26 l0 x3_1).f0)))) = true := bne_iff_ne.mpr c12
                    have H' := Aside0.mk H
                    clear H
                    go_wp2_with (first | ((with_reducible refine gate_callee (f := 12) rfl ?_); refine goesL_ (some 27) rfl rfl Try.func12 (by kernel_rfl) rfl #[.int .u64 ((rd_T26 l0 x3_1).f0), .int .u64 ((rd_T26 l0 x3_1).f1)] rfl (by (try simp only [List.map_toArray, List.map_cons, List.map_nil]); first | done | rfl | (simp only [List.length_drop, List.length_take]; rfl)) ?_; (with_reducible refine (word_Add.calls ((rd_T26 l0 x3_1).f0) ((rd_T26 l0 x3_1).f1) t145 _ A7.out).mono ?_); rintro e w' ⟨rfl, ⟨nd, rfl⟩⟩; refine ⟨_, rfl, ?_⟩) | (go_at_call 13; (with_reducible refine (word_Sub.calls ((rd_T26 l0 x3_1).f0) ((rd_T26 l0 x3_1).f1) t146 _ A9.out).mono ?_); rintro e w' ⟨rfl, ⟨nd, rfl⟩⟩) | (go_at_call 14; (with_reducible refine (word_Neg.calls ((rd_T26 l0 x3_1).f0) t147 _ A11.out).mono ?_); rintro e w' ⟨rfl, ⟨nd, rfl⟩⟩))
                    go_meet
                    case rel => exact ⟨_, (false), (by first | rfl | (simp; done) | (simp [*]; done)), H', ⟨by have := HK1.out; first | omega | exact Nat.le_refl _⟩, by repeat (first | exact Drawn0.refl _ | apply Drawn0.step)⟩
                · rw [if_neg c10] at H
                  have c10b0 : (t146 == (IntKind.u64.wrap (((rd_T26 l0 x3_1).f0) - ((rd_T26 l0 x3_1).f1)))) = false := beq_eq_false_iff_ne.mpr c10
                  have c10b1 : (t146 != (IntKind.u64.wrap (((rd_T26 l0 x3_1).f0) - ((rd_T26 l0 x3_1).f1)))) = true := bne_iff_ne.mpr c10
                  have H' := Aside0.mk H
                  clear H
                  go_wp2_with (first | ((with_reducible refine gate_callee (f := 12) rfl ?_); refine goesL_ (some 27) rfl rfl Try.func12 (by kernel_rfl) rfl #[.int .u64 ((rd_T26 l0 x3_1).f0), .int .u64 ((rd_T26 l0 x3_1).f1)] rfl (by (try simp only [List.map_toArray, List.map_cons, List.map_nil]); first | done | rfl | (simp only [List.length_drop, List.length_take]; rfl)) ?_; (with_reducible refine (word_Add.calls ((rd_T26 l0 x3_1).f0) ((rd_T26 l0 x3_1).f1) t145 _ A7.out).mono ?_); rintro e w' ⟨rfl, ⟨nd, rfl⟩⟩; refine ⟨_, rfl, ?_⟩) | (go_at_call 13; (with_reducible refine (word_Sub.calls ((rd_T26 l0 x3_1).f0) ((rd_T26 l0 x3_1).f1) t146 _ A9.out).mono ?_); rintro e w' ⟨rfl, ⟨nd, rfl⟩⟩))
                  go_meet
                  case rel => exact ⟨_, (false), (by first | rfl | (simp; done) | (simp [*]; done)), H', ⟨by have := HK1.out; first | omega | exact Nat.le_refl _⟩, by repeat (first | exact Drawn0.refl _ | apply Drawn0.step)⟩
              · rw [if_neg c8] at H
                have c8b0 : (t145 == (IntKind.u64.wrap (((rd_T26 l0 x3_1).f0) + ((rd_T26 l0 x3_1).f1)))) = false := beq_eq_false_iff_ne.mpr c8
                have c8b1 : (t145 != (IntKind.u64.wrap (((rd_T26 l0 x3_1).f0) + ((rd_T26 l0 x3_1).f1)))) = true := bne_iff_ne.mpr c8
                (first | rw [c8b0] | (simp only [i64_w, i32_w]; rw [c8b0]) | skip)
                have H' := Aside0.mk H
                clear H
                go_wp2_with (first | ((with_reducible refine gate_callee (f := 12) rfl ?_); refine goesL_ (some 27) rfl rfl Try.func12 (by kernel_rfl) rfl #[.int .u64 ((rd_T26 l0 x3_1).f0), .int .u64 ((rd_T26 l0 x3_1).f1)] rfl (by (try simp only [List.map_toArray, List.map_cons, List.map_nil]); first | done | rfl | (simp only [List.length_drop, List.length_take]; rfl)) ?_; (with_reducible refine (word_Add.calls ((rd_T26 l0 x3_1).f0) ((rd_T26 l0 x3_1).f1) t145 _ A7.out).mono ?_); rintro e w' ⟨rfl, ⟨nd, rfl⟩⟩; refine ⟨_, rfl, ?_⟩))
                go_meet
                case rel => exact ⟨_, (false), (by first | rfl | (simp; done) | (simp [*]; done)), H', ⟨by have := HK1.out; first | omega | exact Nat.le_refl _⟩, by repeat (first | exact Drawn0.refl _ | apply Drawn0.step)⟩
            case rest =>
              clear HC6
              try clear c1
              try clear p1
              try clear q1
              try clear hx1
              try clear p2
              try clear c3
              try clear c4
              try clear c4b0
              try clear c5
              try clear c5b0
              try clear c8
              try clear c8b0
              try clear c8b1
              try clear c10
              try clear c10b0
              try clear c10b1
              try clear c11
              try clear c12
              try clear c12b0
              try clear c12b1
              try clear p14
              try clear q14
              try clear hx14
              try clear hx143_0
              try clear hx143_1
              try clear hx143_2
              try clear hx143_3
              try clear hx144_0
              try clear hx144_1
              try clear hx144_2
              try clear hx144_3
              try clear p143
              try clear p144
              try clear p2
              try clear q143
              try clear q144
              obtain ⟨kq, x6_5, rfl, HA, HJ5, ⟨mc5, rfl⟩⟩ := hcut
              cases kq with
              | zero => exact absurd HA.out (by simp [spindlelaw1_WordSums.j1])
              | succ kj5 =>
                have H := HA.out
                clear HA
                simp only [spindlelaw1_WordSums.j1] at H
                by_cases c15 : x6_5 = true
                · subst c15
                  have H1 : ((word_And.f ((rd_T26 l0 x3_1).f0) ((rd_T26 l0 x3_1).f1)).bind fun t150 => ((spindleref1_Bits.f kj5 0 ((rd_T26 l0 x3_1).f0) ((rd_T26 l0 x3_1).f1)).bind fun t151 => (if t150 = t151 then ((word_Or.f ((rd_T26 l0 x3_1).f0) ((rd_T26 l0 x3_1).f1)).bind fun t152 => ((spindleref1_Bits.f kj5 1 ((rd_T26 l0 x3_1).f0) ((rd_T26 l0 x3_1).f1)).bind fun t153 => (if t152 = t153 then ((word_Xor.f ((rd_T26 l0 x3_1).f0) ((rd_T26 l0 x3_1).f1)).bind fun t154 => ((spindleref1_Bits.f kj5 2 ((rd_T26 l0 x3_1).f0) ((rd_T26 l0 x3_1).f1)).bind fun t155 => (if t154 = t155 then (spindlelaw1_WordSums.l0 kj5 l0 (wrap64 (x3_1 + 1))) else (some false)))) else (some false)))) else (some false)))) = some r := by rw [if_pos rfl] at H; exact H
                  clear H
                  have H := H1
                  clear H1
                  replace H := Option.bind_eq_some_iff.mp H
                  obtain ⟨t150, A160, H⟩ := H
                  replace H : ((spindleref1_Bits.f kj5 0 ((rd_T26 l0 x3_1).f0) ((rd_T26 l0 x3_1).f1)).bind fun t151 => (if t150 = t151 then ((word_Or.f ((rd_T26 l0 x3_1).f0) ((rd_T26 l0 x3_1).f1)).bind fun t152 => ((spindleref1_Bits.f kj5 1 ((rd_T26 l0 x3_1).f0) ((rd_T26 l0 x3_1).f1)).bind fun t153 => (if t152 = t153 then ((word_Xor.f ((rd_T26 l0 x3_1).f0) ((rd_T26 l0 x3_1).f1)).bind fun t154 => ((spindleref1_Bits.f kj5 2 ((rd_T26 l0 x3_1).f0) ((rd_T26 l0 x3_1).f1)).bind fun t155 => (if t154 = t155 then (spindlelaw1_WordSums.l0 kj5 l0 (wrap64 (x3_1 + 1))) else (some false)))) else (some false)))) else (some false))) = some r := H
                  have A16 := Aside0.mk A160
                  clear A160
                  replace H := Option.bind_eq_some_iff.mp H
                  obtain ⟨t151, A170, H⟩ := H
                  replace H : (if t150 = t151 then ((word_Or.f ((rd_T26 l0 x3_1).f0) ((rd_T26 l0 x3_1).f1)).bind fun t152 => ((spindleref1_Bits.f kj5 1 ((rd_T26 l0 x3_1).f0) ((rd_T26 l0 x3_1).f1)).bind fun t153 => (if t152 = t153 then ((word_Xor.f ((rd_T26 l0 x3_1).f0) ((rd_T26 l0 x3_1).f1)).bind fun t154 => ((spindleref1_Bits.f kj5 2 ((rd_T26 l0 x3_1).f0) ((rd_T26 l0 x3_1).f1)).bind fun t155 => (if t154 = t155 then (spindlelaw1_WordSums.l0 kj5 l0 (wrap64 (x3_1 + 1))) else (some false)))) else (some false)))) else (some false)) = some r := H
                  have A17 := Aside0.mk A170
                  clear A170
                  by_cases c18 : t150 = t151
                  · rw [if_pos c18] at H
                    have c18b0 : (t150 == t151) = true := beq_iff_eq.mpr c18
                    have c18b1 : (t150 != t151) = false := bne_eq_false_iff_eq.mpr c18
                    clear c18
                    replace H := Option.bind_eq_some_iff.mp H
                    obtain ⟨t152, A190, H⟩ := H
                    replace H : ((spindleref1_Bits.f kj5 1 ((rd_T26 l0 x3_1).f0) ((rd_T26 l0 x3_1).f1)).bind fun t153 => (if t152 = t153 then ((word_Xor.f ((rd_T26 l0 x3_1).f0) ((rd_T26 l0 x3_1).f1)).bind fun t154 => ((spindleref1_Bits.f kj5 2 ((rd_T26 l0 x3_1).f0) ((rd_T26 l0 x3_1).f1)).bind fun t155 => (if t154 = t155 then (spindlelaw1_WordSums.l0 kj5 l0 (wrap64 (x3_1 + 1))) else (some false)))) else (some false))) = some r := H
                    have A19 := Aside0.mk A190
                    clear A190
                    replace H := Option.bind_eq_some_iff.mp H
                    obtain ⟨t153, A200, H⟩ := H
                    replace H : (if t152 = t153 then ((word_Xor.f ((rd_T26 l0 x3_1).f0) ((rd_T26 l0 x3_1).f1)).bind fun t154 => ((spindleref1_Bits.f kj5 2 ((rd_T26 l0 x3_1).f0) ((rd_T26 l0 x3_1).f1)).bind fun t155 => (if t154 = t155 then (spindlelaw1_WordSums.l0 kj5 l0 (wrap64 (x3_1 + 1))) else (some false)))) else (some false)) = some r := H
                    have A20 := Aside0.mk A200
                    clear A200
                    by_cases c21 : t152 = t153
                    · rw [if_pos c21] at H
                      have c21b0 : (t152 == t153) = true := beq_iff_eq.mpr c21
                      have c21b1 : (t152 != t153) = false := bne_eq_false_iff_eq.mpr c21
                      clear c21
                      replace H := Option.bind_eq_some_iff.mp H
                      obtain ⟨t154, A220, H⟩ := H
                      replace H : ((spindleref1_Bits.f kj5 2 ((rd_T26 l0 x3_1).f0) ((rd_T26 l0 x3_1).f1)).bind fun t155 => (if t154 = t155 then (spindlelaw1_WordSums.l0 kj5 l0 (wrap64 (x3_1 + 1))) else (some false))) = some r := H
                      have A22 := Aside0.mk A220
                      clear A220
                      replace H := Option.bind_eq_some_iff.mp H
                      obtain ⟨t155, A230, H⟩ := H
                      replace H : (if t154 = t155 then (spindlelaw1_WordSums.l0 kj5 l0 (wrap64 (x3_1 + 1))) else (some false)) = some r := H
                      have A23 := Aside0.mk A230
                      clear A230
                      by_cases c24 : t154 = t155
                      · rw [if_pos c24] at H
                        have c24b0 : (t154 == t155) = true := beq_iff_eq.mpr c24
                        have c24b1 : (t154 != t155) = false := bne_eq_false_iff_eq.mpr c24
                        clear c24
                        have H' := Aside0.mk H
                        clear H
                        go_wp2_with (first | (go_at_call 17; (with_reducible refine (word_And.calls ((rd_T26 l0 x3_1).f0) ((rd_T26 l0 x3_1).f1) t150 _ A16.out).mono ?_); rintro e w' ⟨rfl, ⟨nd, rfl⟩⟩) | (go_at_call 18; (with_reducible refine (spindleref1_Bits.calls kj5 0 ((rd_T26 l0 x3_1).f0) ((rd_T26 l0 x3_1).f1) t151 _ A17.out).mono ?_); rintro e w' ⟨rfl, ⟨nd, rfl⟩⟩) | (go_at_call 19; (with_reducible refine (word_Or.calls ((rd_T26 l0 x3_1).f0) ((rd_T26 l0 x3_1).f1) t152 _ A19.out).mono ?_); rintro e w' ⟨rfl, ⟨nd, rfl⟩⟩) | (go_at_call 18; (with_reducible refine (spindleref1_Bits.calls kj5 1 ((rd_T26 l0 x3_1).f0) ((rd_T26 l0 x3_1).f1) t153 _ A20.out).mono ?_); rintro e w' ⟨rfl, ⟨nd, rfl⟩⟩) | (go_at_call 20; (with_reducible refine (word_Xor.calls ((rd_T26 l0 x3_1).f0) ((rd_T26 l0 x3_1).f1) t154 _ A22.out).mono ?_); rintro e w' ⟨rfl, ⟨nd, rfl⟩⟩) | (go_at_call 18; (with_reducible refine (spindleref1_Bits.calls kj5 2 ((rd_T26 l0 x3_1).f0) ((rd_T26 l0 x3_1).f1) t155 _ A23.out).mono ?_); rintro e w' ⟨rfl, ⟨nd, rfl⟩⟩))
                        go_roundg kj5
                        case measure => have := HK1.out; have := HJ5.out; omega
                        case rel => exact ⟨(wrap64 (x3_1 + 1)), (by first | rfl | (simp; done) | (simp [*]; done)), H', ⟨by have := HK1.out; have := HJ5.out; omega⟩, by repeat (first | exact Drawn0.refl _ | apply Drawn0.step)⟩
                      · rw [if_neg c24] at H
                        have c24b0 : (t154 == t155) = false := beq_eq_false_iff_ne.mpr c24
                        have c24b1 : (t154 != t155) = true := bne_iff_ne.mpr c24
                        obtain rfl := Option.some.inj H
                        go_wp2_with (first | (go_at_call 17; (with_reducible refine (word_And.calls ((rd_T26 l0 x3_1).f0) ((rd_T26 l0 x3_1).f1) t150 _ A16.out).mono ?_); rintro e w' ⟨rfl, ⟨nd, rfl⟩⟩) | (go_at_call 18; (with_reducible refine (spindleref1_Bits.calls kj5 0 ((rd_T26 l0 x3_1).f0) ((rd_T26 l0 x3_1).f1) t151 _ A17.out).mono ?_); rintro e w' ⟨rfl, ⟨nd, rfl⟩⟩) | (go_at_call 19; (with_reducible refine (word_Or.calls ((rd_T26 l0 x3_1).f0) ((rd_T26 l0 x3_1).f1) t152 _ A19.out).mono ?_); rintro e w' ⟨rfl, ⟨nd, rfl⟩⟩) | (go_at_call 18; (with_reducible refine (spindleref1_Bits.calls kj5 1 ((rd_T26 l0 x3_1).f0) ((rd_T26 l0 x3_1).f1) t153 _ A20.out).mono ?_); rintro e w' ⟨rfl, ⟨nd, rfl⟩⟩) | (go_at_call 20; (with_reducible refine (word_Xor.calls ((rd_T26 l0 x3_1).f0) ((rd_T26 l0 x3_1).f1) t154 _ A22.out).mono ?_); rintro e w' ⟨rfl, ⟨nd, rfl⟩⟩) | (go_at_call 18; (with_reducible refine (spindleref1_Bits.calls kj5 2 ((rd_T26 l0 x3_1).f0) ((rd_T26 l0 x3_1).f1) t155 _ A23.out).mono ?_); rintro e w' ⟨rfl, ⟨nd, rfl⟩⟩))
                        go_ret
                        exact ⟨by first | rfl | (simp; done) | (simp [*]; done), by repeat (first | exact Drawn0.refl _ | apply Drawn0.step)⟩
                    · rw [if_neg c21] at H
                      have c21b0 : (t152 == t153) = false := beq_eq_false_iff_ne.mpr c21
                      have c21b1 : (t152 != t153) = true := bne_iff_ne.mpr c21
                      obtain rfl := Option.some.inj H
                      go_wp2_with (first | (go_at_call 17; (with_reducible refine (word_And.calls ((rd_T26 l0 x3_1).f0) ((rd_T26 l0 x3_1).f1) t150 _ A16.out).mono ?_); rintro e w' ⟨rfl, ⟨nd, rfl⟩⟩) | (go_at_call 18; (with_reducible refine (spindleref1_Bits.calls kj5 0 ((rd_T26 l0 x3_1).f0) ((rd_T26 l0 x3_1).f1) t151 _ A17.out).mono ?_); rintro e w' ⟨rfl, ⟨nd, rfl⟩⟩) | (go_at_call 19; (with_reducible refine (word_Or.calls ((rd_T26 l0 x3_1).f0) ((rd_T26 l0 x3_1).f1) t152 _ A19.out).mono ?_); rintro e w' ⟨rfl, ⟨nd, rfl⟩⟩) | (go_at_call 18; (with_reducible refine (spindleref1_Bits.calls kj5 1 ((rd_T26 l0 x3_1).f0) ((rd_T26 l0 x3_1).f1) t153 _ A20.out).mono ?_); rintro e w' ⟨rfl, ⟨nd, rfl⟩⟩))
                      go_ret
                      exact ⟨by first | rfl | (simp; done) | (simp [*]; done), by repeat (first | exact Drawn0.refl _ | apply Drawn0.step)⟩
                  · rw [if_neg c18] at H
                    have c18b0 : (t150 == t151) = false := beq_eq_false_iff_ne.mpr c18
                    have c18b1 : (t150 != t151) = true := bne_iff_ne.mpr c18
                    obtain rfl := Option.some.inj H
                    go_wp2_with (first | (go_at_call 17; (with_reducible refine (word_And.calls ((rd_T26 l0 x3_1).f0) ((rd_T26 l0 x3_1).f1) t150 _ A16.out).mono ?_); rintro e w' ⟨rfl, ⟨nd, rfl⟩⟩) | (go_at_call 18; (with_reducible refine (spindleref1_Bits.calls kj5 0 ((rd_T26 l0 x3_1).f0) ((rd_T26 l0 x3_1).f1) t151 _ A17.out).mono ?_); rintro e w' ⟨rfl, ⟨nd, rfl⟩⟩))
                    go_ret
                    exact ⟨by first | rfl | (simp; done) | (simp [*]; done), by repeat (first | exact Drawn0.refl _ | apply Drawn0.step)⟩
                · replace c15 := Bool.eq_false_iff.mpr c15
                  subst c15
                  have H1 : (some false) = some r := by rw [if_neg (show ¬ (false = true) by decide)] at H; exact H
                  clear H
                  have H := H1
                  clear H1
                  obtain rfl := Option.some.inj H
                  go_wp2
                  go_ret
                  exact ⟨by first | rfl | (simp; done) | (simp [*]; done), by repeat (first | exact Drawn0.refl _ | apply Drawn0.step)⟩
          · rw [if_neg c5] at H
            exact absurd H (by simp)
        · rw [if_neg c4] at H
          have c4b0 : decide (x3_1 < (l0.length : Int)) = false := decide_eq_false c4
          clear c4
          obtain rfl := Option.some.inj H
          go_wp2
          go_ret
          exact ⟨by first | rfl | (simp; done) | (simp [*]; done), by repeat (first | exact Drawn0.refl _ | apply Drawn0.step)⟩
  · replace c3 := Bool.eq_false_iff.mpr c3
    subst c3
    have H1 : (some false) = some r := by rw [if_neg (show ¬ (false = true) by decide)] at H; exact H
    clear H
    have H := H1
    clear H1
    obtain rfl := Option.some.inj H
    go_enter Try.func3, Try.ntmps3
    go_wp2_with (first | ((with_reducible refine gate_callee (f := 11) rfl ?_); refine goesL_ (some 7) rfl rfl Try.func11 (by kernel_rfl) rfl #[] rfl (by (try simp only [List.map_toArray, List.map_cons, List.map_nil]); first | done | rfl | (simp only [List.length_drop, List.length_take]; rfl)) ?_; (with_reducible refine (spindlelaw1_awake.calls k  false _ A2.out).mono ?_); rintro e w' ⟨rfl, ⟨nd, rfl⟩⟩; refine ⟨_, rfl, ?_⟩))
    go_ret
    exact ⟨by first | rfl | (simp; done) | (simp [*]; done), by repeat (first | exact Drawn0.refl _ | apply Drawn0.step)⟩

/-! ### spindleref1_Wide: function 45 -/
def spindleref1_Wide.f (a0 : Int) : Option (Int) := if a0 = 8 then (some a0) else (if a0 = 16 then (some a0) else (if a0 = 32 then (some a0) else (some 64)))
set_option maxHeartbeats 8000000 in
set_option maxRecDepth 100000 in
theorem spindleref1_Wide.calls (a0 : Int) (r : Int) (w : World) (h : spindleref1_Wide.f a0 = some r) :
    Calls Try.prog 45 #[.int .i64 a0] w fun e w' => e = .returned (.int .i64 r) ∧ Drawn0 w w' := by
  have H : (if a0 = 8 then (some a0) else (if a0 = 16 then (some a0) else (if a0 = 32 then (some a0) else (some 64)))) = some r := h
  clear h
  by_cases c2 : a0 = 8
  · rw [if_pos c2] at H
    have c2b0 : (a0 == 8) = true := beq_iff_eq.mpr c2
    have c2b1 : (a0 != 8) = false := bne_eq_false_iff_eq.mpr c2
    clear c2
    obtain rfl := Option.some.inj H
    go_enter Try.func45, Try.ntmps45
    go_wp2
    go_ret
    exact ⟨by first | rfl | (simp; done) | (simp [*]; done), by repeat (first | exact Drawn0.refl _ | apply Drawn0.step)⟩
  · rw [if_neg c2] at H
    have c2b0 : (a0 == 8) = false := beq_eq_false_iff_ne.mpr c2
    have c2b1 : (a0 != 8) = true := bne_iff_ne.mpr c2
    by_cases c3 : a0 = 16
    · rw [if_pos c3] at H
      have c3b0 : (a0 == 16) = true := beq_iff_eq.mpr c3
      have c3b1 : (a0 != 16) = false := bne_eq_false_iff_eq.mpr c3
      clear c3
      obtain rfl := Option.some.inj H
      go_enter Try.func45, Try.ntmps45
      go_wp2
      go_ret
      exact ⟨by first | rfl | (simp; done) | (simp [*]; done), by repeat (first | exact Drawn0.refl _ | apply Drawn0.step)⟩
    · rw [if_neg c3] at H
      have c3b0 : (a0 == 16) = false := beq_eq_false_iff_ne.mpr c3
      have c3b1 : (a0 != 16) = true := bne_iff_ne.mpr c3
      by_cases c4 : a0 = 32
      · rw [if_pos c4] at H
        have c4b0 : (a0 == 32) = true := beq_iff_eq.mpr c4
        have c4b1 : (a0 != 32) = false := bne_eq_false_iff_eq.mpr c4
        clear c4
        obtain rfl := Option.some.inj H
        go_enter Try.func45, Try.ntmps45
        go_wp2
        go_ret
        exact ⟨by first | rfl | (simp; done) | (simp [*]; done), by repeat (first | exact Drawn0.refl _ | apply Drawn0.step)⟩
      · rw [if_neg c4] at H
        have c4b0 : (a0 == 32) = false := beq_eq_false_iff_ne.mpr c4
        have c4b1 : (a0 != 32) = true := bne_iff_ne.mpr c4
        obtain rfl := Option.some.inj H
        go_enter Try.func45, Try.ntmps45
        go_wp2
        go_ret
        exact ⟨by first | rfl | (simp; done) | (simp [*]; done), by repeat (first | exact Drawn0.refl _ | apply Drawn0.step)⟩

/-! ### spindleref1_Narrow: function 22 -/
def spindleref1_Narrow.f (k : Nat) (a0 : Int) (a1 : Int) : Option (Int) := (spindleref1_Wide.f a1).bind fun t156 => (if t156 = 64 then (some a0) else ((spindleref1_power.f k t156).bind fun t157 => (if t157 = 0 then (none) else (some (IntKind.u64.wrap (a0 - (IntKind.u64.wrap ((IntKind.u64.wrap (Int.tdiv a0 t157)) * t157))))))))
theorem spindleref1_Narrow.mono : ∀ a0 a1 k, LeO (spindleref1_Narrow.f k a0 a1) (spindleref1_Narrow.f (k + 1) a0 a1) := by
  intro a0 a1 k
  unfold spindleref1_Narrow.f
  repeat' first
      | (with_reducible exact spindleref1_power.mono _ _)
      | (with_reducible exact LeO.refl _)
      | (with_reducible exact LeO.none _)
      | (with_reducible refine LeO.ite ?_ ?_)
      | (with_reducible refine LeO.bind ?_ (fun _ => ?_))
      | exact spindleref1_power.mono _ _
      | exact LeO.none _
      | refine LeO.ite ?_ ?_
      | refine LeO.bind ?_ (fun _ => ?_)
set_option maxHeartbeats 8000000 in
set_option maxRecDepth 100000 in
theorem spindleref1_Narrow.calls (k : Nat) (a0 : Int) (a1 : Int) (r : Int) (w : World) (h : spindleref1_Narrow.f k a0 a1 = some r) :
    Calls Try.prog 22 #[.int .u64 a0, .int .i64 a1] w fun e w' => e = .returned (.int .u64 r) ∧ Drawn0 w w' := by
  have H : ((spindleref1_Wide.f a1).bind fun t156 => (if t156 = 64 then (some a0) else ((spindleref1_power.f k t156).bind fun t157 => (if t157 = 0 then (none) else (some (IntKind.u64.wrap (a0 - (IntKind.u64.wrap ((IntKind.u64.wrap (Int.tdiv a0 t157)) * t157))))))))) = some r := h
  clear h
  replace H := Option.bind_eq_some_iff.mp H
  obtain ⟨t156, A30, H⟩ := H
  replace H : (if t156 = 64 then (some a0) else ((spindleref1_power.f k t156).bind fun t157 => (if t157 = 0 then (none) else (some (IntKind.u64.wrap (a0 - (IntKind.u64.wrap ((IntKind.u64.wrap (Int.tdiv a0 t157)) * t157)))))))) = some r := H
  have A3 := Aside0.mk A30
  clear A30
  by_cases c4 : t156 = 64
  · rw [if_pos c4] at H
    have c4b0 : (t156 == 64) = true := beq_iff_eq.mpr c4
    have c4b1 : (t156 != 64) = false := bne_eq_false_iff_eq.mpr c4
    clear c4
    obtain rfl := Option.some.inj H
    go_enter Try.func22, Try.ntmps22
    go_wp2_with (first | (go_at_call 45; (with_reducible refine (spindleref1_Wide.calls a1 t156 _ A3.out).mono ?_); rintro e w' ⟨rfl, ⟨nd, rfl⟩⟩; (try first | exact ⟨rfl, _, World.drewN_drewN _ _ _⟩ | exact ⟨rfl, _, Eq.trans (World.drewN_drewN _ _ _) (congrArg (World.drewN _) (Nat.add_assoc _ _ _))⟩)))
    repeat (go_quiet (first | (go_at_call 45; (with_reducible refine (spindleref1_Wide.calls a1 t156 _ A3.out).mono ?_); rintro e w' ⟨rfl, ⟨nd, rfl⟩⟩; (try first | exact ⟨rfl, _, World.drewN_drewN _ _ _⟩ | exact ⟨rfl, _, Eq.trans (World.drewN_drewN _ _ _) (congrArg (World.drewN _) (Nat.add_assoc _ _ _))⟩))); try go_wp2_with (first | (go_at_call 45; (with_reducible refine (spindleref1_Wide.calls a1 t156 _ A3.out).mono ?_); rintro e w' ⟨rfl, ⟨nd, rfl⟩⟩; (try first | exact ⟨rfl, _, World.drewN_drewN _ _ _⟩ | exact ⟨rfl, _, Eq.trans (World.drewN_drewN _ _ _) (congrArg (World.drewN _) (Nat.add_assoc _ _ _))⟩))))
    go_ret
    exact ⟨by first | rfl | (simp; done) | (simp [*]; done), by repeat (first | exact Drawn0.refl _ | apply Drawn0.step)⟩
  · rw [if_neg c4] at H
    have c4b0 : (t156 == 64) = false := beq_eq_false_iff_ne.mpr c4
    have c4b1 : (t156 != 64) = true := bne_iff_ne.mpr c4
    replace H := Option.bind_eq_some_iff.mp H
    obtain ⟨t157, A50, H⟩ := H
    replace H : (if t157 = 0 then (none) else (some (IntKind.u64.wrap (a0 - (IntKind.u64.wrap ((IntKind.u64.wrap (Int.tdiv a0 t157)) * t157)))))) = some r := H
    have A5 := Aside0.mk A50
    clear A50
    by_cases c6 : t157 = 0
    · rw [if_pos c6] at H
      exact absurd H (by simp)
    · rw [if_neg c6] at H
      have c6b0 : (t157 == 0) = false := beq_eq_false_iff_ne.mpr c6
      have c6b1 : (t157 != 0) = true := bne_iff_ne.mpr c6
      obtain rfl := Option.some.inj H
      go_enter Try.func22, Try.ntmps22
      go_wp2_with (first | (go_at_call 45; (with_reducible refine (spindleref1_Wide.calls a1 t156 _ A3.out).mono ?_); rintro e w' ⟨rfl, ⟨nd, rfl⟩⟩; (try first | exact ⟨rfl, _, World.drewN_drewN _ _ _⟩ | exact ⟨rfl, _, Eq.trans (World.drewN_drewN _ _ _) (congrArg (World.drewN _) (Nat.add_assoc _ _ _))⟩)) | (go_at_call 46; (with_reducible refine (spindleref1_power.calls k t156 t157 _ A5.out).mono ?_); rintro e w' ⟨rfl, ⟨nd, rfl⟩⟩; (try first | exact ⟨rfl, _, World.drewN_drewN _ _ _⟩ | exact ⟨rfl, _, Eq.trans (World.drewN_drewN _ _ _) (congrArg (World.drewN _) (Nat.add_assoc _ _ _))⟩)) | (go_at_call 46; (with_reducible refine (spindleref1_power.calls k t156 t157 _ A5.out).mono ?_); rintro e w' ⟨rfl, ⟨nd, rfl⟩⟩; (try first | exact ⟨rfl, _, World.drewN_drewN _ _ _⟩ | exact ⟨rfl, _, Eq.trans (World.drewN_drewN _ _ _) (congrArg (World.drewN _) (Nat.add_assoc _ _ _))⟩)))
      repeat (go_quiet (first | (go_at_call 45; (with_reducible refine (spindleref1_Wide.calls a1 t156 _ A3.out).mono ?_); rintro e w' ⟨rfl, ⟨nd, rfl⟩⟩; (try first | exact ⟨rfl, _, World.drewN_drewN _ _ _⟩ | exact ⟨rfl, _, Eq.trans (World.drewN_drewN _ _ _) (congrArg (World.drewN _) (Nat.add_assoc _ _ _))⟩)) | (go_at_call 46; (with_reducible refine (spindleref1_power.calls k t156 t157 _ A5.out).mono ?_); rintro e w' ⟨rfl, ⟨nd, rfl⟩⟩; (try first | exact ⟨rfl, _, World.drewN_drewN _ _ _⟩ | exact ⟨rfl, _, Eq.trans (World.drewN_drewN _ _ _) (congrArg (World.drewN _) (Nat.add_assoc _ _ _))⟩)) | (go_at_call 46; (with_reducible refine (spindleref1_power.calls k t156 t157 _ A5.out).mono ?_); rintro e w' ⟨rfl, ⟨nd, rfl⟩⟩; (try first | exact ⟨rfl, _, World.drewN_drewN _ _ _⟩ | exact ⟨rfl, _, Eq.trans (World.drewN_drewN _ _ _) (congrArg (World.drewN _) (Nat.add_assoc _ _ _))⟩))); try go_wp2_with (first | (go_at_call 45; (with_reducible refine (spindleref1_Wide.calls a1 t156 _ A3.out).mono ?_); rintro e w' ⟨rfl, ⟨nd, rfl⟩⟩; (try first | exact ⟨rfl, _, World.drewN_drewN _ _ _⟩ | exact ⟨rfl, _, Eq.trans (World.drewN_drewN _ _ _) (congrArg (World.drewN _) (Nat.add_assoc _ _ _))⟩)) | (go_at_call 46; (with_reducible refine (spindleref1_power.calls k t156 t157 _ A5.out).mono ?_); rintro e w' ⟨rfl, ⟨nd, rfl⟩⟩; (try first | exact ⟨rfl, _, World.drewN_drewN _ _ _⟩ | exact ⟨rfl, _, Eq.trans (World.drewN_drewN _ _ _) (congrArg (World.drewN _) (Nat.add_assoc _ _ _))⟩)) | (go_at_call 46; (with_reducible refine (spindleref1_power.calls k t156 t157 _ A5.out).mono ?_); rintro e w' ⟨rfl, ⟨nd, rfl⟩⟩; (try first | exact ⟨rfl, _, World.drewN_drewN _ _ _⟩ | exact ⟨rfl, _, Eq.trans (World.drewN_drewN _ _ _) (congrArg (World.drewN _) (Nat.add_assoc _ _ _))⟩))))
      go_ret
      exact ⟨by first | rfl | (simp; done) | (simp [*]; done), by repeat (first | exact Drawn0.refl _ | apply Drawn0.step)⟩

/-! ### spindleref1_minus: function 52 -/
def spindleref1_minus.f (k : Nat) (a0 : Int) (a1 : Int) : Option (Bool) := (spindleref1_power.f k (wrap64 (a1 - 1))).bind fun t158 => (some (decide (a0 ≥ t158)))
theorem spindleref1_minus.mono : ∀ a0 a1 k, LeO (spindleref1_minus.f k a0 a1) (spindleref1_minus.f (k + 1) a0 a1) := by
  intro a0 a1 k
  unfold spindleref1_minus.f
  repeat' first
      | (with_reducible exact spindleref1_power.mono _ _)
      | (with_reducible exact LeO.refl _)
      | (with_reducible exact LeO.none _)
      | (with_reducible refine LeO.ite ?_ ?_)
      | (with_reducible refine LeO.bind ?_ (fun _ => ?_))
      | exact spindleref1_power.mono _ _
      | exact LeO.none _
      | refine LeO.ite ?_ ?_
      | refine LeO.bind ?_ (fun _ => ?_)
set_option maxHeartbeats 8000000 in
set_option maxRecDepth 100000 in
theorem spindleref1_minus.calls (k : Nat) (a0 : Int) (a1 : Int) (r : Bool) (w : World) (h : spindleref1_minus.f k a0 a1 = some r) :
    Calls Try.prog 52 #[.int .u64 a0, .int .i64 a1] w fun e w' => e = .returned (.bool r) ∧ Drawn0 w w' := by
  have H : ((spindleref1_power.f k (wrap64 (a1 - 1))).bind fun t158 => (some (decide (a0 ≥ t158)))) = some r := h
  clear h
  replace H := Option.bind_eq_some_iff.mp H
  obtain ⟨t158, A30, H⟩ := H
  replace H : (some (decide (a0 ≥ t158))) = some r := H
  have A3 := Aside0.mk A30
  clear A30
  obtain rfl := Option.some.inj H
  go_enter Try.func52, Try.ntmps52
  go_wp2_with (first | ((with_reducible refine gate_callee (f := 46) rfl ?_); refine goesL_ (some 8) rfl rfl Try.func46 (by kernel_rfl) rfl #[.int .i64 (wrap64 (a1 - 1))] rfl (by (try simp only [List.map_toArray, List.map_cons, List.map_nil]); first | done | rfl | (simp only [List.length_drop, List.length_take]; rfl)) ?_; (with_reducible refine (spindleref1_power.calls k (wrap64 (a1 - 1)) t158 _ A3.out).mono ?_); rintro e w' ⟨rfl, ⟨nd, rfl⟩⟩; refine ⟨_, rfl, ?_⟩))
  go_ret
  exact ⟨by first | rfl | (simp; done) | (simp [*]; done), by repeat (first | exact Drawn0.refl _ | apply Drawn0.step)⟩

/-! ### spindleref1_Sign: function 24 -/
def spindleref1_Sign.f (k : Nat) (a0 : Int) (a1 : Int) : Option (Int) := (spindleref1_Wide.f a1).bind fun t159 => ((spindleref1_Narrow.f k a0 t159).bind fun t160 => (if t159 < 64 then ((spindleref1_minus.f k t160 t159).bind fun t161 => (if t161 = true then ((spindleref1_power.f k t159).bind fun t162 => (some (IntKind.u64.wrap (t160 - t162)))) else (some t160))) else (some t160)))
theorem spindleref1_Sign.mono : ∀ a0 a1 k, LeO (spindleref1_Sign.f k a0 a1) (spindleref1_Sign.f (k + 1) a0 a1) := by
  intro a0 a1 k
  unfold spindleref1_Sign.f
  repeat' first
      | (with_reducible exact spindleref1_Narrow.mono _ _ _)
      | (with_reducible exact spindleref1_minus.mono _ _ _)
      | (with_reducible exact spindleref1_power.mono _ _)
      | (with_reducible exact LeO.refl _)
      | (with_reducible exact LeO.none _)
      | (with_reducible refine LeO.ite ?_ ?_)
      | (with_reducible refine LeO.bind ?_ (fun _ => ?_))
      | exact spindleref1_Narrow.mono _ _ _
      | exact spindleref1_minus.mono _ _ _
      | exact spindleref1_power.mono _ _
      | exact LeO.none _
      | refine LeO.ite ?_ ?_
      | refine LeO.bind ?_ (fun _ => ?_)
set_option maxHeartbeats 8000000 in
set_option maxRecDepth 100000 in
theorem spindleref1_Sign.calls (k : Nat) (a0 : Int) (a1 : Int) (r : Int) (w : World) (h : spindleref1_Sign.f k a0 a1 = some r) :
    Calls Try.prog 24 #[.int .u64 a0, .int .i64 a1] w fun e w' => e = .returned (.int .u64 r) ∧ Drawn0 w w' := by
  have H : ((spindleref1_Wide.f a1).bind fun t159 => ((spindleref1_Narrow.f k a0 t159).bind fun t160 => (if t159 < 64 then ((spindleref1_minus.f k t160 t159).bind fun t161 => (if t161 = true then ((spindleref1_power.f k t159).bind fun t162 => (some (IntKind.u64.wrap (t160 - t162)))) else (some t160))) else (some t160)))) = some r := h
  clear h
  replace H := Option.bind_eq_some_iff.mp H
  obtain ⟨t159, A30, H⟩ := H
  replace H : ((spindleref1_Narrow.f k a0 t159).bind fun t160 => (if t159 < 64 then ((spindleref1_minus.f k t160 t159).bind fun t161 => (if t161 = true then ((spindleref1_power.f k t159).bind fun t162 => (some (IntKind.u64.wrap (t160 - t162)))) else (some t160))) else (some t160))) = some r := H
  have A3 := Aside0.mk A30
  clear A30
  replace H := Option.bind_eq_some_iff.mp H
  obtain ⟨t160, A40, H⟩ := H
  replace H : (if t159 < 64 then ((spindleref1_minus.f k t160 t159).bind fun t161 => (if t161 = true then ((spindleref1_power.f k t159).bind fun t162 => (some (IntKind.u64.wrap (t160 - t162)))) else (some t160))) else (some t160)) = some r := H
  have A4 := Aside0.mk A40
  clear A40
  by_cases c5 : t159 < 64
  · rw [if_pos c5] at H
    have c5b0 : decide (t159 < 64) = true := decide_eq_true c5
    clear c5
    replace H := Option.bind_eq_some_iff.mp H
    obtain ⟨t161, A60, H⟩ := H
    replace H : (if t161 = true then ((spindleref1_power.f k t159).bind fun t162 => (some (IntKind.u64.wrap (t160 - t162)))) else (some t160)) = some r := H
    have A6 := Aside0.mk A60
    clear A60
    by_cases c7 : t161 = true
    · subst c7
      have H1 : ((spindleref1_power.f k t159).bind fun t162 => (some (IntKind.u64.wrap (t160 - t162)))) = some r := by rw [if_pos rfl] at H; exact H
      clear H
      have H := H1
      clear H1
      replace H := Option.bind_eq_some_iff.mp H
      obtain ⟨t162, A80, H⟩ := H
      replace H : (some (IntKind.u64.wrap (t160 - t162))) = some r := H
      have A8 := Aside0.mk A80
      clear A80
      obtain rfl := Option.some.inj H
      go_enter Try.func24, Try.ntmps24
      go_wp2_with (first | ((with_reducible refine gate_callee (f := 45) rfl ?_); refine goesL_ (some 8) rfl rfl Try.func45 (by kernel_rfl) rfl #[.int .i64 a1] rfl (by (try simp only [List.map_toArray, List.map_cons, List.map_nil]); first | done | rfl | (simp only [List.length_drop, List.length_take]; rfl)) ?_; (with_reducible refine (spindleref1_Wide.calls a1 t159 _ A3.out).mono ?_); rintro e w' ⟨rfl, ⟨nd, rfl⟩⟩; refine ⟨_, rfl, ?_⟩) | ((with_reducible refine gate_callee (f := 22) rfl ?_); refine goesL_ (some 11) rfl rfl Try.func22 (by kernel_rfl) rfl #[.int .u64 a0, .int .i64 t159] rfl (by (try simp only [List.map_toArray, List.map_cons, List.map_nil]); first | done | rfl | (simp only [List.length_drop, List.length_take]; rfl)) ?_; (with_reducible refine (spindleref1_Narrow.calls k a0 t159 t160 _ A4.out).mono ?_); rintro e w' ⟨rfl, ⟨nd, rfl⟩⟩; refine ⟨_, rfl, ?_⟩) | (go_at_call 52; (with_reducible refine (spindleref1_minus.calls k t160 t159 true _ A6.out).mono ?_); rintro e w' ⟨rfl, ⟨nd, rfl⟩⟩) | ((with_reducible refine gate_callee (f := 46) rfl ?_); refine goesL_ (some 21) rfl rfl Try.func46 (by kernel_rfl) rfl #[.int .i64 t159] rfl (by (try simp only [List.map_toArray, List.map_cons, List.map_nil]); first | done | rfl | (simp only [List.length_drop, List.length_take]; rfl)) ?_; (with_reducible refine (spindleref1_power.calls k t159 t162 _ A8.out).mono ?_); rintro e w' ⟨rfl, ⟨nd, rfl⟩⟩; refine ⟨_, rfl, ?_⟩))
      go_ret
      exact ⟨by first | rfl | (simp; done) | (simp [*]; done), by repeat (first | exact Drawn0.refl _ | apply Drawn0.step)⟩
    · replace c7 := Bool.eq_false_iff.mpr c7
      subst c7
      have H1 : (some t160) = some r := by rw [if_neg (show ¬ (false = true) by decide)] at H; exact H
      clear H
      have H := H1
      clear H1
      obtain rfl := Option.some.inj H
      go_enter Try.func24, Try.ntmps24
      go_wp2_with (first | ((with_reducible refine gate_callee (f := 45) rfl ?_); refine goesL_ (some 8) rfl rfl Try.func45 (by kernel_rfl) rfl #[.int .i64 a1] rfl (by (try simp only [List.map_toArray, List.map_cons, List.map_nil]); first | done | rfl | (simp only [List.length_drop, List.length_take]; rfl)) ?_; (with_reducible refine (spindleref1_Wide.calls a1 t159 _ A3.out).mono ?_); rintro e w' ⟨rfl, ⟨nd, rfl⟩⟩; refine ⟨_, rfl, ?_⟩) | ((with_reducible refine gate_callee (f := 22) rfl ?_); refine goesL_ (some 11) rfl rfl Try.func22 (by kernel_rfl) rfl #[.int .u64 a0, .int .i64 t159] rfl (by (try simp only [List.map_toArray, List.map_cons, List.map_nil]); first | done | rfl | (simp only [List.length_drop, List.length_take]; rfl)) ?_; (with_reducible refine (spindleref1_Narrow.calls k a0 t159 t160 _ A4.out).mono ?_); rintro e w' ⟨rfl, ⟨nd, rfl⟩⟩; refine ⟨_, rfl, ?_⟩) | (go_at_call 52; (with_reducible refine (spindleref1_minus.calls k t160 t159 false _ A6.out).mono ?_); rintro e w' ⟨rfl, ⟨nd, rfl⟩⟩))
      go_ret
      exact ⟨by first | rfl | (simp; done) | (simp [*]; done), by repeat (first | exact Drawn0.refl _ | apply Drawn0.step)⟩
  · rw [if_neg c5] at H
    have c5b0 : decide (t159 < 64) = false := decide_eq_false c5
    clear c5
    obtain rfl := Option.some.inj H
    go_enter Try.func24, Try.ntmps24
    go_wp2_with (first | ((with_reducible refine gate_callee (f := 45) rfl ?_); refine goesL_ (some 8) rfl rfl Try.func45 (by kernel_rfl) rfl #[.int .i64 a1] rfl (by (try simp only [List.map_toArray, List.map_cons, List.map_nil]); first | done | rfl | (simp only [List.length_drop, List.length_take]; rfl)) ?_; (with_reducible refine (spindleref1_Wide.calls a1 t159 _ A3.out).mono ?_); rintro e w' ⟨rfl, ⟨nd, rfl⟩⟩; refine ⟨_, rfl, ?_⟩) | ((with_reducible refine gate_callee (f := 22) rfl ?_); refine goesL_ (some 11) rfl rfl Try.func22 (by kernel_rfl) rfl #[.int .u64 a0, .int .i64 t159] rfl (by (try simp only [List.map_toArray, List.map_cons, List.map_nil]); first | done | rfl | (simp only [List.length_drop, List.length_take]; rfl)) ?_; (with_reducible refine (spindleref1_Narrow.calls k a0 t159 t160 _ A4.out).mono ?_); rintro e w' ⟨rfl, ⟨nd, rfl⟩⟩; refine ⟨_, rfl, ?_⟩))
    go_ret
    exact ⟨by first | rfl | (simp; done) | (simp [*]; done), by repeat (first | exact Drawn0.refl _ | apply Drawn0.step)⟩

/-! ### spindleref1_Swap: function 26 -/
def spindleref1_Swap.l0 : Nat → Int → Int → Int → Int → Option (Int)
  | 0, _, _, _, _ => none
  | k + 1, x1, x5, x6, x7 => (spindleref1_Wide.f x1).bind fun t164 => (if x7 < t164 then (spindleref1_Swap.l0 k x1 (IntKind.u64.wrap (Int.tdiv x5 256)) (IntKind.u64.wrap ((IntKind.u64.wrap (x6 * 256)) + (Int.tmod x5 256))) (wrap64 (x7 + 8))) else (some x6))
def spindleref1_Swap.f (k : Nat) (a0 : Int) (a1 : Int) : Option (Int) := (spindleref1_Narrow.f k a0 a1).bind fun t163 => (spindleref1_Swap.l0 k a1 t163 0 0)
theorem spindleref1_Swap.mono_l : ∀ k, (∀ y0 y1 y2 y3, LeO (spindleref1_Swap.l0 k y0 y1 y2 y3) (spindleref1_Swap.l0 (k + 1) y0 y1 y2 y3))
  | 0 => fun _ _ _ _ r h => by simp [spindleref1_Swap.l0] at h
  | k + 1 => by
    have ih0 := spindleref1_Swap.mono_l k
    · intro y0 y1 y2 y3
      unfold spindleref1_Swap.l0
      repeat' first
      | (with_reducible exact ih0 _ _ _ _)
      | (with_reducible exact spindleref1_Narrow.mono _ _ _)
      | (with_reducible exact LeO.refl _)
      | (with_reducible exact LeO.none _)
      | (with_reducible refine LeO.ite ?_ ?_)
      | (with_reducible refine LeO.bind ?_ (fun _ => ?_))
      | exact ih0 _ _ _ _
      | exact spindleref1_Narrow.mono _ _ _
      | exact LeO.none _
      | refine LeO.ite ?_ ?_
      | refine LeO.bind ?_ (fun _ => ?_)
theorem spindleref1_Swap.mono : ∀ a0 a1 k, LeO (spindleref1_Swap.f k a0 a1) (spindleref1_Swap.f (k + 1) a0 a1) := by
  intro a0 a1 k
  have ih0 := spindleref1_Swap.mono_l k
  unfold spindleref1_Swap.f
  repeat' first
      | (with_reducible exact ih0 _ _ _ _)
      | (with_reducible exact spindleref1_Narrow.mono _ _ _)
      | (with_reducible exact LeO.refl _)
      | (with_reducible exact LeO.none _)
      | (with_reducible refine LeO.ite ?_ ?_)
      | (with_reducible refine LeO.bind ?_ (fun _ => ?_))
      | exact ih0 _ _ _ _
      | exact spindleref1_Narrow.mono _ _ _
      | exact LeO.none _
      | refine LeO.ite ?_ ?_
      | refine LeO.bind ?_ (fun _ => ?_)
set_option maxHeartbeats 8000000 in
set_option maxRecDepth 100000 in
theorem spindleref1_Swap.calls (k : Nat) (a0 : Int) (a1 : Int) (r : Int) (w : World) (h : spindleref1_Swap.f k a0 a1 = some r) :
    Calls Try.prog 26 #[.int .u64 a0, .int .i64 a1] w fun e w' => e = .returned (.int .u64 r) ∧ Drawn0 w w' := by
  have H : ((spindleref1_Narrow.f k a0 a1).bind fun t163 => (spindleref1_Swap.l0 k a1 t163 0 0)) = some r := h
  clear h
  replace H := Option.bind_eq_some_iff.mp H
  obtain ⟨t163, A30, H⟩ := H
  replace H : (spindleref1_Swap.l0 k a1 t163 0 0) = some r := H
  have A3 := Aside0.mk A30
  clear A30
  have H' := Aside0.mk H
  clear H
  go_enter Try.func26, Try.ntmps26
  go_wp2_with (first | ((with_reducible refine gate_callee (f := 22) rfl ?_); refine goesL_ (some 10) rfl rfl Try.func22 (by kernel_rfl) rfl #[.int .u64 a0, .int .i64 a1] rfl (by (try simp only [List.map_toArray, List.map_cons, List.map_nil]); first | done | rfl | (simp only [List.length_drop, List.length_take]; rfl)) ?_; (with_reducible refine (spindleref1_Narrow.calls k a0 a1 t163 _ A3.out).mono ?_); rintro e w' ⟨rfl, ⟨nd, rfl⟩⟩; refine ⟨_, rfl, ?_⟩))
  go_loopg [5, 6, 7] k (fun kq v5 v6 v7 w' => ∃ (x5_1 : Int) (x6_1 : Int) (x7_1 : Int), v5 = .int .u64 x5_1 ∧ v6 = .int .u64 x6_1 ∧ v7 = .int .i64 x7_1 ∧ Aside0 (spindleref1_Swap.l0 kq a1 x5_1 x6_1 x7_1 = some r) ∧ Aside0 (kq ≤ k) ∧ Drawn0 w w')
  case atStart => exact ⟨(t163), (0), (0), (by first | rfl | (simp; done) | (simp [*]; done)), (by first | rfl | (simp; done) | (simp [*]; done)), (by first | rfl | (simp; done) | (simp [*]; done)), H', ⟨Nat.le_refl _⟩, by repeat (first | exact Drawn0.refl _ | apply Drawn0.step)⟩
  case round =>
    clear H'
    try clear c2
    try clear p2
    obtain ⟨x5_1, x6_1, x7_1, rfl, rfl, rfl, HA, HK1, ⟨m1, rfl⟩⟩ := hrel
    cases gk with
    | zero => exact absurd HA.out (by simp [spindleref1_Swap.l0])
    | succ k1 =>
      have H := HA.out
      clear HA
      simp only [spindleref1_Swap.l0] at H
      replace H := Option.bind_eq_some_iff.mp H
      obtain ⟨t164, A40, H⟩ := H
      replace H : (if x7_1 < t164 then (spindleref1_Swap.l0 k1 a1 (IntKind.u64.wrap (Int.tdiv x5_1 256)) (IntKind.u64.wrap ((IntKind.u64.wrap (x6_1 * 256)) + (Int.tmod x5_1 256))) (wrap64 (x7_1 + 8))) else (some x6_1)) = some r := H
      have A4 := Aside0.mk A40
      clear A40
      by_cases c5 : x7_1 < t164
      · rw [if_pos c5] at H
        have c5b0 : decide (x7_1 < t164) = true := decide_eq_true c5
        clear c5
        have H' := Aside0.mk H
        clear H
        go_wp2_with (first | ((with_reducible refine gate_callee (f := 45) rfl ?_); refine goesL_ (some 13) rfl rfl Try.func45 (by kernel_rfl) rfl #[.int .i64 a1] rfl (by (try simp only [List.map_toArray, List.map_cons, List.map_nil]); first | done | rfl | (simp only [List.length_drop, List.length_take]; rfl)) ?_; (with_reducible refine (spindleref1_Wide.calls a1 t164 _ A4.out).mono ?_); rintro e w' ⟨rfl, ⟨nd, rfl⟩⟩; refine ⟨_, rfl, ?_⟩))
        go_roundg k1
        case measure => have := HK1.out; omega
        case rel => exact ⟨(IntKind.u64.wrap (Int.tdiv x5_1 256)), (IntKind.u64.wrap ((IntKind.u64.wrap (x6_1 * 256)) + (Int.tmod x5_1 256))), (wrap64 (x7_1 + 8)), (by first | rfl | (simp; done) | (simp [*]; done)), (by first | rfl | (simp; done) | (simp [*]; done)), (by first | rfl | (simp; done) | (simp [*]; done)), H', ⟨by have := HK1.out; omega⟩, by repeat (first | exact Drawn0.refl _ | apply Drawn0.step)⟩
      · rw [if_neg c5] at H
        have c5b0 : decide (x7_1 < t164) = false := decide_eq_false c5
        clear c5
        obtain rfl := Option.some.inj H
        go_wp2_with (first | ((with_reducible refine gate_callee (f := 45) rfl ?_); refine goesL_ (some 13) rfl rfl Try.func45 (by kernel_rfl) rfl #[.int .i64 a1] rfl (by (try simp only [List.map_toArray, List.map_cons, List.map_nil]); first | done | rfl | (simp only [List.length_drop, List.length_take]; rfl)) ?_; (with_reducible refine (spindleref1_Wide.calls a1 t164 _ A4.out).mono ?_); rintro e w' ⟨rfl, ⟨nd, rfl⟩⟩; refine ⟨_, rfl, ?_⟩))
        go_ret
        exact ⟨by first | rfl | (simp; done) | (simp [*]; done), by repeat (first | exact Drawn0.refl _ | apply Drawn0.step)⟩

/-! ### spindleref1_Less: function 28 -/
def spindleref1_Less.f (k : Nat) (a0 : Int) (a1 : Int) (a2 : Int) : Option (Bool) := (spindleref1_Narrow.f k a0 a2).bind fun t165 => ((spindleref1_Narrow.f k a1 a2).bind fun t166 => (some (decide (t165 < t166))))
theorem spindleref1_Less.mono : ∀ a0 a1 a2 k, LeO (spindleref1_Less.f k a0 a1 a2) (spindleref1_Less.f (k + 1) a0 a1 a2) := by
  intro a0 a1 a2 k
  unfold spindleref1_Less.f
  repeat' first
      | (with_reducible exact spindleref1_Narrow.mono _ _ _)
      | (with_reducible exact LeO.refl _)
      | (with_reducible exact LeO.none _)
      | (with_reducible refine LeO.ite ?_ ?_)
      | (with_reducible refine LeO.bind ?_ (fun _ => ?_))
      | exact spindleref1_Narrow.mono _ _ _
      | exact LeO.none _
      | refine LeO.ite ?_ ?_
      | refine LeO.bind ?_ (fun _ => ?_)
set_option maxHeartbeats 8000000 in
set_option maxRecDepth 100000 in
theorem spindleref1_Less.calls (k : Nat) (a0 : Int) (a1 : Int) (a2 : Int) (r : Bool) (w : World) (h : spindleref1_Less.f k a0 a1 a2 = some r) :
    Calls Try.prog 28 #[.int .u64 a0, .int .u64 a1, .int .i64 a2] w fun e w' => e = .returned (.bool r) ∧ Drawn0 w w' := by
  have H : ((spindleref1_Narrow.f k a0 a2).bind fun t165 => ((spindleref1_Narrow.f k a1 a2).bind fun t166 => (some (decide (t165 < t166))))) = some r := h
  clear h
  replace H := Option.bind_eq_some_iff.mp H
  obtain ⟨t165, A40, H⟩ := H
  replace H : ((spindleref1_Narrow.f k a1 a2).bind fun t166 => (some (decide (t165 < t166)))) = some r := H
  have A4 := Aside0.mk A40
  clear A40
  replace H := Option.bind_eq_some_iff.mp H
  obtain ⟨t166, A50, H⟩ := H
  replace H : (some (decide (t165 < t166))) = some r := H
  have A5 := Aside0.mk A50
  clear A50
  obtain rfl := Option.some.inj H
  go_enter Try.func28, Try.ntmps28
  go_wp2_with (first | ((with_reducible refine gate_callee (f := 22) rfl ?_); refine goesL_ (some 9) rfl rfl Try.func22 (by kernel_rfl) rfl #[.int .u64 a0, .int .i64 a2] rfl (by (try simp only [List.map_toArray, List.map_cons, List.map_nil]); first | done | rfl | (simp only [List.length_drop, List.length_take]; rfl)) ?_; (with_reducible refine (spindleref1_Narrow.calls k a0 a2 t165 _ A4.out).mono ?_); rintro e w' ⟨rfl, ⟨nd, rfl⟩⟩; refine ⟨_, rfl, ?_⟩) | ((with_reducible refine gate_callee (f := 22) rfl ?_); refine goesL_ (some 12) rfl rfl Try.func22 (by kernel_rfl) rfl #[.int .u64 a1, .int .i64 a2] rfl (by (try simp only [List.map_toArray, List.map_cons, List.map_nil]); first | done | rfl | (simp only [List.length_drop, List.length_take]; rfl)) ?_; (with_reducible refine (spindleref1_Narrow.calls k a1 a2 t166 _ A5.out).mono ?_); rintro e w' ⟨rfl, ⟨nd, rfl⟩⟩; refine ⟨_, rfl, ?_⟩))
  go_ret
  exact ⟨by first | rfl | (simp; done) | (simp [*]; done), by repeat (first | exact Drawn0.refl _ | apply Drawn0.step)⟩

end Go.Proofs.Ytliijfogmendmaa.PW
