-- Printed by this session's own program (wip/tools/myprint.py) over the kit's print; the parts that are marked 'by hand' are this session's.
import Derived.Test.YtliijfogmendmaaPWx0
import Derived.Test.YtliijfogmendmaaPWx1
import Derived.Test.YtliijfogmendmaaPWx2
import Derived.Test.YtliijfogmendmaaPWx3
import Derived.Test.YtliijfogmendmaaPWx4
import Derived.Test.YtliijfogmendmaaPWx5
namespace Go.Proofs.Ytliijfogmendmaa.PW
open Go.RowKit Go.Proofs.YtliijfogmendmaaW.PrintWords Go.Proofs.YtliijfogmendmaaW.PrintLast Go.Proofs.YtliijfogmendmaaW.PrintMore
attribute [local go_sem] max2_int min2_int max_two min_two max_three min_three max_four min_four   -- for this text's walks alone
set_option linter.unusedVariables false
set_option linter.unusedSimpArgs false

/-! ### spindlelaw1_WordSwaps: function 8 -/
def spindlelaw1_WordSwaps.j0 : Nat → Int → Int → Int → Int → Bool → Option (Bool)
  | 0, _, _, _, _, _ => none
  | k + 1, x0, x1, x5, x7, x41 => if x41 = true then (some false) else ((word_Narrow.f x7 x1).bind fun t295 => ((word_Narrow.f x0 x1).bind fun t296 => (if t295 = t296 then ((word_Sar.f x7 (IntKind.u64.wrap (x5 - 1)) 64).bind fun t297 => ((word_Shr.f t296 (IntKind.u64.wrap (x5 - 1)) 64).bind fun t298 => ((word_Neg.f t298).bind fun t299 => (if t297 = t299 then ((word_Sign.f x7 x1).bind fun t300 => (some (t300 == x7))) else (some false))))) else (some false))))
def spindlelaw1_WordSwaps.f (k : Nat) (a0 : Int) (a1 : Int) : Option (Bool) := (spindlelaw1_awake.f k).bind fun t286 => (if t286 = true then ((spindleref1_Wide.f a1).bind fun t287 => ((word_Swap.f k a0 a1).bind fun t288 => ((word_Sign.f a0 a1).bind fun t289 => ((word_Swap.f k t288 a1).bind fun t290 => ((word_Narrow.f a0 a1).bind fun t291 => (if t290 = t291 then ((word_Narrow.f a0 8).bind fun t292 => ((word_Shr.f t288 (IntKind.u64.wrap ((IntKind.u64.wrap (t287)) - 8)) 64).bind fun t293 => (if t292 = t293 then ((word_Narrow.f t288 a1).bind fun t294 => (spindlelaw1_WordSwaps.j0 k a0 a1 (IntKind.u64.wrap (t287)) t289 (t294 != t288))) else (spindlelaw1_WordSwaps.j0 k a0 a1 (IntKind.u64.wrap (t287)) t289 true)))) else (spindlelaw1_WordSwaps.j0 k a0 a1 (IntKind.u64.wrap (t287)) t289 true))))))) else (some false))
theorem spindlelaw1_WordSwaps.mono_l : ∀ k, (∀ y0 y1 y2 y3 y4, LeO (spindlelaw1_WordSwaps.j0 k y0 y1 y2 y3 y4) (spindlelaw1_WordSwaps.j0 (k + 1) y0 y1 y2 y3 y4))
  | 0 => fun _ _ _ _ _ r h => by simp [spindlelaw1_WordSwaps.j0] at h
  | k + 1 => by
    have ih0 := spindlelaw1_WordSwaps.mono_l k
    · intro y0 y1 y2 y3 y4
      unfold spindlelaw1_WordSwaps.j0
      repeat' first
      | (with_reducible exact ih0 _ _ _ _ _)
      | (with_reducible exact spindlelaw1_awake.mono _)
      | (with_reducible exact word_Swap.mono _ _ _)
      | (with_reducible exact LeO.refl _)
      | (with_reducible exact LeO.none _)
      | (with_reducible refine LeO.ite ?_ ?_)
      | (with_reducible refine LeO.bind ?_ (fun _ => ?_))
      | exact ih0 _ _ _ _ _
      | exact spindlelaw1_awake.mono _
      | exact word_Swap.mono _ _ _
      | exact LeO.none _
      | refine LeO.ite ?_ ?_
      | refine LeO.bind ?_ (fun _ => ?_)
theorem spindlelaw1_WordSwaps.mono : ∀ a0 a1 k, LeO (spindlelaw1_WordSwaps.f k a0 a1) (spindlelaw1_WordSwaps.f (k + 1) a0 a1) := by
  intro a0 a1 k
  have ih0 := spindlelaw1_WordSwaps.mono_l k
  unfold spindlelaw1_WordSwaps.f
  repeat' first
      | (with_reducible exact ih0 _ _ _ _ _)
      | (with_reducible exact spindlelaw1_awake.mono _)
      | (with_reducible exact word_Swap.mono _ _ _)
      | (with_reducible exact LeO.refl _)
      | (with_reducible exact LeO.none _)
      | (with_reducible refine LeO.ite ?_ ?_)
      | (with_reducible refine LeO.bind ?_ (fun _ => ?_))
      | exact ih0 _ _ _ _ _
      | exact spindlelaw1_awake.mono _
      | exact word_Swap.mono _ _ _
      | exact LeO.none _
      | refine LeO.ite ?_ ?_
      | refine LeO.bind ?_ (fun _ => ?_)
set_option maxHeartbeats 8000000 in
set_option maxRecDepth 100000 in
theorem spindlelaw1_WordSwaps.calls (k : Nat) (a0 : Int) (a1 : Int) (r : Bool) (w : World) (h : spindlelaw1_WordSwaps.f k a0 a1 = some r) :
    Calls Try.prog 8 #[.int .u64 a0, .int .i64 a1] w fun e w' => e = .returned (.bool r) ∧ Drawn0 w w' := by
  have H : ((spindlelaw1_awake.f k).bind fun t286 => (if t286 = true then ((spindleref1_Wide.f a1).bind fun t287 => ((word_Swap.f k a0 a1).bind fun t288 => ((word_Sign.f a0 a1).bind fun t289 => ((word_Swap.f k t288 a1).bind fun t290 => ((word_Narrow.f a0 a1).bind fun t291 => (if t290 = t291 then ((word_Narrow.f a0 8).bind fun t292 => ((word_Shr.f t288 (IntKind.u64.wrap ((IntKind.u64.wrap (t287)) - 8)) 64).bind fun t293 => (if t292 = t293 then ((word_Narrow.f t288 a1).bind fun t294 => (spindlelaw1_WordSwaps.j0 k a0 a1 (IntKind.u64.wrap (t287)) t289 (t294 != t288))) else (spindlelaw1_WordSwaps.j0 k a0 a1 (IntKind.u64.wrap (t287)) t289 true)))) else (spindlelaw1_WordSwaps.j0 k a0 a1 (IntKind.u64.wrap (t287)) t289 true))))))) else (some false))) = some r := h
  clear h
  replace H := Option.bind_eq_some_iff.mp H
  obtain ⟨t286, A30, H⟩ := H
  replace H : (if t286 = true then ((spindleref1_Wide.f a1).bind fun t287 => ((word_Swap.f k a0 a1).bind fun t288 => ((word_Sign.f a0 a1).bind fun t289 => ((word_Swap.f k t288 a1).bind fun t290 => ((word_Narrow.f a0 a1).bind fun t291 => (if t290 = t291 then ((word_Narrow.f a0 8).bind fun t292 => ((word_Shr.f t288 (IntKind.u64.wrap ((IntKind.u64.wrap (t287)) - 8)) 64).bind fun t293 => (if t292 = t293 then ((word_Narrow.f t288 a1).bind fun t294 => (spindlelaw1_WordSwaps.j0 k a0 a1 (IntKind.u64.wrap (t287)) t289 (t294 != t288))) else (spindlelaw1_WordSwaps.j0 k a0 a1 (IntKind.u64.wrap (t287)) t289 true)))) else (spindlelaw1_WordSwaps.j0 k a0 a1 (IntKind.u64.wrap (t287)) t289 true))))))) else (some false)) = some r := H
  have A3 := Aside0.mk A30
  clear A30
  by_cases c4 : t286 = true
  · subst c4
    have H1 : ((spindleref1_Wide.f a1).bind fun t287 => ((word_Swap.f k a0 a1).bind fun t288 => ((word_Sign.f a0 a1).bind fun t289 => ((word_Swap.f k t288 a1).bind fun t290 => ((word_Narrow.f a0 a1).bind fun t291 => (if t290 = t291 then ((word_Narrow.f a0 8).bind fun t292 => ((word_Shr.f t288 (IntKind.u64.wrap ((IntKind.u64.wrap (t287)) - 8)) 64).bind fun t293 => (if t292 = t293 then ((word_Narrow.f t288 a1).bind fun t294 => (spindlelaw1_WordSwaps.j0 k a0 a1 (IntKind.u64.wrap (t287)) t289 (t294 != t288))) else (spindlelaw1_WordSwaps.j0 k a0 a1 (IntKind.u64.wrap (t287)) t289 true)))) else (spindlelaw1_WordSwaps.j0 k a0 a1 (IntKind.u64.wrap (t287)) t289 true))))))) = some r := by rw [if_pos rfl] at H; exact H
    clear H
    have H := H1
    clear H1
    replace H := Option.bind_eq_some_iff.mp H
    obtain ⟨t287, A50, H⟩ := H
    replace H : ((word_Swap.f k a0 a1).bind fun t288 => ((word_Sign.f a0 a1).bind fun t289 => ((word_Swap.f k t288 a1).bind fun t290 => ((word_Narrow.f a0 a1).bind fun t291 => (if t290 = t291 then ((word_Narrow.f a0 8).bind fun t292 => ((word_Shr.f t288 (IntKind.u64.wrap ((IntKind.u64.wrap (t287)) - 8)) 64).bind fun t293 => (if t292 = t293 then ((word_Narrow.f t288 a1).bind fun t294 => (spindlelaw1_WordSwaps.j0 k a0 a1 (IntKind.u64.wrap (t287)) t289 (t294 != t288))) else (spindlelaw1_WordSwaps.j0 k a0 a1 (IntKind.u64.wrap (t287)) t289 true)))) else (spindlelaw1_WordSwaps.j0 k a0 a1 (IntKind.u64.wrap (t287)) t289 true)))))) = some r := H
    have A5 := Aside0.mk A50
    clear A50
    replace H := Option.bind_eq_some_iff.mp H
    obtain ⟨t288, A60, H⟩ := H
    replace H : ((word_Sign.f a0 a1).bind fun t289 => ((word_Swap.f k t288 a1).bind fun t290 => ((word_Narrow.f a0 a1).bind fun t291 => (if t290 = t291 then ((word_Narrow.f a0 8).bind fun t292 => ((word_Shr.f t288 (IntKind.u64.wrap ((IntKind.u64.wrap (t287)) - 8)) 64).bind fun t293 => (if t292 = t293 then ((word_Narrow.f t288 a1).bind fun t294 => (spindlelaw1_WordSwaps.j0 k a0 a1 (IntKind.u64.wrap (t287)) t289 (t294 != t288))) else (spindlelaw1_WordSwaps.j0 k a0 a1 (IntKind.u64.wrap (t287)) t289 true)))) else (spindlelaw1_WordSwaps.j0 k a0 a1 (IntKind.u64.wrap (t287)) t289 true))))) = some r := H
    have A6 := Aside0.mk A60
    clear A60
    replace H := Option.bind_eq_some_iff.mp H
    obtain ⟨t289, A70, H⟩ := H
    replace H : ((word_Swap.f k t288 a1).bind fun t290 => ((word_Narrow.f a0 a1).bind fun t291 => (if t290 = t291 then ((word_Narrow.f a0 8).bind fun t292 => ((word_Shr.f t288 (IntKind.u64.wrap ((IntKind.u64.wrap (t287)) - 8)) 64).bind fun t293 => (if t292 = t293 then ((word_Narrow.f t288 a1).bind fun t294 => (spindlelaw1_WordSwaps.j0 k a0 a1 (IntKind.u64.wrap (t287)) t289 (t294 != t288))) else (spindlelaw1_WordSwaps.j0 k a0 a1 (IntKind.u64.wrap (t287)) t289 true)))) else (spindlelaw1_WordSwaps.j0 k a0 a1 (IntKind.u64.wrap (t287)) t289 true)))) = some r := H
    have A7 := Aside0.mk A70
    clear A70
    have HC8 := Aside0.mk H
    clear H
    go_enter Try.func8, Try.ntmps8
    go_upto_region 6 with (first | ((with_reducible refine gate_callee (f := 11) rfl ?_); refine goesL_ (some 8) rfl rfl Try.func11 (by kernel_rfl) rfl #[] rfl (by (try simp only [List.map_toArray, List.map_cons, List.map_nil]); first | done | rfl | (simp only [List.length_drop, List.length_take]; rfl)) ?_; (with_reducible refine (spindlelaw1_awake.calls k  true _ A3.out).mono ?_); rintro e w' ⟨rfl, ⟨nd, rfl⟩⟩; refine ⟨_, rfl, ?_⟩) | ((with_reducible refine gate_callee (f := 45) rfl ?_); refine goesL_ (some 11) rfl rfl Try.func45 (by kernel_rfl) rfl #[.int .i64 a1] rfl (by (try simp only [List.map_toArray, List.map_cons, List.map_nil]); first | done | rfl | (simp only [List.length_drop, List.length_take]; rfl)) ?_; (with_reducible refine (spindleref1_Wide.calls a1 t287 _ A5.out).mono ?_); rintro e w' ⟨rfl, ⟨nd, rfl⟩⟩; refine ⟨_, rfl, ?_⟩) | ((with_reducible refine gate_callee (f := 25) rfl ?_); refine goesL_ (some 15) rfl rfl Try.func25 (by kernel_rfl) rfl #[.int .u64 a0, .int .i64 a1] rfl (by (try simp only [List.map_toArray, List.map_cons, List.map_nil]); first | done | rfl | (simp only [List.length_drop, List.length_take]; rfl)) ?_; (with_reducible refine (word_Swap.calls k a0 a1 t288 _ A6.out).mono ?_); rintro e w' ⟨rfl, ⟨nd, rfl⟩⟩; refine ⟨_, rfl, ?_⟩) | ((with_reducible refine gate_callee (f := 23) rfl ?_); refine goesL_ (some 18) rfl rfl Try.func23 (by kernel_rfl) rfl #[.int .u64 a0, .int .i64 a1] rfl (by (try simp only [List.map_toArray, List.map_cons, List.map_nil]); first | done | rfl | (simp only [List.length_drop, List.length_take]; rfl)) ?_; (with_reducible refine (word_Sign.calls a0 a1 t289 _ A7.out).mono ?_); rintro e w' ⟨rfl, ⟨nd, rfl⟩⟩; refine ⟨_, rfl, ?_⟩))
    (try simp only [Act.put, List.setIfInBounds_toArray, List.set_cons_zero, List.set_cons_succ])
    go_cut [41] (fun v41 wc => ∃ (kq : Nat) (x41_7 : Bool), v41 = .bool x41_7 ∧ Aside0 (spindlelaw1_WordSwaps.j0 kq a0 a1 (IntKind.u64.wrap (t287)) t289 x41_7 = some r) ∧ Aside0 (kq ≤ k) ∧ Drawn0 w wc)
    case first =>
      have H := HC8.out
      clear HC8
      replace H := Option.bind_eq_some_iff.mp H
      obtain ⟨t290, A90, H⟩ := H
      replace H : ((word_Narrow.f a0 a1).bind fun t291 => (if t290 = t291 then ((word_Narrow.f a0 8).bind fun t292 => ((word_Shr.f t288 (IntKind.u64.wrap ((IntKind.u64.wrap (t287)) - 8)) 64).bind fun t293 => (if t292 = t293 then ((word_Narrow.f t288 a1).bind fun t294 => (spindlelaw1_WordSwaps.j0 k a0 a1 (IntKind.u64.wrap (t287)) t289 (t294 != t288))) else (spindlelaw1_WordSwaps.j0 k a0 a1 (IntKind.u64.wrap (t287)) t289 true)))) else (spindlelaw1_WordSwaps.j0 k a0 a1 (IntKind.u64.wrap (t287)) t289 true))) = some r := H
      have A9 := Aside0.mk A90
      clear A90
      replace H := Option.bind_eq_some_iff.mp H
      obtain ⟨t291, A100, H⟩ := H
      replace H : (if t290 = t291 then ((word_Narrow.f a0 8).bind fun t292 => ((word_Shr.f t288 (IntKind.u64.wrap ((IntKind.u64.wrap (t287)) - 8)) 64).bind fun t293 => (if t292 = t293 then ((word_Narrow.f t288 a1).bind fun t294 => (spindlelaw1_WordSwaps.j0 k a0 a1 (IntKind.u64.wrap (t287)) t289 (t294 != t288))) else (spindlelaw1_WordSwaps.j0 k a0 a1 (IntKind.u64.wrap (t287)) t289 true)))) else (spindlelaw1_WordSwaps.j0 k a0 a1 (IntKind.u64.wrap (t287)) t289 true)) = some r := H
      have A10 := Aside0.mk A100
      clear A100
      by_cases c11 : t290 = t291
      · rw [if_pos c11] at H
        have c11b0 : (t290 == t291) = true := beq_iff_eq.mpr c11
        have c11b1 : (t290 != t291) = false := bne_eq_false_iff_eq.mpr c11
        clear c11
        (first | rw [c11b0] | (simp only [i64_w, i32_w]; rw [c11b0]) | skip)
        replace H := Option.bind_eq_some_iff.mp H
        obtain ⟨t292, A120, H⟩ := H
        replace H : ((word_Shr.f t288 (IntKind.u64.wrap ((IntKind.u64.wrap (t287)) - 8)) 64).bind fun t293 => (if t292 = t293 then ((word_Narrow.f t288 a1).bind fun t294 => (spindlelaw1_WordSwaps.j0 k a0 a1 (IntKind.u64.wrap (t287)) t289 (t294 != t288))) else (spindlelaw1_WordSwaps.j0 k a0 a1 (IntKind.u64.wrap (t287)) t289 true))) = some r := H
        have A12 := Aside0.mk A120
        clear A120
        replace H := Option.bind_eq_some_iff.mp H
        obtain ⟨t293, A130, H⟩ := H
        replace H : (if t292 = t293 then ((word_Narrow.f t288 a1).bind fun t294 => (spindlelaw1_WordSwaps.j0 k a0 a1 (IntKind.u64.wrap (t287)) t289 (t294 != t288))) else (spindlelaw1_WordSwaps.j0 k a0 a1 (IntKind.u64.wrap (t287)) t289 true)) = some r := H
        have A13 := Aside0.mk A130
        clear A130
        by_cases c14 : t292 = t293
        · rw [if_pos c14] at H
          have c14b0 : (t292 == t293) = true := beq_iff_eq.mpr c14
          have c14b1 : (t292 != t293) = false := bne_eq_false_iff_eq.mpr c14
          clear c14
          replace H := Option.bind_eq_some_iff.mp H
          obtain ⟨t294, A150, H⟩ := H
          replace H : (spindlelaw1_WordSwaps.j0 k a0 a1 (IntKind.u64.wrap (t287)) t289 (t294 != t288)) = some r := H
          have A15 := Aside0.mk A150
          clear A150
          have H' := Aside0.mk H
          clear H
          go_wp2_with (first | ((with_reducible refine gate_callee (f := 25) rfl ?_); refine goesL_ (some 21) rfl rfl Try.func25 (by kernel_rfl) rfl #[.int .u64 t288, .int .i64 a1] rfl (by (try simp only [List.map_toArray, List.map_cons, List.map_nil]); first | done | rfl | (simp only [List.length_drop, List.length_take]; rfl)) ?_; (with_reducible refine (word_Swap.calls k t288 a1 t290 _ A9.out).mono ?_); rintro e w' ⟨rfl, ⟨nd, rfl⟩⟩; refine ⟨_, rfl, ?_⟩) | ((with_reducible refine gate_callee (f := 21) rfl ?_); refine goesL_ (some 24) rfl rfl Try.func21 (by kernel_rfl) rfl #[.int .u64 a0, .int .i64 a1] rfl (by (try simp only [List.map_toArray, List.map_cons, List.map_nil]); first | done | rfl | (simp only [List.length_drop, List.length_take]; rfl)) ?_; (with_reducible refine (word_Narrow.calls a0 a1 t291 _ A10.out).mono ?_); rintro e w' ⟨rfl, ⟨nd, rfl⟩⟩; refine ⟨_, rfl, ?_⟩) | (go_at_call 21; (with_reducible refine (word_Narrow.calls a0 8 t292 _ A12.out).mono ?_); rintro e w' ⟨rfl, ⟨nd, rfl⟩⟩) | (go_at_call 41; (with_reducible refine (word_Shr.calls t288 (IntKind.u64.wrap ((IntKind.u64.wrap (t287)) - 8)) 64 t293 _ A13.out).mono ?_); rintro e w' ⟨rfl, ⟨nd, rfl⟩⟩) | (go_at_call 21; (with_reducible refine (word_Narrow.calls t288 a1 t294 _ A15.out).mono ?_); rintro e w' ⟨rfl, ⟨nd, rfl⟩⟩))
          go_meet
          case rel => exact ⟨_, ((t294 != t288)), (by first | rfl | (simp; done) | (simp [*]; done)), H', ⟨by first | omega | exact Nat.le_refl _⟩, by repeat (first | exact Drawn0.refl _ | apply Drawn0.step)⟩
        · rw [if_neg c14] at H
          have c14b0 : (t292 == t293) = false := beq_eq_false_iff_ne.mpr c14
          have c14b1 : (t292 != t293) = true := bne_iff_ne.mpr c14
          have H' := Aside0.mk H
          clear H
          go_wp2_with (first | ((with_reducible refine gate_callee (f := 25) rfl ?_); refine goesL_ (some 21) rfl rfl Try.func25 (by kernel_rfl) rfl #[.int .u64 t288, .int .i64 a1] rfl (by (try simp only [List.map_toArray, List.map_cons, List.map_nil]); first | done | rfl | (simp only [List.length_drop, List.length_take]; rfl)) ?_; (with_reducible refine (word_Swap.calls k t288 a1 t290 _ A9.out).mono ?_); rintro e w' ⟨rfl, ⟨nd, rfl⟩⟩; refine ⟨_, rfl, ?_⟩) | ((with_reducible refine gate_callee (f := 21) rfl ?_); refine goesL_ (some 24) rfl rfl Try.func21 (by kernel_rfl) rfl #[.int .u64 a0, .int .i64 a1] rfl (by (try simp only [List.map_toArray, List.map_cons, List.map_nil]); first | done | rfl | (simp only [List.length_drop, List.length_take]; rfl)) ?_; (with_reducible refine (word_Narrow.calls a0 a1 t291 _ A10.out).mono ?_); rintro e w' ⟨rfl, ⟨nd, rfl⟩⟩; refine ⟨_, rfl, ?_⟩) | (go_at_call 21; (with_reducible refine (word_Narrow.calls a0 8 t292 _ A12.out).mono ?_); rintro e w' ⟨rfl, ⟨nd, rfl⟩⟩) | (go_at_call 41; (with_reducible refine (word_Shr.calls t288 (IntKind.u64.wrap ((IntKind.u64.wrap (t287)) - 8)) 64 t293 _ A13.out).mono ?_); rintro e w' ⟨rfl, ⟨nd, rfl⟩⟩))
          go_meet
          case rel => exact ⟨_, (true), (by first | rfl | (simp; done) | (simp [*]; done)), H', ⟨by first | omega | exact Nat.le_refl _⟩, by repeat (first | exact Drawn0.refl _ | apply Drawn0.step)⟩
      · rw [if_neg c11] at H
        have c11b0 : (t290 == t291) = false := beq_eq_false_iff_ne.mpr c11
        have c11b1 : (t290 != t291) = true := bne_iff_ne.mpr c11
        (first | rw [c11b0] | (simp only [i64_w, i32_w]; rw [c11b0]) | skip)
        have H' := Aside0.mk H
        clear H
        go_wp2_with (first | ((with_reducible refine gate_callee (f := 25) rfl ?_); refine goesL_ (some 21) rfl rfl Try.func25 (by kernel_rfl) rfl #[.int .u64 t288, .int .i64 a1] rfl (by (try simp only [List.map_toArray, List.map_cons, List.map_nil]); first | done | rfl | (simp only [List.length_drop, List.length_take]; rfl)) ?_; (with_reducible refine (word_Swap.calls k t288 a1 t290 _ A9.out).mono ?_); rintro e w' ⟨rfl, ⟨nd, rfl⟩⟩; refine ⟨_, rfl, ?_⟩) | ((with_reducible refine gate_callee (f := 21) rfl ?_); refine goesL_ (some 24) rfl rfl Try.func21 (by kernel_rfl) rfl #[.int .u64 a0, .int .i64 a1] rfl (by (try simp only [List.map_toArray, List.map_cons, List.map_nil]); first | done | rfl | (simp only [List.length_drop, List.length_take]; rfl)) ?_; (with_reducible refine (word_Narrow.calls a0 a1 t291 _ A10.out).mono ?_); rintro e w' ⟨rfl, ⟨nd, rfl⟩⟩; refine ⟨_, rfl, ?_⟩))
        go_meet
        case rel => exact ⟨_, (true), (by first | rfl | (simp; done) | (simp [*]; done)), H', ⟨by first | omega | exact Nat.le_refl _⟩, by repeat (first | exact Drawn0.refl _ | apply Drawn0.step)⟩
    case rest =>
      clear HC8
      try clear c1
      try clear c2
      try clear p2
      try clear c4
      try clear c8
      try clear c11
      try clear c11b0
      try clear c11b1
      try clear c14
      try clear c14b0
      try clear c14b1
      obtain ⟨kq, x41_7, rfl, HA, HJ7, ⟨mc7, rfl⟩⟩ := hcut
      cases kq with
      | zero => exact absurd HA.out (by simp [spindlelaw1_WordSwaps.j0])
      | succ kj7 =>
        have H := HA.out
        clear HA
        simp only [spindlelaw1_WordSwaps.j0] at H
        by_cases c16 : x41_7 = true
        · subst c16
          have H1 : (some false) = some r := by rw [if_pos rfl] at H; exact H
          clear H
          have H := H1
          clear H1
          obtain rfl := Option.some.inj H
          go_wp2
          go_ret
          exact ⟨by first | rfl | (simp; done) | (simp [*]; done), by repeat (first | exact Drawn0.refl _ | apply Drawn0.step)⟩
        · replace c16 := Bool.eq_false_iff.mpr c16
          subst c16
          have H1 : ((word_Narrow.f t289 a1).bind fun t295 => ((word_Narrow.f a0 a1).bind fun t296 => (if t295 = t296 then ((word_Sar.f t289 (IntKind.u64.wrap ((IntKind.u64.wrap (t287)) - 1)) 64).bind fun t297 => ((word_Shr.f t296 (IntKind.u64.wrap ((IntKind.u64.wrap (t287)) - 1)) 64).bind fun t298 => ((word_Neg.f t298).bind fun t299 => (if t297 = t299 then ((word_Sign.f t289 a1).bind fun t300 => (some (t300 == t289))) else (some false))))) else (some false)))) = some r := by rw [if_neg (show ¬ (false = true) by decide)] at H; exact H
          clear H
          have H := H1
          clear H1
          replace H := Option.bind_eq_some_iff.mp H
          obtain ⟨t295, A170, H⟩ := H
          replace H : ((word_Narrow.f a0 a1).bind fun t296 => (if t295 = t296 then ((word_Sar.f t289 (IntKind.u64.wrap ((IntKind.u64.wrap (t287)) - 1)) 64).bind fun t297 => ((word_Shr.f t296 (IntKind.u64.wrap ((IntKind.u64.wrap (t287)) - 1)) 64).bind fun t298 => ((word_Neg.f t298).bind fun t299 => (if t297 = t299 then ((word_Sign.f t289 a1).bind fun t300 => (some (t300 == t289))) else (some false))))) else (some false))) = some r := H
          have A17 := Aside0.mk A170
          clear A170
          replace H := Option.bind_eq_some_iff.mp H
          obtain ⟨t296, A180, H⟩ := H
          replace H : (if t295 = t296 then ((word_Sar.f t289 (IntKind.u64.wrap ((IntKind.u64.wrap (t287)) - 1)) 64).bind fun t297 => ((word_Shr.f t296 (IntKind.u64.wrap ((IntKind.u64.wrap (t287)) - 1)) 64).bind fun t298 => ((word_Neg.f t298).bind fun t299 => (if t297 = t299 then ((word_Sign.f t289 a1).bind fun t300 => (some (t300 == t289))) else (some false))))) else (some false)) = some r := H
          have A18 := Aside0.mk A180
          clear A180
          by_cases c19 : t295 = t296
          · rw [if_pos c19] at H
            have c19b0 : (t295 == t296) = true := beq_iff_eq.mpr c19
            have c19b1 : (t295 != t296) = false := bne_eq_false_iff_eq.mpr c19
            clear c19
            replace H := Option.bind_eq_some_iff.mp H
            obtain ⟨t297, A200, H⟩ := H
            replace H : ((word_Shr.f t296 (IntKind.u64.wrap ((IntKind.u64.wrap (t287)) - 1)) 64).bind fun t298 => ((word_Neg.f t298).bind fun t299 => (if t297 = t299 then ((word_Sign.f t289 a1).bind fun t300 => (some (t300 == t289))) else (some false)))) = some r := H
            have A20 := Aside0.mk A200
            clear A200
            replace H := Option.bind_eq_some_iff.mp H
            obtain ⟨t298, A210, H⟩ := H
            replace H : ((word_Neg.f t298).bind fun t299 => (if t297 = t299 then ((word_Sign.f t289 a1).bind fun t300 => (some (t300 == t289))) else (some false))) = some r := H
            have A21 := Aside0.mk A210
            clear A210
            replace H := Option.bind_eq_some_iff.mp H
            obtain ⟨t299, A220, H⟩ := H
            replace H : (if t297 = t299 then ((word_Sign.f t289 a1).bind fun t300 => (some (t300 == t289))) else (some false)) = some r := H
            have A22 := Aside0.mk A220
            clear A220
            by_cases c23 : t297 = t299
            · rw [if_pos c23] at H
              have c23b0 : (t297 == t299) = true := beq_iff_eq.mpr c23
              have c23b1 : (t297 != t299) = false := bne_eq_false_iff_eq.mpr c23
              clear c23
              replace H := Option.bind_eq_some_iff.mp H
              obtain ⟨t300, A240, H⟩ := H
              replace H : (some (t300 == t289)) = some r := H
              have A24 := Aside0.mk A240
              clear A240
              obtain rfl := Option.some.inj H
              go_wp2_with (first | ((with_reducible refine gate_callee (f := 21) rfl ?_); refine goesL_ (some 44) rfl rfl Try.func21 (by kernel_rfl) rfl #[.int .u64 t289, .int .i64 a1] rfl (by (try simp only [List.map_toArray, List.map_cons, List.map_nil]); first | done | rfl | (simp only [List.length_drop, List.length_take]; rfl)) ?_; (with_reducible refine (word_Narrow.calls t289 a1 t295 _ A17.out).mono ?_); rintro e w' ⟨rfl, ⟨nd, rfl⟩⟩; refine ⟨_, rfl, ?_⟩) | ((with_reducible refine gate_callee (f := 21) rfl ?_); refine goesL_ (some 47) rfl rfl Try.func21 (by kernel_rfl) rfl #[.int .u64 a0, .int .i64 a1] rfl (by (try simp only [List.map_toArray, List.map_cons, List.map_nil]); first | done | rfl | (simp only [List.length_drop, List.length_take]; rfl)) ?_; (with_reducible refine (word_Narrow.calls a0 a1 t296 _ A18.out).mono ?_); rintro e w' ⟨rfl, ⟨nd, rfl⟩⟩; refine ⟨_, rfl, ?_⟩) | (go_at_call 43; (with_reducible refine (word_Sar.calls t289 (IntKind.u64.wrap ((IntKind.u64.wrap (t287)) - 1)) 64 t297 _ A20.out).mono ?_); rintro e w' ⟨rfl, ⟨nd, rfl⟩⟩) | (go_at_call 21; (with_reducible refine (word_Narrow.calls a0 a1 t296 _ A18.out).mono ?_); rintro e w' ⟨rfl, ⟨nd, rfl⟩⟩) | (go_at_call 41; (with_reducible refine (word_Shr.calls t296 (IntKind.u64.wrap ((IntKind.u64.wrap (t287)) - 1)) 64 t298 _ A21.out).mono ?_); rintro e w' ⟨rfl, ⟨nd, rfl⟩⟩) | (go_at_call 14; (with_reducible refine (word_Neg.calls t298 t299 _ A22.out).mono ?_); rintro e w' ⟨rfl, ⟨nd, rfl⟩⟩) | (go_at_call 23; (with_reducible refine (word_Sign.calls t289 a1 t300 _ A24.out).mono ?_); rintro e w' ⟨rfl, ⟨nd, rfl⟩⟩))
              go_ret
              exact ⟨by first | rfl | (simp; done) | (simp [*]; done), by repeat (first | exact Drawn0.refl _ | apply Drawn0.step)⟩
            · rw [if_neg c23] at H
              have c23b0 : (t297 == t299) = false := beq_eq_false_iff_ne.mpr c23
              have c23b1 : (t297 != t299) = true := bne_iff_ne.mpr c23
              obtain rfl := Option.some.inj H
              go_wp2_with (first | ((with_reducible refine gate_callee (f := 21) rfl ?_); refine goesL_ (some 44) rfl rfl Try.func21 (by kernel_rfl) rfl #[.int .u64 t289, .int .i64 a1] rfl (by (try simp only [List.map_toArray, List.map_cons, List.map_nil]); first | done | rfl | (simp only [List.length_drop, List.length_take]; rfl)) ?_; (with_reducible refine (word_Narrow.calls t289 a1 t295 _ A17.out).mono ?_); rintro e w' ⟨rfl, ⟨nd, rfl⟩⟩; refine ⟨_, rfl, ?_⟩) | ((with_reducible refine gate_callee (f := 21) rfl ?_); refine goesL_ (some 47) rfl rfl Try.func21 (by kernel_rfl) rfl #[.int .u64 a0, .int .i64 a1] rfl (by (try simp only [List.map_toArray, List.map_cons, List.map_nil]); first | done | rfl | (simp only [List.length_drop, List.length_take]; rfl)) ?_; (with_reducible refine (word_Narrow.calls a0 a1 t296 _ A18.out).mono ?_); rintro e w' ⟨rfl, ⟨nd, rfl⟩⟩; refine ⟨_, rfl, ?_⟩) | (go_at_call 43; (with_reducible refine (word_Sar.calls t289 (IntKind.u64.wrap ((IntKind.u64.wrap (t287)) - 1)) 64 t297 _ A20.out).mono ?_); rintro e w' ⟨rfl, ⟨nd, rfl⟩⟩) | (go_at_call 21; (with_reducible refine (word_Narrow.calls a0 a1 t296 _ A18.out).mono ?_); rintro e w' ⟨rfl, ⟨nd, rfl⟩⟩) | (go_at_call 41; (with_reducible refine (word_Shr.calls t296 (IntKind.u64.wrap ((IntKind.u64.wrap (t287)) - 1)) 64 t298 _ A21.out).mono ?_); rintro e w' ⟨rfl, ⟨nd, rfl⟩⟩) | (go_at_call 14; (with_reducible refine (word_Neg.calls t298 t299 _ A22.out).mono ?_); rintro e w' ⟨rfl, ⟨nd, rfl⟩⟩))
              go_ret
              exact ⟨by first | rfl | (simp; done) | (simp [*]; done), by repeat (first | exact Drawn0.refl _ | apply Drawn0.step)⟩
          · rw [if_neg c19] at H
            have c19b0 : (t295 == t296) = false := beq_eq_false_iff_ne.mpr c19
            have c19b1 : (t295 != t296) = true := bne_iff_ne.mpr c19
            obtain rfl := Option.some.inj H
            go_wp2_with (first | ((with_reducible refine gate_callee (f := 21) rfl ?_); refine goesL_ (some 44) rfl rfl Try.func21 (by kernel_rfl) rfl #[.int .u64 t289, .int .i64 a1] rfl (by (try simp only [List.map_toArray, List.map_cons, List.map_nil]); first | done | rfl | (simp only [List.length_drop, List.length_take]; rfl)) ?_; (with_reducible refine (word_Narrow.calls t289 a1 t295 _ A17.out).mono ?_); rintro e w' ⟨rfl, ⟨nd, rfl⟩⟩; refine ⟨_, rfl, ?_⟩) | ((with_reducible refine gate_callee (f := 21) rfl ?_); refine goesL_ (some 47) rfl rfl Try.func21 (by kernel_rfl) rfl #[.int .u64 a0, .int .i64 a1] rfl (by (try simp only [List.map_toArray, List.map_cons, List.map_nil]); first | done | rfl | (simp only [List.length_drop, List.length_take]; rfl)) ?_; (with_reducible refine (word_Narrow.calls a0 a1 t296 _ A18.out).mono ?_); rintro e w' ⟨rfl, ⟨nd, rfl⟩⟩; refine ⟨_, rfl, ?_⟩))
            go_ret
            exact ⟨by first | rfl | (simp; done) | (simp [*]; done), by repeat (first | exact Drawn0.refl _ | apply Drawn0.step)⟩
  · replace c4 := Bool.eq_false_iff.mpr c4
    subst c4
    have H1 : (some false) = some r := by rw [if_neg (show ¬ (false = true) by decide)] at H; exact H
    clear H
    have H := H1
    clear H1
    obtain rfl := Option.some.inj H
    go_enter Try.func8, Try.ntmps8
    go_wp2_with (first | ((with_reducible refine gate_callee (f := 11) rfl ?_); refine goesL_ (some 8) rfl rfl Try.func11 (by kernel_rfl) rfl #[] rfl (by (try simp only [List.map_toArray, List.map_cons, List.map_nil]); first | done | rfl | (simp only [List.length_drop, List.length_take]; rfl)) ?_; (with_reducible refine (spindlelaw1_awake.calls k  false _ A3.out).mono ?_); rintro e w' ⟨rfl, ⟨nd, rfl⟩⟩; refine ⟨_, rfl, ?_⟩))
    go_ret
    exact ⟨by first | rfl | (simp; done) | (simp [*]; done), by repeat (first | exact Drawn0.refl _ | apply Drawn0.step)⟩

/-- THE ONE PURE STATEMENT of spindlelaw1_WordSwaps: yours. -/
def spindlelaw1_WordSwaps.Pure : Prop := ∀ (a0 : Int) (a1 : Int), (Lit.int .u64 a0).wf = true → (Lit.int .i64 a1).wf = true → ∃ k, spindlelaw1_WordSwaps.f k a0 a1 = some true
theorem spindlelaw1_WordSwaps.walk (P : spindlelaw1_WordSwaps.Pure) (a0 : Int) (a1 : Int) (w : World) (w0 : (Lit.int .u64 a0).wf = true) (w1 : (Lit.int .i64 a1).wf = true) :
    Calls Try.prog 8 #[.int .u64 a0, .int .i64 a1] w fun e w' => e = .returned (.bool true) ∧ Below w.heap.size w w' := by
  obtain ⟨k, h⟩ := P a0 a1 w0 w1
  refine (spindlelaw1_WordSwaps.calls k a0 a1 true w h).mono ?_
  rintro e w' ⟨rfl, hd⟩
  exact ⟨rfl, hd.below⟩

/-! ### spindlelaw1_WordOrders: function 9 -/
def spindlelaw1_WordOrders.j0 : Nat → Int → Int → Int → Int → Bool → Bool → Option (Bool)
  | 0, _, _, _, _, _, _ => none
  | k + 1, x0, x1, x2, x3, x11, x43 => if x43 = true then (some false) else ((spindleref1_Wide.f x3).bind fun t306 => ((word_Shl.f 1 (IntKind.u64.wrap (wrap64 (t306 - 1))) x3).bind fun t307 => ((word_SLess.f x0 x1 x3).bind fun t308 => ((word_Xor.f x0 t307).bind fun t309 => ((word_Xor.f x1 t307).bind fun t310 => ((word_Less.f t309 t310 x3).bind fun t311 => (if (t308 != t311) = true then (some false) else (if x11 = true then ((word_Less.f x1 x2 x3).bind fun t312 => (if t312 = true then ((word_Less.f x0 x2 x3).bind fun t313 => (some t313)) else (some true))) else (some true)))))))))
def spindlelaw1_WordOrders.f (k : Nat) (a0 : Int) (a1 : Int) (a2 : Int) (a3 : Int) : Option (Bool) := (spindlelaw1_awake.f k).bind fun t301 => (if t301 = true then ((word_Narrow.f a0 a3).bind fun t302 => ((word_Narrow.f a1 a3).bind fun t303 => ((word_Less.f a0 a1 a3).bind fun t304 => ((word_Less.f a1 a0 a3).bind fun t305 => (if t304 = true then (if t305 = true then (spindlelaw1_WordOrders.j0 k a0 a1 a2 a3 t304 true) else (spindlelaw1_WordOrders.j0 k a0 a1 a2 a3 t304 (true == (t302 == t303)))) else (spindlelaw1_WordOrders.j0 k a0 a1 a2 a3 t304 (t305 == (t302 == t303)))))))) else (some false))
theorem spindlelaw1_WordOrders.mono_l : ∀ k, (∀ y0 y1 y2 y3 y4 y5, LeO (spindlelaw1_WordOrders.j0 k y0 y1 y2 y3 y4 y5) (spindlelaw1_WordOrders.j0 (k + 1) y0 y1 y2 y3 y4 y5))
  | 0 => fun _ _ _ _ _ _ r h => by simp [spindlelaw1_WordOrders.j0] at h
  | k + 1 => by
    have ih0 := spindlelaw1_WordOrders.mono_l k
    · intro y0 y1 y2 y3 y4 y5
      unfold spindlelaw1_WordOrders.j0
      repeat' first
      | (with_reducible exact ih0 _ _ _ _ _ _)
      | (with_reducible exact spindlelaw1_awake.mono _)
      | (with_reducible exact LeO.refl _)
      | (with_reducible exact LeO.none _)
      | (with_reducible refine LeO.ite ?_ ?_)
      | (with_reducible refine LeO.bind ?_ (fun _ => ?_))
      | exact ih0 _ _ _ _ _ _
      | exact spindlelaw1_awake.mono _
      | exact LeO.none _
      | refine LeO.ite ?_ ?_
      | refine LeO.bind ?_ (fun _ => ?_)
theorem spindlelaw1_WordOrders.mono : ∀ a0 a1 a2 a3 k, LeO (spindlelaw1_WordOrders.f k a0 a1 a2 a3) (spindlelaw1_WordOrders.f (k + 1) a0 a1 a2 a3) := by
  intro a0 a1 a2 a3 k
  have ih0 := spindlelaw1_WordOrders.mono_l k
  unfold spindlelaw1_WordOrders.f
  repeat' first
      | (with_reducible exact ih0 _ _ _ _ _ _)
      | (with_reducible exact spindlelaw1_awake.mono _)
      | (with_reducible exact LeO.refl _)
      | (with_reducible exact LeO.none _)
      | (with_reducible refine LeO.ite ?_ ?_)
      | (with_reducible refine LeO.bind ?_ (fun _ => ?_))
      | exact ih0 _ _ _ _ _ _
      | exact spindlelaw1_awake.mono _
      | exact LeO.none _
      | refine LeO.ite ?_ ?_
      | refine LeO.bind ?_ (fun _ => ?_)
set_option maxHeartbeats 8000000 in
set_option maxRecDepth 100000 in
theorem spindlelaw1_WordOrders.calls (k : Nat) (a0 : Int) (a1 : Int) (a2 : Int) (a3 : Int) (r : Bool) (w : World) (h : spindlelaw1_WordOrders.f k a0 a1 a2 a3 = some r) :
    Calls Try.prog 9 #[.int .u64 a0, .int .u64 a1, .int .u64 a2, .int .i64 a3] w fun e w' => e = .returned (.bool r) ∧ Drawn0 w w' := by
  have H : ((spindlelaw1_awake.f k).bind fun t301 => (if t301 = true then ((word_Narrow.f a0 a3).bind fun t302 => ((word_Narrow.f a1 a3).bind fun t303 => ((word_Less.f a0 a1 a3).bind fun t304 => ((word_Less.f a1 a0 a3).bind fun t305 => (if t304 = true then (if t305 = true then (spindlelaw1_WordOrders.j0 k a0 a1 a2 a3 t304 true) else (spindlelaw1_WordOrders.j0 k a0 a1 a2 a3 t304 (true == (t302 == t303)))) else (spindlelaw1_WordOrders.j0 k a0 a1 a2 a3 t304 (t305 == (t302 == t303)))))))) else (some false))) = some r := h
  clear h
  replace H := Option.bind_eq_some_iff.mp H
  obtain ⟨t301, A50, H⟩ := H
  replace H : (if t301 = true then ((word_Narrow.f a0 a3).bind fun t302 => ((word_Narrow.f a1 a3).bind fun t303 => ((word_Less.f a0 a1 a3).bind fun t304 => ((word_Less.f a1 a0 a3).bind fun t305 => (if t304 = true then (if t305 = true then (spindlelaw1_WordOrders.j0 k a0 a1 a2 a3 t304 true) else (spindlelaw1_WordOrders.j0 k a0 a1 a2 a3 t304 (true == (t302 == t303)))) else (spindlelaw1_WordOrders.j0 k a0 a1 a2 a3 t304 (t305 == (t302 == t303)))))))) else (some false)) = some r := H
  have A5 := Aside0.mk A50
  clear A50
  by_cases c6 : t301 = true
  · subst c6
    have H1 : ((word_Narrow.f a0 a3).bind fun t302 => ((word_Narrow.f a1 a3).bind fun t303 => ((word_Less.f a0 a1 a3).bind fun t304 => ((word_Less.f a1 a0 a3).bind fun t305 => (if t304 = true then (if t305 = true then (spindlelaw1_WordOrders.j0 k a0 a1 a2 a3 t304 true) else (spindlelaw1_WordOrders.j0 k a0 a1 a2 a3 t304 (true == (t302 == t303)))) else (spindlelaw1_WordOrders.j0 k a0 a1 a2 a3 t304 (t305 == (t302 == t303)))))))) = some r := by rw [if_pos rfl] at H; exact H
    clear H
    have H := H1
    clear H1
    replace H := Option.bind_eq_some_iff.mp H
    obtain ⟨t302, A70, H⟩ := H
    replace H : ((word_Narrow.f a1 a3).bind fun t303 => ((word_Less.f a0 a1 a3).bind fun t304 => ((word_Less.f a1 a0 a3).bind fun t305 => (if t304 = true then (if t305 = true then (spindlelaw1_WordOrders.j0 k a0 a1 a2 a3 t304 true) else (spindlelaw1_WordOrders.j0 k a0 a1 a2 a3 t304 (true == (t302 == t303)))) else (spindlelaw1_WordOrders.j0 k a0 a1 a2 a3 t304 (t305 == (t302 == t303))))))) = some r := H
    have A7 := Aside0.mk A70
    clear A70
    replace H := Option.bind_eq_some_iff.mp H
    obtain ⟨t303, A80, H⟩ := H
    replace H : ((word_Less.f a0 a1 a3).bind fun t304 => ((word_Less.f a1 a0 a3).bind fun t305 => (if t304 = true then (if t305 = true then (spindlelaw1_WordOrders.j0 k a0 a1 a2 a3 t304 true) else (spindlelaw1_WordOrders.j0 k a0 a1 a2 a3 t304 (true == (t302 == t303)))) else (spindlelaw1_WordOrders.j0 k a0 a1 a2 a3 t304 (t305 == (t302 == t303)))))) = some r := H
    have A8 := Aside0.mk A80
    clear A80
    replace H := Option.bind_eq_some_iff.mp H
    obtain ⟨t304, A90, H⟩ := H
    replace H : ((word_Less.f a1 a0 a3).bind fun t305 => (if t304 = true then (if t305 = true then (spindlelaw1_WordOrders.j0 k a0 a1 a2 a3 t304 true) else (spindlelaw1_WordOrders.j0 k a0 a1 a2 a3 t304 (true == (t302 == t303)))) else (spindlelaw1_WordOrders.j0 k a0 a1 a2 a3 t304 (t305 == (t302 == t303))))) = some r := H
    have A9 := Aside0.mk A90
    clear A90
    replace H := Option.bind_eq_some_iff.mp H
    obtain ⟨t305, A100, H⟩ := H
    replace H : (if t304 = true then (if t305 = true then (spindlelaw1_WordOrders.j0 k a0 a1 a2 a3 t304 true) else (spindlelaw1_WordOrders.j0 k a0 a1 a2 a3 t304 (true == (t302 == t303)))) else (spindlelaw1_WordOrders.j0 k a0 a1 a2 a3 t304 (t305 == (t302 == t303)))) = some r := H
    have A10 := Aside0.mk A100
    clear A100
    have HC11 := Aside0.mk H
    clear H
    go_enter Try.func9, Try.ntmps9
    go_upto_region 7 with (first | ((with_reducible refine gate_callee (f := 11) rfl ?_); refine goesL_ (some 14) rfl rfl Try.func11 (by kernel_rfl) rfl #[] rfl (by (try simp only [List.map_toArray, List.map_cons, List.map_nil]); first | done | rfl | (simp only [List.length_drop, List.length_take]; rfl)) ?_; (with_reducible refine (spindlelaw1_awake.calls k  true _ A5.out).mono ?_); rintro e w' ⟨rfl, ⟨nd, rfl⟩⟩; refine ⟨_, rfl, ?_⟩) | ((with_reducible refine gate_callee (f := 21) rfl ?_); refine goesL_ (some 18) rfl rfl Try.func21 (by kernel_rfl) rfl #[.int .u64 a0, .int .i64 a3] rfl (by (try simp only [List.map_toArray, List.map_cons, List.map_nil]); first | done | rfl | (simp only [List.length_drop, List.length_take]; rfl)) ?_; (with_reducible refine (word_Narrow.calls a0 a3 t302 _ A7.out).mono ?_); rintro e w' ⟨rfl, ⟨nd, rfl⟩⟩; refine ⟨_, rfl, ?_⟩) | ((with_reducible refine gate_callee (f := 21) rfl ?_); refine goesL_ (some 21) rfl rfl Try.func21 (by kernel_rfl) rfl #[.int .u64 a1, .int .i64 a3] rfl (by (try simp only [List.map_toArray, List.map_cons, List.map_nil]); first | done | rfl | (simp only [List.length_drop, List.length_take]; rfl)) ?_; (with_reducible refine (word_Narrow.calls a1 a3 t303 _ A8.out).mono ?_); rintro e w' ⟨rfl, ⟨nd, rfl⟩⟩; refine ⟨_, rfl, ?_⟩) | ((with_reducible refine gate_callee (f := 27) rfl ?_); refine goesL_ (some 25) rfl rfl Try.func27 (by kernel_rfl) rfl #[.int .u64 a0, .int .u64 a1, .int .i64 a3] rfl (by (try simp only [List.map_toArray, List.map_cons, List.map_nil]); first | done | rfl | (simp only [List.length_drop, List.length_take]; rfl)) ?_; (with_reducible refine (word_Less.calls a0 a1 a3 t304 _ A9.out).mono ?_); rintro e w' ⟨rfl, ⟨nd, rfl⟩⟩; refine ⟨_, rfl, ?_⟩) | ((with_reducible refine gate_callee (f := 27) rfl ?_); refine goesL_ (some 29) rfl rfl Try.func27 (by kernel_rfl) rfl #[.int .u64 a1, .int .u64 a0, .int .i64 a3] rfl (by (try simp only [List.map_toArray, List.map_cons, List.map_nil]); first | done | rfl | (simp only [List.length_drop, List.length_take]; rfl)) ?_; (with_reducible refine (word_Less.calls a1 a0 a3 t305 _ A10.out).mono ?_); rintro e w' ⟨rfl, ⟨nd, rfl⟩⟩; refine ⟨_, rfl, ?_⟩))
    (try simp only [Act.put, List.setIfInBounds_toArray, List.set_cons_zero, List.set_cons_succ])
    go_cut [43] (fun v43 wc => ∃ (kq : Nat) (x43_10 : Bool), v43 = .bool x43_10 ∧ Aside0 (spindlelaw1_WordOrders.j0 kq a0 a1 a2 a3 t304 x43_10 = some r) ∧ Aside0 (kq ≤ k) ∧ Drawn0 w wc)
    case first =>
      have H := HC11.out
      clear HC11
      by_cases c12 : t304 = true
      · subst c12
        have H1 : (if t305 = true then (spindlelaw1_WordOrders.j0 k a0 a1 a2 a3 true true) else (spindlelaw1_WordOrders.j0 k a0 a1 a2 a3 true (true == (t302 == t303)))) = some r := by rw [if_pos rfl] at H; exact H
        clear H
        have H := H1
        clear H1
        by_cases c13 : t305 = true
        · subst c13
          have H1 : (spindlelaw1_WordOrders.j0 k a0 a1 a2 a3 true true) = some r := by rw [if_pos rfl] at H; exact H
          clear H
          have H := H1
          clear H1
          have H' := Aside0.mk H
          clear H
          go_wp2
          go_meet
          case rel => exact ⟨_, (true), (by first | rfl | (simp; done) | (simp [*]; done)), H', ⟨by first | omega | exact Nat.le_refl _⟩, by repeat (first | exact Drawn0.refl _ | apply Drawn0.step)⟩
        · replace c13 := Bool.eq_false_iff.mpr c13
          subst c13
          have H1 : (spindlelaw1_WordOrders.j0 k a0 a1 a2 a3 true (true == (t302 == t303))) = some r := by rw [if_neg (show ¬ (false = true) by decide)] at H; exact H
          clear H
          have H := H1
          clear H1
          have H' := Aside0.mk H
          clear H
          go_wp2
          go_meet
          case rel => exact ⟨_, ((true == (t302 == t303))), (by first | rfl | (simp; done) | (simp [*]; done)), H', ⟨by first | omega | exact Nat.le_refl _⟩, by repeat (first | exact Drawn0.refl _ | apply Drawn0.step)⟩
      · replace c12 := Bool.eq_false_iff.mpr c12
        subst c12
        have H1 : (spindlelaw1_WordOrders.j0 k a0 a1 a2 a3 false (t305 == (t302 == t303))) = some r := by rw [if_neg (show ¬ (false = true) by decide)] at H; exact H
        clear H
        have H := H1
        clear H1
        have H' := Aside0.mk H
        clear H
        go_wp2
        go_meet
        case rel => exact ⟨_, ((t305 == (t302 == t303))), (by first | rfl | (simp; done) | (simp [*]; done)), H', ⟨by first | omega | exact Nat.le_refl _⟩, by repeat (first | exact Drawn0.refl _ | apply Drawn0.step)⟩
    case rest =>
      clear HC11
      try clear c1
      try clear c2
      try clear p2
      try clear c6
      try clear c9
      try clear c11
      try clear c12
      try clear c13
      obtain ⟨kq, x43_10, rfl, HA, HJ10, ⟨mc10, rfl⟩⟩ := hcut
      cases kq with
      | zero => exact absurd HA.out (by simp [spindlelaw1_WordOrders.j0])
      | succ kj10 =>
        have H := HA.out
        clear HA
        simp only [spindlelaw1_WordOrders.j0] at H
        by_cases c14 : x43_10 = true
        · subst c14
          have H1 : (some false) = some r := by rw [if_pos rfl] at H; exact H
          clear H
          have H := H1
          clear H1
          obtain rfl := Option.some.inj H
          go_wp2
          go_ret
          exact ⟨by first | rfl | (simp; done) | (simp [*]; done), by repeat (first | exact Drawn0.refl _ | apply Drawn0.step)⟩
        · replace c14 := Bool.eq_false_iff.mpr c14
          subst c14
          have H1 : ((spindleref1_Wide.f a3).bind fun t306 => ((word_Shl.f 1 (IntKind.u64.wrap (wrap64 (t306 - 1))) a3).bind fun t307 => ((word_SLess.f a0 a1 a3).bind fun t308 => ((word_Xor.f a0 t307).bind fun t309 => ((word_Xor.f a1 t307).bind fun t310 => ((word_Less.f t309 t310 a3).bind fun t311 => (if (t308 != t311) = true then (some false) else (if t304 = true then ((word_Less.f a1 a2 a3).bind fun t312 => (if t312 = true then ((word_Less.f a0 a2 a3).bind fun t313 => (some t313)) else (some true))) else (some true))))))))) = some r := by rw [if_neg (show ¬ (false = true) by decide)] at H; exact H
          clear H
          have H := H1
          clear H1
          replace H := Option.bind_eq_some_iff.mp H
          obtain ⟨t306, A150, H⟩ := H
          replace H : ((word_Shl.f 1 (IntKind.u64.wrap (wrap64 (t306 - 1))) a3).bind fun t307 => ((word_SLess.f a0 a1 a3).bind fun t308 => ((word_Xor.f a0 t307).bind fun t309 => ((word_Xor.f a1 t307).bind fun t310 => ((word_Less.f t309 t310 a3).bind fun t311 => (if (t308 != t311) = true then (some false) else (if t304 = true then ((word_Less.f a1 a2 a3).bind fun t312 => (if t312 = true then ((word_Less.f a0 a2 a3).bind fun t313 => (some t313)) else (some true))) else (some true)))))))) = some r := H
          have A15 := Aside0.mk A150
          clear A150
          replace H := Option.bind_eq_some_iff.mp H
          obtain ⟨t307, A160, H⟩ := H
          replace H : ((word_SLess.f a0 a1 a3).bind fun t308 => ((word_Xor.f a0 t307).bind fun t309 => ((word_Xor.f a1 t307).bind fun t310 => ((word_Less.f t309 t310 a3).bind fun t311 => (if (t308 != t311) = true then (some false) else (if t304 = true then ((word_Less.f a1 a2 a3).bind fun t312 => (if t312 = true then ((word_Less.f a0 a2 a3).bind fun t313 => (some t313)) else (some true))) else (some true))))))) = some r := H
          have A16 := Aside0.mk A160
          clear A160
          replace H := Option.bind_eq_some_iff.mp H
          obtain ⟨t308, A170, H⟩ := H
          replace H : ((word_Xor.f a0 t307).bind fun t309 => ((word_Xor.f a1 t307).bind fun t310 => ((word_Less.f t309 t310 a3).bind fun t311 => (if (t308 != t311) = true then (some false) else (if t304 = true then ((word_Less.f a1 a2 a3).bind fun t312 => (if t312 = true then ((word_Less.f a0 a2 a3).bind fun t313 => (some t313)) else (some true))) else (some true)))))) = some r := H
          have A17 := Aside0.mk A170
          clear A170
          replace H := Option.bind_eq_some_iff.mp H
          obtain ⟨t309, A180, H⟩ := H
          replace H : ((word_Xor.f a1 t307).bind fun t310 => ((word_Less.f t309 t310 a3).bind fun t311 => (if (t308 != t311) = true then (some false) else (if t304 = true then ((word_Less.f a1 a2 a3).bind fun t312 => (if t312 = true then ((word_Less.f a0 a2 a3).bind fun t313 => (some t313)) else (some true))) else (some true))))) = some r := H
          have A18 := Aside0.mk A180
          clear A180
          replace H := Option.bind_eq_some_iff.mp H
          obtain ⟨t310, A190, H⟩ := H
          replace H : ((word_Less.f t309 t310 a3).bind fun t311 => (if (t308 != t311) = true then (some false) else (if t304 = true then ((word_Less.f a1 a2 a3).bind fun t312 => (if t312 = true then ((word_Less.f a0 a2 a3).bind fun t313 => (some t313)) else (some true))) else (some true)))) = some r := H
          have A19 := Aside0.mk A190
          clear A190
          replace H := Option.bind_eq_some_iff.mp H
          obtain ⟨t311, A200, H⟩ := H
          replace H : (if (t308 != t311) = true then (some false) else (if t304 = true then ((word_Less.f a1 a2 a3).bind fun t312 => (if t312 = true then ((word_Less.f a0 a2 a3).bind fun t313 => (some t313)) else (some true))) else (some true))) = some r := H
          have A20 := Aside0.mk A200
          clear A200
          by_cases c21 : (t308 != t311) = true
          · rw [if_pos c21] at H
            have c21b0 : (t308 != t311) = true := c21
            (try (have c21b1 : decide (t308 = t311) = false := by simpa using c21))
            (try (have c21b2 : (t308 == t311) = false := by simpa using c21))
            (try (have c21b3 : ¬ (t308 = t311) := by simpa using c21))
            clear c21
            obtain rfl := Option.some.inj H
            go_wp2_with (first | ((with_reducible refine gate_callee (f := 45) rfl ?_); refine goesL_ (some 45) rfl rfl Try.func45 (by kernel_rfl) rfl #[.int .i64 a3] rfl (by (try simp only [List.map_toArray, List.map_cons, List.map_nil]); first | done | rfl | (simp only [List.length_drop, List.length_take]; rfl)) ?_; (with_reducible refine (spindleref1_Wide.calls a3 t306 _ A15.out).mono ?_); rintro e w' ⟨rfl, ⟨nd, rfl⟩⟩; refine ⟨_, rfl, ?_⟩) | ((with_reducible refine gate_callee (f := 39) rfl ?_); refine goesL_ (some 49) rfl rfl Try.func39 (by kernel_rfl) rfl #[.int .u64 1, .int .u64 (IntKind.u64.wrap (wrap64 (t306 - 1))), .int .i64 a3] rfl (by (try simp only [List.map_toArray, List.map_cons, List.map_nil]); first | done | rfl | (simp only [List.length_drop, List.length_take]; rfl)) ?_; (with_reducible refine (word_Shl.calls 1 (IntKind.u64.wrap (wrap64 (t306 - 1))) a3 t307 _ A16.out).mono ?_); rintro e w' ⟨rfl, ⟨nd, rfl⟩⟩; refine ⟨_, rfl, ?_⟩) | ((with_reducible refine gate_callee (f := 29) rfl ?_); refine goesL_ (some 53) rfl rfl Try.func29 (by kernel_rfl) rfl #[.int .u64 a0, .int .u64 a1, .int .i64 a3] rfl (by (try simp only [List.map_toArray, List.map_cons, List.map_nil]); first | done | rfl | (simp only [List.length_drop, List.length_take]; rfl)) ?_; (with_reducible refine (word_SLess.calls a0 a1 a3 t308 _ A17.out).mono ?_); rintro e w' ⟨rfl, ⟨nd, rfl⟩⟩; refine ⟨_, rfl, ?_⟩) | ((with_reducible refine gate_callee (f := 20) rfl ?_); refine goesL_ (some 56) rfl rfl Try.func20 (by kernel_rfl) rfl #[.int .u64 a0, .int .u64 t307] rfl (by (try simp only [List.map_toArray, List.map_cons, List.map_nil]); first | done | rfl | (simp only [List.length_drop, List.length_take]; rfl)) ?_; (with_reducible refine (word_Xor.calls a0 t307 t309 _ A18.out).mono ?_); rintro e w' ⟨rfl, ⟨nd, rfl⟩⟩; refine ⟨_, rfl, ?_⟩) | ((with_reducible refine gate_callee (f := 20) rfl ?_); refine goesL_ (some 59) rfl rfl Try.func20 (by kernel_rfl) rfl #[.int .u64 a1, .int .u64 t307] rfl (by (try simp only [List.map_toArray, List.map_cons, List.map_nil]); first | done | rfl | (simp only [List.length_drop, List.length_take]; rfl)) ?_; (with_reducible refine (word_Xor.calls a1 t307 t310 _ A19.out).mono ?_); rintro e w' ⟨rfl, ⟨nd, rfl⟩⟩; refine ⟨_, rfl, ?_⟩) | ((with_reducible refine gate_callee (f := 27) rfl ?_); refine goesL_ (some 61) rfl rfl Try.func27 (by kernel_rfl) rfl #[.int .u64 t309, .int .u64 t310, .int .i64 a3] rfl (by (try simp only [List.map_toArray, List.map_cons, List.map_nil]); first | done | rfl | (simp only [List.length_drop, List.length_take]; rfl)) ?_; (with_reducible refine (word_Less.calls t309 t310 a3 t311 _ A20.out).mono ?_); rintro e w' ⟨rfl, ⟨nd, rfl⟩⟩; refine ⟨_, rfl, ?_⟩))
            go_ret
            exact ⟨by first | rfl | (simp; done) | (simp [*]; done), by repeat (first | exact Drawn0.refl _ | apply Drawn0.step)⟩
          · rw [if_neg c21] at H
            have c21b0 : (t308 != t311) = false := by simpa using c21
            (try (have c21b1 : decide (t308 = t311) = true := by simpa using c21))
            (try (have c21b2 : (t308 == t311) = true := by simpa using c21))
            clear c21
            by_cases c22 : t304 = true
            · subst c22
              have H1 : ((word_Less.f a1 a2 a3).bind fun t312 => (if t312 = true then ((word_Less.f a0 a2 a3).bind fun t313 => (some t313)) else (some true))) = some r := by rw [if_pos rfl] at H; exact H
              clear H
              have H := H1
              clear H1
              replace H := Option.bind_eq_some_iff.mp H
              obtain ⟨t312, A230, H⟩ := H
              replace H : (if t312 = true then ((word_Less.f a0 a2 a3).bind fun t313 => (some t313)) else (some true)) = some r := H
              have A23 := Aside0.mk A230
              clear A230
              by_cases c24 : t312 = true
              · subst c24
                have H1 : ((word_Less.f a0 a2 a3).bind fun t313 => (some t313)) = some r := by rw [if_pos rfl] at H; exact H
                clear H
                have H := H1
                clear H1
                replace H := Option.bind_eq_some_iff.mp H
                obtain ⟨t313, A250, H⟩ := H
                replace H : (some t313) = some r := H
                have A25 := Aside0.mk A250
                clear A250
                obtain rfl := Option.some.inj H
                go_wp2_with (first | ((with_reducible refine gate_callee (f := 45) rfl ?_); refine goesL_ (some 45) rfl rfl Try.func45 (by kernel_rfl) rfl #[.int .i64 a3] rfl (by (try simp only [List.map_toArray, List.map_cons, List.map_nil]); first | done | rfl | (simp only [List.length_drop, List.length_take]; rfl)) ?_; (with_reducible refine (spindleref1_Wide.calls a3 t306 _ A15.out).mono ?_); rintro e w' ⟨rfl, ⟨nd, rfl⟩⟩; refine ⟨_, rfl, ?_⟩) | ((with_reducible refine gate_callee (f := 39) rfl ?_); refine goesL_ (some 49) rfl rfl Try.func39 (by kernel_rfl) rfl #[.int .u64 1, .int .u64 (IntKind.u64.wrap (wrap64 (t306 - 1))), .int .i64 a3] rfl (by (try simp only [List.map_toArray, List.map_cons, List.map_nil]); first | done | rfl | (simp only [List.length_drop, List.length_take]; rfl)) ?_; (with_reducible refine (word_Shl.calls 1 (IntKind.u64.wrap (wrap64 (t306 - 1))) a3 t307 _ A16.out).mono ?_); rintro e w' ⟨rfl, ⟨nd, rfl⟩⟩; refine ⟨_, rfl, ?_⟩) | ((with_reducible refine gate_callee (f := 29) rfl ?_); refine goesL_ (some 53) rfl rfl Try.func29 (by kernel_rfl) rfl #[.int .u64 a0, .int .u64 a1, .int .i64 a3] rfl (by (try simp only [List.map_toArray, List.map_cons, List.map_nil]); first | done | rfl | (simp only [List.length_drop, List.length_take]; rfl)) ?_; (with_reducible refine (word_SLess.calls a0 a1 a3 t308 _ A17.out).mono ?_); rintro e w' ⟨rfl, ⟨nd, rfl⟩⟩; refine ⟨_, rfl, ?_⟩) | ((with_reducible refine gate_callee (f := 20) rfl ?_); refine goesL_ (some 56) rfl rfl Try.func20 (by kernel_rfl) rfl #[.int .u64 a0, .int .u64 t307] rfl (by (try simp only [List.map_toArray, List.map_cons, List.map_nil]); first | done | rfl | (simp only [List.length_drop, List.length_take]; rfl)) ?_; (with_reducible refine (word_Xor.calls a0 t307 t309 _ A18.out).mono ?_); rintro e w' ⟨rfl, ⟨nd, rfl⟩⟩; refine ⟨_, rfl, ?_⟩) | ((with_reducible refine gate_callee (f := 20) rfl ?_); refine goesL_ (some 59) rfl rfl Try.func20 (by kernel_rfl) rfl #[.int .u64 a1, .int .u64 t307] rfl (by (try simp only [List.map_toArray, List.map_cons, List.map_nil]); first | done | rfl | (simp only [List.length_drop, List.length_take]; rfl)) ?_; (with_reducible refine (word_Xor.calls a1 t307 t310 _ A19.out).mono ?_); rintro e w' ⟨rfl, ⟨nd, rfl⟩⟩; refine ⟨_, rfl, ?_⟩) | ((with_reducible refine gate_callee (f := 27) rfl ?_); refine goesL_ (some 61) rfl rfl Try.func27 (by kernel_rfl) rfl #[.int .u64 t309, .int .u64 t310, .int .i64 a3] rfl (by (try simp only [List.map_toArray, List.map_cons, List.map_nil]); first | done | rfl | (simp only [List.length_drop, List.length_take]; rfl)) ?_; (with_reducible refine (word_Less.calls t309 t310 a3 t311 _ A20.out).mono ?_); rintro e w' ⟨rfl, ⟨nd, rfl⟩⟩; refine ⟨_, rfl, ?_⟩) | (go_at_call 27; (with_reducible refine (word_Less.calls a1 a2 a3 true _ A23.out).mono ?_); rintro e w' ⟨rfl, ⟨nd, rfl⟩⟩) | (go_at_call 27; (with_reducible refine (word_Less.calls a0 a2 a3 t313 _ A25.out).mono ?_); rintro e w' ⟨rfl, ⟨nd, rfl⟩⟩))
                go_ret
                exact ⟨by first | rfl | (simp; done) | (simp [*]; done), by repeat (first | exact Drawn0.refl _ | apply Drawn0.step)⟩
              · replace c24 := Bool.eq_false_iff.mpr c24
                subst c24
                have H1 : (some true) = some r := by rw [if_neg (show ¬ (false = true) by decide)] at H; exact H
                clear H
                have H := H1
                clear H1
                obtain rfl := Option.some.inj H
                go_wp2_with (first | ((with_reducible refine gate_callee (f := 45) rfl ?_); refine goesL_ (some 45) rfl rfl Try.func45 (by kernel_rfl) rfl #[.int .i64 a3] rfl (by (try simp only [List.map_toArray, List.map_cons, List.map_nil]); first | done | rfl | (simp only [List.length_drop, List.length_take]; rfl)) ?_; (with_reducible refine (spindleref1_Wide.calls a3 t306 _ A15.out).mono ?_); rintro e w' ⟨rfl, ⟨nd, rfl⟩⟩; refine ⟨_, rfl, ?_⟩) | ((with_reducible refine gate_callee (f := 39) rfl ?_); refine goesL_ (some 49) rfl rfl Try.func39 (by kernel_rfl) rfl #[.int .u64 1, .int .u64 (IntKind.u64.wrap (wrap64 (t306 - 1))), .int .i64 a3] rfl (by (try simp only [List.map_toArray, List.map_cons, List.map_nil]); first | done | rfl | (simp only [List.length_drop, List.length_take]; rfl)) ?_; (with_reducible refine (word_Shl.calls 1 (IntKind.u64.wrap (wrap64 (t306 - 1))) a3 t307 _ A16.out).mono ?_); rintro e w' ⟨rfl, ⟨nd, rfl⟩⟩; refine ⟨_, rfl, ?_⟩) | ((with_reducible refine gate_callee (f := 29) rfl ?_); refine goesL_ (some 53) rfl rfl Try.func29 (by kernel_rfl) rfl #[.int .u64 a0, .int .u64 a1, .int .i64 a3] rfl (by (try simp only [List.map_toArray, List.map_cons, List.map_nil]); first | done | rfl | (simp only [List.length_drop, List.length_take]; rfl)) ?_; (with_reducible refine (word_SLess.calls a0 a1 a3 t308 _ A17.out).mono ?_); rintro e w' ⟨rfl, ⟨nd, rfl⟩⟩; refine ⟨_, rfl, ?_⟩) | ((with_reducible refine gate_callee (f := 20) rfl ?_); refine goesL_ (some 56) rfl rfl Try.func20 (by kernel_rfl) rfl #[.int .u64 a0, .int .u64 t307] rfl (by (try simp only [List.map_toArray, List.map_cons, List.map_nil]); first | done | rfl | (simp only [List.length_drop, List.length_take]; rfl)) ?_; (with_reducible refine (word_Xor.calls a0 t307 t309 _ A18.out).mono ?_); rintro e w' ⟨rfl, ⟨nd, rfl⟩⟩; refine ⟨_, rfl, ?_⟩) | ((with_reducible refine gate_callee (f := 20) rfl ?_); refine goesL_ (some 59) rfl rfl Try.func20 (by kernel_rfl) rfl #[.int .u64 a1, .int .u64 t307] rfl (by (try simp only [List.map_toArray, List.map_cons, List.map_nil]); first | done | rfl | (simp only [List.length_drop, List.length_take]; rfl)) ?_; (with_reducible refine (word_Xor.calls a1 t307 t310 _ A19.out).mono ?_); rintro e w' ⟨rfl, ⟨nd, rfl⟩⟩; refine ⟨_, rfl, ?_⟩) | ((with_reducible refine gate_callee (f := 27) rfl ?_); refine goesL_ (some 61) rfl rfl Try.func27 (by kernel_rfl) rfl #[.int .u64 t309, .int .u64 t310, .int .i64 a3] rfl (by (try simp only [List.map_toArray, List.map_cons, List.map_nil]); first | done | rfl | (simp only [List.length_drop, List.length_take]; rfl)) ?_; (with_reducible refine (word_Less.calls t309 t310 a3 t311 _ A20.out).mono ?_); rintro e w' ⟨rfl, ⟨nd, rfl⟩⟩; refine ⟨_, rfl, ?_⟩) | (go_at_call 27; (with_reducible refine (word_Less.calls a1 a2 a3 false _ A23.out).mono ?_); rintro e w' ⟨rfl, ⟨nd, rfl⟩⟩))
                go_ret
                exact ⟨by first | rfl | (simp; done) | (simp [*]; done), by repeat (first | exact Drawn0.refl _ | apply Drawn0.step)⟩
            · replace c22 := Bool.eq_false_iff.mpr c22
              subst c22
              have H1 : (some true) = some r := by rw [if_neg (show ¬ (false = true) by decide)] at H; exact H
              clear H
              have H := H1
              clear H1
              obtain rfl := Option.some.inj H
              go_wp2_with (first | ((with_reducible refine gate_callee (f := 45) rfl ?_); refine goesL_ (some 45) rfl rfl Try.func45 (by kernel_rfl) rfl #[.int .i64 a3] rfl (by (try simp only [List.map_toArray, List.map_cons, List.map_nil]); first | done | rfl | (simp only [List.length_drop, List.length_take]; rfl)) ?_; (with_reducible refine (spindleref1_Wide.calls a3 t306 _ A15.out).mono ?_); rintro e w' ⟨rfl, ⟨nd, rfl⟩⟩; refine ⟨_, rfl, ?_⟩) | ((with_reducible refine gate_callee (f := 39) rfl ?_); refine goesL_ (some 49) rfl rfl Try.func39 (by kernel_rfl) rfl #[.int .u64 1, .int .u64 (IntKind.u64.wrap (wrap64 (t306 - 1))), .int .i64 a3] rfl (by (try simp only [List.map_toArray, List.map_cons, List.map_nil]); first | done | rfl | (simp only [List.length_drop, List.length_take]; rfl)) ?_; (with_reducible refine (word_Shl.calls 1 (IntKind.u64.wrap (wrap64 (t306 - 1))) a3 t307 _ A16.out).mono ?_); rintro e w' ⟨rfl, ⟨nd, rfl⟩⟩; refine ⟨_, rfl, ?_⟩) | ((with_reducible refine gate_callee (f := 29) rfl ?_); refine goesL_ (some 53) rfl rfl Try.func29 (by kernel_rfl) rfl #[.int .u64 a0, .int .u64 a1, .int .i64 a3] rfl (by (try simp only [List.map_toArray, List.map_cons, List.map_nil]); first | done | rfl | (simp only [List.length_drop, List.length_take]; rfl)) ?_; (with_reducible refine (word_SLess.calls a0 a1 a3 t308 _ A17.out).mono ?_); rintro e w' ⟨rfl, ⟨nd, rfl⟩⟩; refine ⟨_, rfl, ?_⟩) | ((with_reducible refine gate_callee (f := 20) rfl ?_); refine goesL_ (some 56) rfl rfl Try.func20 (by kernel_rfl) rfl #[.int .u64 a0, .int .u64 t307] rfl (by (try simp only [List.map_toArray, List.map_cons, List.map_nil]); first | done | rfl | (simp only [List.length_drop, List.length_take]; rfl)) ?_; (with_reducible refine (word_Xor.calls a0 t307 t309 _ A18.out).mono ?_); rintro e w' ⟨rfl, ⟨nd, rfl⟩⟩; refine ⟨_, rfl, ?_⟩) | ((with_reducible refine gate_callee (f := 20) rfl ?_); refine goesL_ (some 59) rfl rfl Try.func20 (by kernel_rfl) rfl #[.int .u64 a1, .int .u64 t307] rfl (by (try simp only [List.map_toArray, List.map_cons, List.map_nil]); first | done | rfl | (simp only [List.length_drop, List.length_take]; rfl)) ?_; (with_reducible refine (word_Xor.calls a1 t307 t310 _ A19.out).mono ?_); rintro e w' ⟨rfl, ⟨nd, rfl⟩⟩; refine ⟨_, rfl, ?_⟩) | ((with_reducible refine gate_callee (f := 27) rfl ?_); refine goesL_ (some 61) rfl rfl Try.func27 (by kernel_rfl) rfl #[.int .u64 t309, .int .u64 t310, .int .i64 a3] rfl (by (try simp only [List.map_toArray, List.map_cons, List.map_nil]); first | done | rfl | (simp only [List.length_drop, List.length_take]; rfl)) ?_; (with_reducible refine (word_Less.calls t309 t310 a3 t311 _ A20.out).mono ?_); rintro e w' ⟨rfl, ⟨nd, rfl⟩⟩; refine ⟨_, rfl, ?_⟩))
              go_ret
              exact ⟨by first | rfl | (simp; done) | (simp [*]; done), by repeat (first | exact Drawn0.refl _ | apply Drawn0.step)⟩
  · replace c6 := Bool.eq_false_iff.mpr c6
    subst c6
    have H1 : (some false) = some r := by rw [if_neg (show ¬ (false = true) by decide)] at H; exact H
    clear H
    have H := H1
    clear H1
    obtain rfl := Option.some.inj H
    go_enter Try.func9, Try.ntmps9
    go_wp2_with (first | ((with_reducible refine gate_callee (f := 11) rfl ?_); refine goesL_ (some 14) rfl rfl Try.func11 (by kernel_rfl) rfl #[] rfl (by (try simp only [List.map_toArray, List.map_cons, List.map_nil]); first | done | rfl | (simp only [List.length_drop, List.length_take]; rfl)) ?_; (with_reducible refine (spindlelaw1_awake.calls k  false _ A5.out).mono ?_); rintro e w' ⟨rfl, ⟨nd, rfl⟩⟩; refine ⟨_, rfl, ?_⟩))
    go_ret
    exact ⟨by first | rfl | (simp; done) | (simp [*]; done), by repeat (first | exact Drawn0.refl _ | apply Drawn0.step)⟩

/-- THE ONE PURE STATEMENT of spindlelaw1_WordOrders: yours. -/
def spindlelaw1_WordOrders.Pure : Prop := ∀ (a0 : Int) (a1 : Int) (a2 : Int) (a3 : Int), (Lit.int .u64 a0).wf = true → (Lit.int .u64 a1).wf = true → (Lit.int .u64 a2).wf = true → (Lit.int .i64 a3).wf = true → ∃ k, spindlelaw1_WordOrders.f k a0 a1 a2 a3 = some true
theorem spindlelaw1_WordOrders.walk (P : spindlelaw1_WordOrders.Pure) (a0 : Int) (a1 : Int) (a2 : Int) (a3 : Int) (w : World) (w0 : (Lit.int .u64 a0).wf = true) (w1 : (Lit.int .u64 a1).wf = true) (w2 : (Lit.int .u64 a2).wf = true) (w3 : (Lit.int .i64 a3).wf = true) :
    Calls Try.prog 9 #[.int .u64 a0, .int .u64 a1, .int .u64 a2, .int .i64 a3] w fun e w' => e = .returned (.bool true) ∧ Below w.heap.size w w' := by
  obtain ⟨k, h⟩ := P a0 a1 a2 a3 w0 w1 w2 w3
  refine (spindlelaw1_WordOrders.calls k a0 a1 a2 a3 true w h).mono ?_
  rintro e w' ⟨rfl, hd⟩
  exact ⟨rfl, hd.below⟩

/-! ### spindlelaw1_WordJoins: function 10 -/
def spindlelaw1_WordJoins.j0 : Nat → Int → Int → Bool → Bool → Bool → Option (Bool)
  | 0, _, _, _, _, _ => none
  | k + 1, x0, x1, x9, x10, x11 => if x9 = true then (if x10 = true then (if x11 = true then ((word_Add.f x0 x1).bind fun t330 => ((word_Sub.f t330 x1).bind fun t331 => (if t331 = x0 then ((word_Neg.f x0).bind fun t332 => ((word_Add.f x0 t332).bind fun t333 => (some (t333 == 0)))) else (some false)))) else (some false)) else (some false)) else (some false)
def spindlelaw1_WordJoins.f (k : Nat) (a0 : Int) (a1 : Int) (a2 : Int) : Option (Bool) := (spindlelaw1_awake.f k).bind fun t314 => (if t314 = true then ((word_Narrow.f a0 a2).bind fun t315 => ((word_Narrow.f a1 a2).bind fun t316 => ((word_Add.f a0 a1).bind fun t317 => ((word_Narrow.f t317 a2).bind fun t318 => ((word_Add.f t315 t316).bind fun t319 => ((word_Narrow.f t319 a2).bind fun t320 => ((word_Mul.f a0 a1).bind fun t321 => ((word_Narrow.f t321 a2).bind fun t322 => ((word_Mul.f t315 t316).bind fun t323 => ((word_Narrow.f t323 a2).bind fun t324 => ((word_And.f a0 a1).bind fun t325 => ((word_Or.f a0 a1).bind fun t326 => ((word_Add.f t325 t326).bind fun t327 => (if t327 = t317 then ((word_Sub.f t326 t325).bind fun t328 => ((word_Xor.f a0 a1).bind fun t329 => (spindlelaw1_WordJoins.j0 k a0 a1 (t318 == t320) (t322 == t324) (t328 == t329)))) else (spindlelaw1_WordJoins.j0 k a0 a1 (t318 == t320) (t322 == t324) false))))))))))))))) else (some false))
theorem spindlelaw1_WordJoins.mono_l : ∀ k, (∀ y0 y1 y2 y3 y4, LeO (spindlelaw1_WordJoins.j0 k y0 y1 y2 y3 y4) (spindlelaw1_WordJoins.j0 (k + 1) y0 y1 y2 y3 y4))
  | 0 => fun _ _ _ _ _ r h => by simp [spindlelaw1_WordJoins.j0] at h
  | k + 1 => by
    have ih0 := spindlelaw1_WordJoins.mono_l k
    · intro y0 y1 y2 y3 y4
      unfold spindlelaw1_WordJoins.j0
      repeat' first
      | (with_reducible exact ih0 _ _ _ _ _)
      | (with_reducible exact spindlelaw1_awake.mono _)
      | (with_reducible exact LeO.refl _)
      | (with_reducible exact LeO.none _)
      | (with_reducible refine LeO.ite ?_ ?_)
      | (with_reducible refine LeO.bind ?_ (fun _ => ?_))
      | exact ih0 _ _ _ _ _
      | exact spindlelaw1_awake.mono _
      | exact LeO.none _
      | refine LeO.ite ?_ ?_
      | refine LeO.bind ?_ (fun _ => ?_)
theorem spindlelaw1_WordJoins.mono : ∀ a0 a1 a2 k, LeO (spindlelaw1_WordJoins.f k a0 a1 a2) (spindlelaw1_WordJoins.f (k + 1) a0 a1 a2) := by
  intro a0 a1 a2 k
  have ih0 := spindlelaw1_WordJoins.mono_l k
  unfold spindlelaw1_WordJoins.f
  repeat' first
      | (with_reducible exact ih0 _ _ _ _ _)
      | (with_reducible exact spindlelaw1_awake.mono _)
      | (with_reducible exact LeO.refl _)
      | (with_reducible exact LeO.none _)
      | (with_reducible refine LeO.ite ?_ ?_)
      | (with_reducible refine LeO.bind ?_ (fun _ => ?_))
      | exact ih0 _ _ _ _ _
      | exact spindlelaw1_awake.mono _
      | exact LeO.none _
      | refine LeO.ite ?_ ?_
      | refine LeO.bind ?_ (fun _ => ?_)
set_option maxHeartbeats 8000000 in
set_option maxRecDepth 100000 in
theorem spindlelaw1_WordJoins.calls (k : Nat) (a0 : Int) (a1 : Int) (a2 : Int) (r : Bool) (w : World) (h : spindlelaw1_WordJoins.f k a0 a1 a2 = some r) :
    Calls Try.prog 10 #[.int .u64 a0, .int .u64 a1, .int .i64 a2] w fun e w' => e = .returned (.bool r) ∧ Drawn0 w w' := by
  have H : ((spindlelaw1_awake.f k).bind fun t314 => (if t314 = true then ((word_Narrow.f a0 a2).bind fun t315 => ((word_Narrow.f a1 a2).bind fun t316 => ((word_Add.f a0 a1).bind fun t317 => ((word_Narrow.f t317 a2).bind fun t318 => ((word_Add.f t315 t316).bind fun t319 => ((word_Narrow.f t319 a2).bind fun t320 => ((word_Mul.f a0 a1).bind fun t321 => ((word_Narrow.f t321 a2).bind fun t322 => ((word_Mul.f t315 t316).bind fun t323 => ((word_Narrow.f t323 a2).bind fun t324 => ((word_And.f a0 a1).bind fun t325 => ((word_Or.f a0 a1).bind fun t326 => ((word_Add.f t325 t326).bind fun t327 => (if t327 = t317 then ((word_Sub.f t326 t325).bind fun t328 => ((word_Xor.f a0 a1).bind fun t329 => (spindlelaw1_WordJoins.j0 k a0 a1 (t318 == t320) (t322 == t324) (t328 == t329)))) else (spindlelaw1_WordJoins.j0 k a0 a1 (t318 == t320) (t322 == t324) false))))))))))))))) else (some false))) = some r := h
  clear h
  replace H := Option.bind_eq_some_iff.mp H
  obtain ⟨t314, A40, H⟩ := H
  replace H : (if t314 = true then ((word_Narrow.f a0 a2).bind fun t315 => ((word_Narrow.f a1 a2).bind fun t316 => ((word_Add.f a0 a1).bind fun t317 => ((word_Narrow.f t317 a2).bind fun t318 => ((word_Add.f t315 t316).bind fun t319 => ((word_Narrow.f t319 a2).bind fun t320 => ((word_Mul.f a0 a1).bind fun t321 => ((word_Narrow.f t321 a2).bind fun t322 => ((word_Mul.f t315 t316).bind fun t323 => ((word_Narrow.f t323 a2).bind fun t324 => ((word_And.f a0 a1).bind fun t325 => ((word_Or.f a0 a1).bind fun t326 => ((word_Add.f t325 t326).bind fun t327 => (if t327 = t317 then ((word_Sub.f t326 t325).bind fun t328 => ((word_Xor.f a0 a1).bind fun t329 => (spindlelaw1_WordJoins.j0 k a0 a1 (t318 == t320) (t322 == t324) (t328 == t329)))) else (spindlelaw1_WordJoins.j0 k a0 a1 (t318 == t320) (t322 == t324) false))))))))))))))) else (some false)) = some r := H
  have A4 := Aside0.mk A40
  clear A40
  by_cases c5 : t314 = true
  · subst c5
    have H1 : ((word_Narrow.f a0 a2).bind fun t315 => ((word_Narrow.f a1 a2).bind fun t316 => ((word_Add.f a0 a1).bind fun t317 => ((word_Narrow.f t317 a2).bind fun t318 => ((word_Add.f t315 t316).bind fun t319 => ((word_Narrow.f t319 a2).bind fun t320 => ((word_Mul.f a0 a1).bind fun t321 => ((word_Narrow.f t321 a2).bind fun t322 => ((word_Mul.f t315 t316).bind fun t323 => ((word_Narrow.f t323 a2).bind fun t324 => ((word_And.f a0 a1).bind fun t325 => ((word_Or.f a0 a1).bind fun t326 => ((word_Add.f t325 t326).bind fun t327 => (if t327 = t317 then ((word_Sub.f t326 t325).bind fun t328 => ((word_Xor.f a0 a1).bind fun t329 => (spindlelaw1_WordJoins.j0 k a0 a1 (t318 == t320) (t322 == t324) (t328 == t329)))) else (spindlelaw1_WordJoins.j0 k a0 a1 (t318 == t320) (t322 == t324) false))))))))))))))) = some r := by rw [if_pos rfl] at H; exact H
    clear H
    have H := H1
    clear H1
    replace H := Option.bind_eq_some_iff.mp H
    obtain ⟨t315, A60, H⟩ := H
    replace H : ((word_Narrow.f a1 a2).bind fun t316 => ((word_Add.f a0 a1).bind fun t317 => ((word_Narrow.f t317 a2).bind fun t318 => ((word_Add.f t315 t316).bind fun t319 => ((word_Narrow.f t319 a2).bind fun t320 => ((word_Mul.f a0 a1).bind fun t321 => ((word_Narrow.f t321 a2).bind fun t322 => ((word_Mul.f t315 t316).bind fun t323 => ((word_Narrow.f t323 a2).bind fun t324 => ((word_And.f a0 a1).bind fun t325 => ((word_Or.f a0 a1).bind fun t326 => ((word_Add.f t325 t326).bind fun t327 => (if t327 = t317 then ((word_Sub.f t326 t325).bind fun t328 => ((word_Xor.f a0 a1).bind fun t329 => (spindlelaw1_WordJoins.j0 k a0 a1 (t318 == t320) (t322 == t324) (t328 == t329)))) else (spindlelaw1_WordJoins.j0 k a0 a1 (t318 == t320) (t322 == t324) false)))))))))))))) = some r := H
    have A6 := Aside0.mk A60
    clear A60
    replace H := Option.bind_eq_some_iff.mp H
    obtain ⟨t316, A70, H⟩ := H
    replace H : ((word_Add.f a0 a1).bind fun t317 => ((word_Narrow.f t317 a2).bind fun t318 => ((word_Add.f t315 t316).bind fun t319 => ((word_Narrow.f t319 a2).bind fun t320 => ((word_Mul.f a0 a1).bind fun t321 => ((word_Narrow.f t321 a2).bind fun t322 => ((word_Mul.f t315 t316).bind fun t323 => ((word_Narrow.f t323 a2).bind fun t324 => ((word_And.f a0 a1).bind fun t325 => ((word_Or.f a0 a1).bind fun t326 => ((word_Add.f t325 t326).bind fun t327 => (if t327 = t317 then ((word_Sub.f t326 t325).bind fun t328 => ((word_Xor.f a0 a1).bind fun t329 => (spindlelaw1_WordJoins.j0 k a0 a1 (t318 == t320) (t322 == t324) (t328 == t329)))) else (spindlelaw1_WordJoins.j0 k a0 a1 (t318 == t320) (t322 == t324) false))))))))))))) = some r := H
    have A7 := Aside0.mk A70
    clear A70
    replace H := Option.bind_eq_some_iff.mp H
    obtain ⟨t317, A80, H⟩ := H
    replace H : ((word_Narrow.f t317 a2).bind fun t318 => ((word_Add.f t315 t316).bind fun t319 => ((word_Narrow.f t319 a2).bind fun t320 => ((word_Mul.f a0 a1).bind fun t321 => ((word_Narrow.f t321 a2).bind fun t322 => ((word_Mul.f t315 t316).bind fun t323 => ((word_Narrow.f t323 a2).bind fun t324 => ((word_And.f a0 a1).bind fun t325 => ((word_Or.f a0 a1).bind fun t326 => ((word_Add.f t325 t326).bind fun t327 => (if t327 = t317 then ((word_Sub.f t326 t325).bind fun t328 => ((word_Xor.f a0 a1).bind fun t329 => (spindlelaw1_WordJoins.j0 k a0 a1 (t318 == t320) (t322 == t324) (t328 == t329)))) else (spindlelaw1_WordJoins.j0 k a0 a1 (t318 == t320) (t322 == t324) false)))))))))))) = some r := H
    have A8 := Aside0.mk A80
    clear A80
    replace H := Option.bind_eq_some_iff.mp H
    obtain ⟨t318, A90, H⟩ := H
    replace H : ((word_Add.f t315 t316).bind fun t319 => ((word_Narrow.f t319 a2).bind fun t320 => ((word_Mul.f a0 a1).bind fun t321 => ((word_Narrow.f t321 a2).bind fun t322 => ((word_Mul.f t315 t316).bind fun t323 => ((word_Narrow.f t323 a2).bind fun t324 => ((word_And.f a0 a1).bind fun t325 => ((word_Or.f a0 a1).bind fun t326 => ((word_Add.f t325 t326).bind fun t327 => (if t327 = t317 then ((word_Sub.f t326 t325).bind fun t328 => ((word_Xor.f a0 a1).bind fun t329 => (spindlelaw1_WordJoins.j0 k a0 a1 (t318 == t320) (t322 == t324) (t328 == t329)))) else (spindlelaw1_WordJoins.j0 k a0 a1 (t318 == t320) (t322 == t324) false))))))))))) = some r := H
    have A9 := Aside0.mk A90
    clear A90
    replace H := Option.bind_eq_some_iff.mp H
    obtain ⟨t319, A100, H⟩ := H
    replace H : ((word_Narrow.f t319 a2).bind fun t320 => ((word_Mul.f a0 a1).bind fun t321 => ((word_Narrow.f t321 a2).bind fun t322 => ((word_Mul.f t315 t316).bind fun t323 => ((word_Narrow.f t323 a2).bind fun t324 => ((word_And.f a0 a1).bind fun t325 => ((word_Or.f a0 a1).bind fun t326 => ((word_Add.f t325 t326).bind fun t327 => (if t327 = t317 then ((word_Sub.f t326 t325).bind fun t328 => ((word_Xor.f a0 a1).bind fun t329 => (spindlelaw1_WordJoins.j0 k a0 a1 (t318 == t320) (t322 == t324) (t328 == t329)))) else (spindlelaw1_WordJoins.j0 k a0 a1 (t318 == t320) (t322 == t324) false)))))))))) = some r := H
    have A10 := Aside0.mk A100
    clear A100
    replace H := Option.bind_eq_some_iff.mp H
    obtain ⟨t320, A110, H⟩ := H
    replace H : ((word_Mul.f a0 a1).bind fun t321 => ((word_Narrow.f t321 a2).bind fun t322 => ((word_Mul.f t315 t316).bind fun t323 => ((word_Narrow.f t323 a2).bind fun t324 => ((word_And.f a0 a1).bind fun t325 => ((word_Or.f a0 a1).bind fun t326 => ((word_Add.f t325 t326).bind fun t327 => (if t327 = t317 then ((word_Sub.f t326 t325).bind fun t328 => ((word_Xor.f a0 a1).bind fun t329 => (spindlelaw1_WordJoins.j0 k a0 a1 (t318 == t320) (t322 == t324) (t328 == t329)))) else (spindlelaw1_WordJoins.j0 k a0 a1 (t318 == t320) (t322 == t324) false))))))))) = some r := H
    have A11 := Aside0.mk A110
    clear A110
    replace H := Option.bind_eq_some_iff.mp H
    obtain ⟨t321, A120, H⟩ := H
    replace H : ((word_Narrow.f t321 a2).bind fun t322 => ((word_Mul.f t315 t316).bind fun t323 => ((word_Narrow.f t323 a2).bind fun t324 => ((word_And.f a0 a1).bind fun t325 => ((word_Or.f a0 a1).bind fun t326 => ((word_Add.f t325 t326).bind fun t327 => (if t327 = t317 then ((word_Sub.f t326 t325).bind fun t328 => ((word_Xor.f a0 a1).bind fun t329 => (spindlelaw1_WordJoins.j0 k a0 a1 (t318 == t320) (t322 == t324) (t328 == t329)))) else (spindlelaw1_WordJoins.j0 k a0 a1 (t318 == t320) (t322 == t324) false)))))))) = some r := H
    have A12 := Aside0.mk A120
    clear A120
    replace H := Option.bind_eq_some_iff.mp H
    obtain ⟨t322, A130, H⟩ := H
    replace H : ((word_Mul.f t315 t316).bind fun t323 => ((word_Narrow.f t323 a2).bind fun t324 => ((word_And.f a0 a1).bind fun t325 => ((word_Or.f a0 a1).bind fun t326 => ((word_Add.f t325 t326).bind fun t327 => (if t327 = t317 then ((word_Sub.f t326 t325).bind fun t328 => ((word_Xor.f a0 a1).bind fun t329 => (spindlelaw1_WordJoins.j0 k a0 a1 (t318 == t320) (t322 == t324) (t328 == t329)))) else (spindlelaw1_WordJoins.j0 k a0 a1 (t318 == t320) (t322 == t324) false))))))) = some r := H
    have A13 := Aside0.mk A130
    clear A130
    replace H := Option.bind_eq_some_iff.mp H
    obtain ⟨t323, A140, H⟩ := H
    replace H : ((word_Narrow.f t323 a2).bind fun t324 => ((word_And.f a0 a1).bind fun t325 => ((word_Or.f a0 a1).bind fun t326 => ((word_Add.f t325 t326).bind fun t327 => (if t327 = t317 then ((word_Sub.f t326 t325).bind fun t328 => ((word_Xor.f a0 a1).bind fun t329 => (spindlelaw1_WordJoins.j0 k a0 a1 (t318 == t320) (t322 == t324) (t328 == t329)))) else (spindlelaw1_WordJoins.j0 k a0 a1 (t318 == t320) (t322 == t324) false)))))) = some r := H
    have A14 := Aside0.mk A140
    clear A140
    replace H := Option.bind_eq_some_iff.mp H
    obtain ⟨t324, A150, H⟩ := H
    replace H : ((word_And.f a0 a1).bind fun t325 => ((word_Or.f a0 a1).bind fun t326 => ((word_Add.f t325 t326).bind fun t327 => (if t327 = t317 then ((word_Sub.f t326 t325).bind fun t328 => ((word_Xor.f a0 a1).bind fun t329 => (spindlelaw1_WordJoins.j0 k a0 a1 (t318 == t320) (t322 == t324) (t328 == t329)))) else (spindlelaw1_WordJoins.j0 k a0 a1 (t318 == t320) (t322 == t324) false))))) = some r := H
    have A15 := Aside0.mk A150
    clear A150
    have HC16 := Aside0.mk H
    clear H
    go_enter Try.func10, Try.ntmps10
    go_upto_region 7 with (first | ((with_reducible refine gate_callee (f := 11) rfl ?_); refine goesL_ (some 12) rfl rfl Try.func11 (by kernel_rfl) rfl #[] rfl (by (try simp only [List.map_toArray, List.map_cons, List.map_nil]); first | done | rfl | (simp only [List.length_drop, List.length_take]; rfl)) ?_; (with_reducible refine (spindlelaw1_awake.calls k  true _ A4.out).mono ?_); rintro e w' ⟨rfl, ⟨nd, rfl⟩⟩; refine ⟨_, rfl, ?_⟩) | ((with_reducible refine gate_callee (f := 21) rfl ?_); refine goesL_ (some 16) rfl rfl Try.func21 (by kernel_rfl) rfl #[.int .u64 a0, .int .i64 a2] rfl (by (try simp only [List.map_toArray, List.map_cons, List.map_nil]); first | done | rfl | (simp only [List.length_drop, List.length_take]; rfl)) ?_; (with_reducible refine (word_Narrow.calls a0 a2 t315 _ A6.out).mono ?_); rintro e w' ⟨rfl, ⟨nd, rfl⟩⟩; refine ⟨_, rfl, ?_⟩) | ((with_reducible refine gate_callee (f := 21) rfl ?_); refine goesL_ (some 19) rfl rfl Try.func21 (by kernel_rfl) rfl #[.int .u64 a1, .int .i64 a2] rfl (by (try simp only [List.map_toArray, List.map_cons, List.map_nil]); first | done | rfl | (simp only [List.length_drop, List.length_take]; rfl)) ?_; (with_reducible refine (word_Narrow.calls a1 a2 t316 _ A7.out).mono ?_); rintro e w' ⟨rfl, ⟨nd, rfl⟩⟩; refine ⟨_, rfl, ?_⟩) | ((with_reducible refine gate_callee (f := 12) rfl ?_); refine goesL_ (some 22) rfl rfl Try.func12 (by kernel_rfl) rfl #[.int .u64 a0, .int .u64 a1] rfl (by (try simp only [List.map_toArray, List.map_cons, List.map_nil]); first | done | rfl | (simp only [List.length_drop, List.length_take]; rfl)) ?_; (with_reducible refine (word_Add.calls a0 a1 t317 _ A8.out).mono ?_); rintro e w' ⟨rfl, ⟨nd, rfl⟩⟩; refine ⟨_, rfl, ?_⟩) | ((with_reducible refine gate_callee (f := 21) rfl ?_); refine goesL_ (some 24) rfl rfl Try.func21 (by kernel_rfl) rfl #[.int .u64 t317, .int .i64 a2] rfl (by (try simp only [List.map_toArray, List.map_cons, List.map_nil]); first | done | rfl | (simp only [List.length_drop, List.length_take]; rfl)) ?_; (with_reducible refine (word_Narrow.calls t317 a2 t318 _ A9.out).mono ?_); rintro e w' ⟨rfl, ⟨nd, rfl⟩⟩; refine ⟨_, rfl, ?_⟩) | ((with_reducible refine gate_callee (f := 12) rfl ?_); refine goesL_ (some 27) rfl rfl Try.func12 (by kernel_rfl) rfl #[.int .u64 t315, .int .u64 t316] rfl (by (try simp only [List.map_toArray, List.map_cons, List.map_nil]); first | done | rfl | (simp only [List.length_drop, List.length_take]; rfl)) ?_; (with_reducible refine (word_Add.calls t315 t316 t319 _ A10.out).mono ?_); rintro e w' ⟨rfl, ⟨nd, rfl⟩⟩; refine ⟨_, rfl, ?_⟩) | ((with_reducible refine gate_callee (f := 21) rfl ?_); refine goesL_ (some 29) rfl rfl Try.func21 (by kernel_rfl) rfl #[.int .u64 t319, .int .i64 a2] rfl (by (try simp only [List.map_toArray, List.map_cons, List.map_nil]); first | done | rfl | (simp only [List.length_drop, List.length_take]; rfl)) ?_; (with_reducible refine (word_Narrow.calls t319 a2 t320 _ A11.out).mono ?_); rintro e w' ⟨rfl, ⟨nd, rfl⟩⟩; refine ⟨_, rfl, ?_⟩) | ((with_reducible refine gate_callee (f := 15) rfl ?_); refine goesL_ (some 33) rfl rfl Try.func15 (by kernel_rfl) rfl #[.int .u64 a0, .int .u64 a1] rfl (by (try simp only [List.map_toArray, List.map_cons, List.map_nil]); first | done | rfl | (simp only [List.length_drop, List.length_take]; rfl)) ?_; (with_reducible refine (word_Mul.calls a0 a1 t321 _ A12.out).mono ?_); rintro e w' ⟨rfl, ⟨nd, rfl⟩⟩; refine ⟨_, rfl, ?_⟩) | ((with_reducible refine gate_callee (f := 21) rfl ?_); refine goesL_ (some 35) rfl rfl Try.func21 (by kernel_rfl) rfl #[.int .u64 t321, .int .i64 a2] rfl (by (try simp only [List.map_toArray, List.map_cons, List.map_nil]); first | done | rfl | (simp only [List.length_drop, List.length_take]; rfl)) ?_; (with_reducible refine (word_Narrow.calls t321 a2 t322 _ A13.out).mono ?_); rintro e w' ⟨rfl, ⟨nd, rfl⟩⟩; refine ⟨_, rfl, ?_⟩) | ((with_reducible refine gate_callee (f := 15) rfl ?_); refine goesL_ (some 38) rfl rfl Try.func15 (by kernel_rfl) rfl #[.int .u64 t315, .int .u64 t316] rfl (by (try simp only [List.map_toArray, List.map_cons, List.map_nil]); first | done | rfl | (simp only [List.length_drop, List.length_take]; rfl)) ?_; (with_reducible refine (word_Mul.calls t315 t316 t323 _ A14.out).mono ?_); rintro e w' ⟨rfl, ⟨nd, rfl⟩⟩; refine ⟨_, rfl, ?_⟩) | ((with_reducible refine gate_callee (f := 21) rfl ?_); refine goesL_ (some 40) rfl rfl Try.func21 (by kernel_rfl) rfl #[.int .u64 t323, .int .i64 a2] rfl (by (try simp only [List.map_toArray, List.map_cons, List.map_nil]); first | done | rfl | (simp only [List.length_drop, List.length_take]; rfl)) ?_; (with_reducible refine (word_Narrow.calls t323 a2 t324 _ A15.out).mono ?_); rintro e w' ⟨rfl, ⟨nd, rfl⟩⟩; refine ⟨_, rfl, ?_⟩))
    (try simp only [Act.put, List.setIfInBounds_toArray, List.set_cons_zero, List.set_cons_succ])
    go_cut [11] (fun v11 wc => ∃ (kq : Nat) (x11_15 : Bool), v11 = .bool x11_15 ∧ Aside0 (spindlelaw1_WordJoins.j0 kq a0 a1 (t318 == t320) (t322 == t324) x11_15 = some r) ∧ Aside0 (kq ≤ k) ∧ Drawn0 w wc)
    case first =>
      have H := HC16.out
      clear HC16
      replace H := Option.bind_eq_some_iff.mp H
      obtain ⟨t325, A170, H⟩ := H
      replace H : ((word_Or.f a0 a1).bind fun t326 => ((word_Add.f t325 t326).bind fun t327 => (if t327 = t317 then ((word_Sub.f t326 t325).bind fun t328 => ((word_Xor.f a0 a1).bind fun t329 => (spindlelaw1_WordJoins.j0 k a0 a1 (t318 == t320) (t322 == t324) (t328 == t329)))) else (spindlelaw1_WordJoins.j0 k a0 a1 (t318 == t320) (t322 == t324) false)))) = some r := H
      have A17 := Aside0.mk A170
      clear A170
      replace H := Option.bind_eq_some_iff.mp H
      obtain ⟨t326, A180, H⟩ := H
      replace H : ((word_Add.f t325 t326).bind fun t327 => (if t327 = t317 then ((word_Sub.f t326 t325).bind fun t328 => ((word_Xor.f a0 a1).bind fun t329 => (spindlelaw1_WordJoins.j0 k a0 a1 (t318 == t320) (t322 == t324) (t328 == t329)))) else (spindlelaw1_WordJoins.j0 k a0 a1 (t318 == t320) (t322 == t324) false))) = some r := H
      have A18 := Aside0.mk A180
      clear A180
      replace H := Option.bind_eq_some_iff.mp H
      obtain ⟨t327, A190, H⟩ := H
      replace H : (if t327 = t317 then ((word_Sub.f t326 t325).bind fun t328 => ((word_Xor.f a0 a1).bind fun t329 => (spindlelaw1_WordJoins.j0 k a0 a1 (t318 == t320) (t322 == t324) (t328 == t329)))) else (spindlelaw1_WordJoins.j0 k a0 a1 (t318 == t320) (t322 == t324) false)) = some r := H
      have A19 := Aside0.mk A190
      clear A190
      by_cases c20 : t327 = t317
      · rw [if_pos c20] at H
        have c20b0 : (t327 == t317) = true := beq_iff_eq.mpr c20
        have c20b1 : (t327 != t317) = false := bne_eq_false_iff_eq.mpr c20
        clear c20
        (first | rw [c20b0] | (simp only [i64_w, i32_w]; rw [c20b0]) | skip)
        replace H := Option.bind_eq_some_iff.mp H
        obtain ⟨t328, A210, H⟩ := H
        replace H : ((word_Xor.f a0 a1).bind fun t329 => (spindlelaw1_WordJoins.j0 k a0 a1 (t318 == t320) (t322 == t324) (t328 == t329))) = some r := H
        have A21 := Aside0.mk A210
        clear A210
        replace H := Option.bind_eq_some_iff.mp H
        obtain ⟨t329, A220, H⟩ := H
        replace H : (spindlelaw1_WordJoins.j0 k a0 a1 (t318 == t320) (t322 == t324) (t328 == t329)) = some r := H
        have A22 := Aside0.mk A220
        clear A220
        have H' := Aside0.mk H
        clear H
        go_wp2_with (first | ((with_reducible refine gate_callee (f := 17) rfl ?_); refine goesL_ (some 44) rfl rfl Try.func17 (by kernel_rfl) rfl #[.int .u64 a0, .int .u64 a1] rfl (by (try simp only [List.map_toArray, List.map_cons, List.map_nil]); first | done | rfl | (simp only [List.length_drop, List.length_take]; rfl)) ?_; (with_reducible refine (word_And.calls a0 a1 t325 _ A17.out).mono ?_); rintro e w' ⟨rfl, ⟨nd, rfl⟩⟩; refine ⟨_, rfl, ?_⟩) | ((with_reducible refine gate_callee (f := 19) rfl ?_); refine goesL_ (some 47) rfl rfl Try.func19 (by kernel_rfl) rfl #[.int .u64 a0, .int .u64 a1] rfl (by (try simp only [List.map_toArray, List.map_cons, List.map_nil]); first | done | rfl | (simp only [List.length_drop, List.length_take]; rfl)) ?_; (with_reducible refine (word_Or.calls a0 a1 t326 _ A18.out).mono ?_); rintro e w' ⟨rfl, ⟨nd, rfl⟩⟩; refine ⟨_, rfl, ?_⟩) | ((with_reducible refine gate_callee (f := 12) rfl ?_); refine goesL_ (some 48) rfl rfl Try.func12 (by kernel_rfl) rfl #[.int .u64 t325, .int .u64 t326] rfl (by (try simp only [List.map_toArray, List.map_cons, List.map_nil]); first | done | rfl | (simp only [List.length_drop, List.length_take]; rfl)) ?_; (with_reducible refine (word_Add.calls t325 t326 t327 _ A19.out).mono ?_); rintro e w' ⟨rfl, ⟨nd, rfl⟩⟩; refine ⟨_, rfl, ?_⟩) | ((with_reducible refine gate_callee (f := 12) rfl ?_); refine goesL_ (some 51) rfl rfl Try.func12 (by kernel_rfl) rfl #[.int .u64 a0, .int .u64 a1] rfl (by (try simp only [List.map_toArray, List.map_cons, List.map_nil]); first | done | rfl | (simp only [List.length_drop, List.length_take]; rfl)) ?_; (with_reducible refine (word_Add.calls a0 a1 t317 _ A8.out).mono ?_); rintro e w' ⟨rfl, ⟨nd, rfl⟩⟩; refine ⟨_, rfl, ?_⟩) | (go_at_call 19; (with_reducible refine (word_Or.calls a0 a1 t326 _ A18.out).mono ?_); rintro e w' ⟨rfl, ⟨nd, rfl⟩⟩) | (go_at_call 17; (with_reducible refine (word_And.calls a0 a1 t325 _ A17.out).mono ?_); rintro e w' ⟨rfl, ⟨nd, rfl⟩⟩) | (go_at_call 13; (with_reducible refine (word_Sub.calls t326 t325 t328 _ A21.out).mono ?_); rintro e w' ⟨rfl, ⟨nd, rfl⟩⟩) | (go_at_call 20; (with_reducible refine (word_Xor.calls a0 a1 t329 _ A22.out).mono ?_); rintro e w' ⟨rfl, ⟨nd, rfl⟩⟩))
        go_meet
        case rel => exact ⟨_, ((t328 == t329)), (by first | rfl | (simp; done) | (simp [*]; done)), H', ⟨by first | omega | exact Nat.le_refl _⟩, by repeat (first | exact Drawn0.refl _ | apply Drawn0.step)⟩
      · rw [if_neg c20] at H
        have c20b0 : (t327 == t317) = false := beq_eq_false_iff_ne.mpr c20
        have c20b1 : (t327 != t317) = true := bne_iff_ne.mpr c20
        (first | rw [c20b0] | (simp only [i64_w, i32_w]; rw [c20b0]) | skip)
        have H' := Aside0.mk H
        clear H
        go_wp2_with (first | ((with_reducible refine gate_callee (f := 17) rfl ?_); refine goesL_ (some 44) rfl rfl Try.func17 (by kernel_rfl) rfl #[.int .u64 a0, .int .u64 a1] rfl (by (try simp only [List.map_toArray, List.map_cons, List.map_nil]); first | done | rfl | (simp only [List.length_drop, List.length_take]; rfl)) ?_; (with_reducible refine (word_And.calls a0 a1 t325 _ A17.out).mono ?_); rintro e w' ⟨rfl, ⟨nd, rfl⟩⟩; refine ⟨_, rfl, ?_⟩) | ((with_reducible refine gate_callee (f := 19) rfl ?_); refine goesL_ (some 47) rfl rfl Try.func19 (by kernel_rfl) rfl #[.int .u64 a0, .int .u64 a1] rfl (by (try simp only [List.map_toArray, List.map_cons, List.map_nil]); first | done | rfl | (simp only [List.length_drop, List.length_take]; rfl)) ?_; (with_reducible refine (word_Or.calls a0 a1 t326 _ A18.out).mono ?_); rintro e w' ⟨rfl, ⟨nd, rfl⟩⟩; refine ⟨_, rfl, ?_⟩) | ((with_reducible refine gate_callee (f := 12) rfl ?_); refine goesL_ (some 48) rfl rfl Try.func12 (by kernel_rfl) rfl #[.int .u64 t325, .int .u64 t326] rfl (by (try simp only [List.map_toArray, List.map_cons, List.map_nil]); first | done | rfl | (simp only [List.length_drop, List.length_take]; rfl)) ?_; (with_reducible refine (word_Add.calls t325 t326 t327 _ A19.out).mono ?_); rintro e w' ⟨rfl, ⟨nd, rfl⟩⟩; refine ⟨_, rfl, ?_⟩) | ((with_reducible refine gate_callee (f := 12) rfl ?_); refine goesL_ (some 51) rfl rfl Try.func12 (by kernel_rfl) rfl #[.int .u64 a0, .int .u64 a1] rfl (by (try simp only [List.map_toArray, List.map_cons, List.map_nil]); first | done | rfl | (simp only [List.length_drop, List.length_take]; rfl)) ?_; (with_reducible refine (word_Add.calls a0 a1 t317 _ A8.out).mono ?_); rintro e w' ⟨rfl, ⟨nd, rfl⟩⟩; refine ⟨_, rfl, ?_⟩))
        go_meet
        case rel => exact ⟨_, (false), (by first | rfl | (simp; done) | (simp [*]; done)), H', ⟨by first | omega | exact Nat.le_refl _⟩, by repeat (first | exact Drawn0.refl _ | apply Drawn0.step)⟩
    case rest =>
      clear HC16
      try clear c1
      try clear c2
      try clear p2
      try clear c5
      try clear c10
      try clear c11
      try clear c12
      try clear c15
      try clear c17
      try clear c19
      try clear c20
      try clear c20b0
      try clear c20b1
      try clear c21
      obtain ⟨kq, x11_15, rfl, HA, HJ15, ⟨mc15, rfl⟩⟩ := hcut
      cases kq with
      | zero => exact absurd HA.out (by simp [spindlelaw1_WordJoins.j0])
      | succ kj15 =>
        have H := HA.out
        clear HA
        simp only [spindlelaw1_WordJoins.j0] at H
        by_cases c23 : (t318 == t320) = true
        · rw [if_pos c23] at H
          have c23b0 : (t318 == t320) = true := c23
          (try (have c23b1 : decide (t318 = t320) = true := by simpa using c23))
          (try (have c23b2 : (t318 == t320) = true := by simpa using c23))
          clear c23
          by_cases c24 : (t322 == t324) = true
          · rw [if_pos c24] at H
            have c24b0 : (t322 == t324) = true := c24
            (try (have c24b1 : decide (t322 = t324) = true := by simpa using c24))
            (try (have c24b2 : (t322 == t324) = true := by simpa using c24))
            clear c24
            by_cases c25 : x11_15 = true
            · subst c25
              have H1 : ((word_Add.f a0 a1).bind fun t330 => ((word_Sub.f t330 a1).bind fun t331 => (if t331 = a0 then ((word_Neg.f a0).bind fun t332 => ((word_Add.f a0 t332).bind fun t333 => (some (t333 == 0)))) else (some false)))) = some r := by rw [if_pos rfl] at H; exact H
              clear H
              have H := H1
              clear H1
              replace H := Option.bind_eq_some_iff.mp H
              obtain ⟨t330, A260, H⟩ := H
              replace H : ((word_Sub.f t330 a1).bind fun t331 => (if t331 = a0 then ((word_Neg.f a0).bind fun t332 => ((word_Add.f a0 t332).bind fun t333 => (some (t333 == 0)))) else (some false))) = some r := H
              have A26 := Aside0.mk A260
              clear A260
              replace H := Option.bind_eq_some_iff.mp H
              obtain ⟨t331, A270, H⟩ := H
              replace H : (if t331 = a0 then ((word_Neg.f a0).bind fun t332 => ((word_Add.f a0 t332).bind fun t333 => (some (t333 == 0)))) else (some false)) = some r := H
              have A27 := Aside0.mk A270
              clear A270
              by_cases c28 : t331 = a0
              · rw [if_pos c28] at H
                have c28b0 : (t331 == a0) = true := beq_iff_eq.mpr c28
                have c28b1 : (t331 != a0) = false := bne_eq_false_iff_eq.mpr c28
                clear c28
                replace H := Option.bind_eq_some_iff.mp H
                obtain ⟨t332, A290, H⟩ := H
                replace H : ((word_Add.f a0 t332).bind fun t333 => (some (t333 == 0))) = some r := H
                have A29 := Aside0.mk A290
                clear A290
                replace H := Option.bind_eq_some_iff.mp H
                obtain ⟨t333, A300, H⟩ := H
                replace H : (some (t333 == 0)) = some r := H
                have A30 := Aside0.mk A300
                clear A300
                obtain rfl := Option.some.inj H
                go_wp2_with (first | (go_at_call 12; (with_reducible refine (word_Add.calls a0 a1 t330 _ A26.out).mono ?_); rintro e w' ⟨rfl, ⟨nd, rfl⟩⟩) | (go_at_call 13; (with_reducible refine (word_Sub.calls t330 a1 t331 _ A27.out).mono ?_); rintro e w' ⟨rfl, ⟨nd, rfl⟩⟩) | (go_at_call 14; (with_reducible refine (word_Neg.calls a0 t332 _ A29.out).mono ?_); rintro e w' ⟨rfl, ⟨nd, rfl⟩⟩) | (go_at_call 12; (with_reducible refine (word_Add.calls a0 t332 t333 _ A30.out).mono ?_); rintro e w' ⟨rfl, ⟨nd, rfl⟩⟩))
                go_ret
                exact ⟨by first | rfl | (simp; done) | (simp [*]; done), by repeat (first | exact Drawn0.refl _ | apply Drawn0.step)⟩
              · rw [if_neg c28] at H
                have c28b0 : (t331 == a0) = false := beq_eq_false_iff_ne.mpr c28
                have c28b1 : (t331 != a0) = true := bne_iff_ne.mpr c28
                obtain rfl := Option.some.inj H
                go_wp2_with (first | (go_at_call 12; (with_reducible refine (word_Add.calls a0 a1 t330 _ A26.out).mono ?_); rintro e w' ⟨rfl, ⟨nd, rfl⟩⟩) | (go_at_call 13; (with_reducible refine (word_Sub.calls t330 a1 t331 _ A27.out).mono ?_); rintro e w' ⟨rfl, ⟨nd, rfl⟩⟩))
                go_ret
                exact ⟨by first | rfl | (simp; done) | (simp [*]; done), by repeat (first | exact Drawn0.refl _ | apply Drawn0.step)⟩
            · replace c25 := Bool.eq_false_iff.mpr c25
              subst c25
              have H1 : (some false) = some r := by rw [if_neg (show ¬ (false = true) by decide)] at H; exact H
              clear H
              have H := H1
              clear H1
              obtain rfl := Option.some.inj H
              go_wp2
              go_ret
              exact ⟨by first | rfl | (simp; done) | (simp [*]; done), by repeat (first | exact Drawn0.refl _ | apply Drawn0.step)⟩
          · rw [if_neg c24] at H
            have c24b0 : (t322 == t324) = false := by simpa using c24
            (try (have c24b1 : decide (t322 = t324) = false := by simpa using c24))
            (try (have c24b2 : (t322 == t324) = false := by simpa using c24))
            (try (have c24b3 : ¬ (t322 = t324) := by simpa using c24))
            clear c24
            obtain rfl := Option.some.inj H
            go_wp2
            go_ret
            exact ⟨by first | rfl | (simp; done) | (simp [*]; done), by repeat (first | exact Drawn0.refl _ | apply Drawn0.step)⟩
        · rw [if_neg c23] at H
          have c23b0 : (t318 == t320) = false := by simpa using c23
          (try (have c23b1 : decide (t318 = t320) = false := by simpa using c23))
          (try (have c23b2 : (t318 == t320) = false := by simpa using c23))
          (try (have c23b3 : ¬ (t318 = t320) := by simpa using c23))
          clear c23
          obtain rfl := Option.some.inj H
          go_wp2
          go_ret
          exact ⟨by first | rfl | (simp; done) | (simp [*]; done), by repeat (first | exact Drawn0.refl _ | apply Drawn0.step)⟩
  · replace c5 := Bool.eq_false_iff.mpr c5
    subst c5
    have H1 : (some false) = some r := by rw [if_neg (show ¬ (false = true) by decide)] at H; exact H
    clear H
    have H := H1
    clear H1
    obtain rfl := Option.some.inj H
    go_enter Try.func10, Try.ntmps10
    go_wp2_with (first | ((with_reducible refine gate_callee (f := 11) rfl ?_); refine goesL_ (some 12) rfl rfl Try.func11 (by kernel_rfl) rfl #[] rfl (by (try simp only [List.map_toArray, List.map_cons, List.map_nil]); first | done | rfl | (simp only [List.length_drop, List.length_take]; rfl)) ?_; (with_reducible refine (spindlelaw1_awake.calls k  false _ A4.out).mono ?_); rintro e w' ⟨rfl, ⟨nd, rfl⟩⟩; refine ⟨_, rfl, ?_⟩))
    go_ret
    exact ⟨by first | rfl | (simp; done) | (simp [*]; done), by repeat (first | exact Drawn0.refl _ | apply Drawn0.step)⟩

/-- THE ONE PURE STATEMENT of spindlelaw1_WordJoins: yours. -/
def spindlelaw1_WordJoins.Pure : Prop := ∀ (a0 : Int) (a1 : Int) (a2 : Int), (Lit.int .u64 a0).wf = true → (Lit.int .u64 a1).wf = true → (Lit.int .i64 a2).wf = true → ∃ k, spindlelaw1_WordJoins.f k a0 a1 a2 = some true
theorem spindlelaw1_WordJoins.walk (P : spindlelaw1_WordJoins.Pure) (a0 : Int) (a1 : Int) (a2 : Int) (w : World) (w0 : (Lit.int .u64 a0).wf = true) (w1 : (Lit.int .u64 a1).wf = true) (w2 : (Lit.int .i64 a2).wf = true) :
    Calls Try.prog 10 #[.int .u64 a0, .int .u64 a1, .int .i64 a2] w fun e w' => e = .returned (.bool true) ∧ Below w.heap.size w w' := by
  obtain ⟨k, h⟩ := P a0 a1 a2 w0 w1 w2
  refine (spindlelaw1_WordJoins.calls k a0 a1 a2 true w h).mono ?_
  rintro e w' ⟨rfl, hd⟩
  exact ⟨rfl, hd.below⟩

end Go.Proofs.Ytliijfogmendmaa.PW
