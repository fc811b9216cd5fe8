-- Printed by this session's own program (wip/tools/myprint.py) over the kit's print; the parts that are marked 'by hand' are this session's.
import Derived.Test.YtliijfogmendmaaPWx0
import Derived.Test.YtliijfogmendmaaPWx1
import Derived.Test.YtliijfogmendmaaPWx2
import Derived.Test.YtliijfogmendmaaPWx3
import Derived.Test.YtliijfogmendmaaPWx4
import Derived.Test.YtliijfogmendmaaPWx5
namespace Go.Proofs.Ytliijfogmendmaa.PW
open Go.RowKit Go.Proofs.YtliijfogmendmaaW.PrintWords Go.Proofs.YtliijfogmendmaaW.PrintLast Go.Proofs.YtliijfogmendmaaW.PrintMore
attribute [local go_sem] max2_int min2_int max_two min_two max_three min_three max_four min_four   -- for this text's walks alone
set_option linter.unusedVariables false
set_option linter.unusedSimpArgs false

/-! ### spindlelaw1_WordDivides: function 6 -/
mutual
def spindlelaw1_WordDivides.j0 : Nat → Int → Int → Int → Int → Int → Bool → Option (Bool)
  | 0, _, _, _, _, _, _ => none
  | k + 1, x2, x7, x8, x11, x12, x73 => if x73 = true then (some false) else ((word_Mul.f x11 x8).bind fun t256 => ((word_Add.f t256 x12).bind fun t257 => ((word_Narrow.f t257 x2).bind fun t258 => (if t258 = x7 then ((word_SLess.f x12 0 x2).bind fun t259 => (if t259 = true then ((word_Neg.f x12).bind fun t260 => ((word_Narrow.f t260 x2).bind fun t261 => (spindlelaw1_WordDivides.j1 k x2 x7 x8 x12 t261))) else (spindlelaw1_WordDivides.j1 k x2 x7 x8 x12 x12))) else (some false)))))
def spindlelaw1_WordDivides.j1 : Nat → Int → Int → Int → Int → Int → Option (Bool)
  | 0, _, _, _, _, _ => none
  | k + 1, x2, x7, x8, x12, x13 => (word_SLess.f x8 0 x2).bind fun t262 => (if t262 = true then ((word_Neg.f x8).bind fun t263 => ((word_Narrow.f t263 x2).bind fun t264 => (if x13 < t264 then (if x12 = 0 then (some true) else ((word_SLess.f x12 0 x2).bind fun t265 => ((word_SLess.f x7 0 x2).bind fun t266 => (some (t265 == t266))))) else (some false)))) else (if x13 < x8 then (if x12 = 0 then (some true) else ((word_SLess.f x12 0 x2).bind fun t267 => ((word_SLess.f x7 0 x2).bind fun t268 => (some (t267 == t268))))) else (some false)))
end
def spindlelaw1_WordDivides.f (k : Nat) (a0 : Int) (a1 : Int) (a2 : Int) : Option (Bool) := (spindlelaw1_awake.f k).bind fun t247 => (if t247 = true then ((word_Narrow.f a0 a2).bind fun t248 => ((word_Narrow.f a1 a2).bind fun t249 => ((word_Div.f a0 a1 a2).bind fun t250 => ((word_Mod.f a0 a1 a2).bind fun t251 => ((word_SDiv.f a0 a1 a2).bind fun t252 => ((word_SMod.f a0 a1 a2).bind fun t253 => (if t249 = 0 then (if t250 = 0 then (if t251 = t248 then (if t252 = 0 then (some (t253 == t248)) else (some false)) else (some false)) else (some false)) else (if t251 ≥ t249 then (spindlelaw1_WordDivides.j0 k a2 t248 t249 t252 t253 true) else (if t250 > t248 then (spindlelaw1_WordDivides.j0 k a2 t248 t249 t252 t253 true) else ((word_Mul.f t250 t249).bind fun t254 => ((word_Add.f t254 t251).bind fun t255 => (spindlelaw1_WordDivides.j0 k a2 t248 t249 t252 t253 (t255 != t248))))))))))))) else (some false))
theorem spindlelaw1_WordDivides.mono_l : ∀ k, (∀ y0 y1 y2 y3 y4 y5, LeO (spindlelaw1_WordDivides.j0 k y0 y1 y2 y3 y4 y5) (spindlelaw1_WordDivides.j0 (k + 1) y0 y1 y2 y3 y4 y5)) ∧ (∀ y0 y1 y2 y3 y4, LeO (spindlelaw1_WordDivides.j1 k y0 y1 y2 y3 y4) (spindlelaw1_WordDivides.j1 (k + 1) y0 y1 y2 y3 y4))
  | 0 => ⟨fun _ _ _ _ _ _ r h => by simp [spindlelaw1_WordDivides.j0] at h, fun _ _ _ _ _ r h => by simp [spindlelaw1_WordDivides.j1] at h⟩
  | k + 1 => by
    obtain ⟨ih0, ih1⟩ := spindlelaw1_WordDivides.mono_l k
    refine ⟨?_, ?_⟩
    · intro y0 y1 y2 y3 y4 y5
      unfold spindlelaw1_WordDivides.j0
      repeat' first
      | (with_reducible exact ih0 _ _ _ _ _ _)
      | (with_reducible exact ih1 _ _ _ _ _)
      | (with_reducible exact spindlelaw1_awake.mono _)
      | (with_reducible exact LeO.refl _)
      | (with_reducible exact LeO.none _)
      | (with_reducible refine LeO.ite ?_ ?_)
      | (with_reducible refine LeO.bind ?_ (fun _ => ?_))
      | exact ih0 _ _ _ _ _ _
      | exact ih1 _ _ _ _ _
      | exact spindlelaw1_awake.mono _
      | exact LeO.none _
      | refine LeO.ite ?_ ?_
      | refine LeO.bind ?_ (fun _ => ?_)
    · intro y0 y1 y2 y3 y4
      unfold spindlelaw1_WordDivides.j1
      repeat' first
      | (with_reducible exact ih0 _ _ _ _ _ _)
      | (with_reducible exact ih1 _ _ _ _ _)
      | (with_reducible exact spindlelaw1_awake.mono _)
      | (with_reducible exact LeO.refl _)
      | (with_reducible exact LeO.none _)
      | (with_reducible refine LeO.ite ?_ ?_)
      | (with_reducible refine LeO.bind ?_ (fun _ => ?_))
      | exact ih0 _ _ _ _ _ _
      | exact ih1 _ _ _ _ _
      | exact spindlelaw1_awake.mono _
      | exact LeO.none _
      | refine LeO.ite ?_ ?_
      | refine LeO.bind ?_ (fun _ => ?_)
theorem spindlelaw1_WordDivides.mono : ∀ a0 a1 a2 k, LeO (spindlelaw1_WordDivides.f k a0 a1 a2) (spindlelaw1_WordDivides.f (k + 1) a0 a1 a2) := by
  intro a0 a1 a2 k
  obtain ⟨ih0, ih1⟩ := spindlelaw1_WordDivides.mono_l k
  unfold spindlelaw1_WordDivides.f
  repeat' first
      | (with_reducible exact ih0 _ _ _ _ _ _)
      | (with_reducible exact ih1 _ _ _ _ _)
      | (with_reducible exact spindlelaw1_awake.mono _)
      | (with_reducible exact LeO.refl _)
      | (with_reducible exact LeO.none _)
      | (with_reducible refine LeO.ite ?_ ?_)
      | (with_reducible refine LeO.bind ?_ (fun _ => ?_))
      | exact ih0 _ _ _ _ _ _
      | exact ih1 _ _ _ _ _
      | exact spindlelaw1_awake.mono _
      | exact LeO.none _
      | refine LeO.ite ?_ ?_
      | refine LeO.bind ?_ (fun _ => ?_)
set_option maxHeartbeats 8000000 in
set_option maxRecDepth 100000 in
theorem spindlelaw1_WordDivides.calls (k : Nat) (a0 : Int) (a1 : Int) (a2 : Int) (r : Bool) (w : World) (h : spindlelaw1_WordDivides.f k a0 a1 a2 = some r) :
    Calls Try.prog 6 #[.int .u64 a0, .int .u64 a1, .int .i64 a2] w fun e w' => e = .returned (.bool r) ∧ Drawn0 w w' := by
  have H : ((spindlelaw1_awake.f k).bind fun t247 => (if t247 = true then ((word_Narrow.f a0 a2).bind fun t248 => ((word_Narrow.f a1 a2).bind fun t249 => ((word_Div.f a0 a1 a2).bind fun t250 => ((word_Mod.f a0 a1 a2).bind fun t251 => ((word_SDiv.f a0 a1 a2).bind fun t252 => ((word_SMod.f a0 a1 a2).bind fun t253 => (if t249 = 0 then (if t250 = 0 then (if t251 = t248 then (if t252 = 0 then (some (t253 == t248)) else (some false)) else (some false)) else (some false)) else (if t251 ≥ t249 then (spindlelaw1_WordDivides.j0 k a2 t248 t249 t252 t253 true) else (if t250 > t248 then (spindlelaw1_WordDivides.j0 k a2 t248 t249 t252 t253 true) else ((word_Mul.f t250 t249).bind fun t254 => ((word_Add.f t254 t251).bind fun t255 => (spindlelaw1_WordDivides.j0 k a2 t248 t249 t252 t253 (t255 != t248))))))))))))) else (some false))) = some r := h
  clear h
  replace H := Option.bind_eq_some_iff.mp H
  obtain ⟨t247, A40, H⟩ := H
  replace H : (if t247 = true then ((word_Narrow.f a0 a2).bind fun t248 => ((word_Narrow.f a1 a2).bind fun t249 => ((word_Div.f a0 a1 a2).bind fun t250 => ((word_Mod.f a0 a1 a2).bind fun t251 => ((word_SDiv.f a0 a1 a2).bind fun t252 => ((word_SMod.f a0 a1 a2).bind fun t253 => (if t249 = 0 then (if t250 = 0 then (if t251 = t248 then (if t252 = 0 then (some (t253 == t248)) else (some false)) else (some false)) else (some false)) else (if t251 ≥ t249 then (spindlelaw1_WordDivides.j0 k a2 t248 t249 t252 t253 true) else (if t250 > t248 then (spindlelaw1_WordDivides.j0 k a2 t248 t249 t252 t253 true) else ((word_Mul.f t250 t249).bind fun t254 => ((word_Add.f t254 t251).bind fun t255 => (spindlelaw1_WordDivides.j0 k a2 t248 t249 t252 t253 (t255 != t248))))))))))))) else (some false)) = some r := H
  have A4 := Aside0.mk A40
  clear A40
  by_cases c5 : t247 = true
  · subst c5
    have H1 : ((word_Narrow.f a0 a2).bind fun t248 => ((word_Narrow.f a1 a2).bind fun t249 => ((word_Div.f a0 a1 a2).bind fun t250 => ((word_Mod.f a0 a1 a2).bind fun t251 => ((word_SDiv.f a0 a1 a2).bind fun t252 => ((word_SMod.f a0 a1 a2).bind fun t253 => (if t249 = 0 then (if t250 = 0 then (if t251 = t248 then (if t252 = 0 then (some (t253 == t248)) else (some false)) else (some false)) else (some false)) else (if t251 ≥ t249 then (spindlelaw1_WordDivides.j0 k a2 t248 t249 t252 t253 true) else (if t250 > t248 then (spindlelaw1_WordDivides.j0 k a2 t248 t249 t252 t253 true) else ((word_Mul.f t250 t249).bind fun t254 => ((word_Add.f t254 t251).bind fun t255 => (spindlelaw1_WordDivides.j0 k a2 t248 t249 t252 t253 (t255 != t248))))))))))))) = some r := by rw [if_pos rfl] at H; exact H
    clear H
    have H := H1
    clear H1
    replace H := Option.bind_eq_some_iff.mp H
    obtain ⟨t248, A60, H⟩ := H
    replace H : ((word_Narrow.f a1 a2).bind fun t249 => ((word_Div.f a0 a1 a2).bind fun t250 => ((word_Mod.f a0 a1 a2).bind fun t251 => ((word_SDiv.f a0 a1 a2).bind fun t252 => ((word_SMod.f a0 a1 a2).bind fun t253 => (if t249 = 0 then (if t250 = 0 then (if t251 = t248 then (if t252 = 0 then (some (t253 == t248)) else (some false)) else (some false)) else (some false)) else (if t251 ≥ t249 then (spindlelaw1_WordDivides.j0 k a2 t248 t249 t252 t253 true) else (if t250 > t248 then (spindlelaw1_WordDivides.j0 k a2 t248 t249 t252 t253 true) else ((word_Mul.f t250 t249).bind fun t254 => ((word_Add.f t254 t251).bind fun t255 => (spindlelaw1_WordDivides.j0 k a2 t248 t249 t252 t253 (t255 != t248)))))))))))) = some r := H
    have A6 := Aside0.mk A60
    clear A60
    replace H := Option.bind_eq_some_iff.mp H
    obtain ⟨t249, A70, H⟩ := H
    replace H : ((word_Div.f a0 a1 a2).bind fun t250 => ((word_Mod.f a0 a1 a2).bind fun t251 => ((word_SDiv.f a0 a1 a2).bind fun t252 => ((word_SMod.f a0 a1 a2).bind fun t253 => (if t249 = 0 then (if t250 = 0 then (if t251 = t248 then (if t252 = 0 then (some (t253 == t248)) else (some false)) else (some false)) else (some false)) else (if t251 ≥ t249 then (spindlelaw1_WordDivides.j0 k a2 t248 t249 t252 t253 true) else (if t250 > t248 then (spindlelaw1_WordDivides.j0 k a2 t248 t249 t252 t253 true) else ((word_Mul.f t250 t249).bind fun t254 => ((word_Add.f t254 t251).bind fun t255 => (spindlelaw1_WordDivides.j0 k a2 t248 t249 t252 t253 (t255 != t248))))))))))) = some r := H
    have A7 := Aside0.mk A70
    clear A70
    replace H := Option.bind_eq_some_iff.mp H
    obtain ⟨t250, A80, H⟩ := H
    replace H : ((word_Mod.f a0 a1 a2).bind fun t251 => ((word_SDiv.f a0 a1 a2).bind fun t252 => ((word_SMod.f a0 a1 a2).bind fun t253 => (if t249 = 0 then (if t250 = 0 then (if t251 = t248 then (if t252 = 0 then (some (t253 == t248)) else (some false)) else (some false)) else (some false)) else (if t251 ≥ t249 then (spindlelaw1_WordDivides.j0 k a2 t248 t249 t252 t253 true) else (if t250 > t248 then (spindlelaw1_WordDivides.j0 k a2 t248 t249 t252 t253 true) else ((word_Mul.f t250 t249).bind fun t254 => ((word_Add.f t254 t251).bind fun t255 => (spindlelaw1_WordDivides.j0 k a2 t248 t249 t252 t253 (t255 != t248)))))))))) = some r := H
    have A8 := Aside0.mk A80
    clear A80
    replace H := Option.bind_eq_some_iff.mp H
    obtain ⟨t251, A90, H⟩ := H
    replace H : ((word_SDiv.f a0 a1 a2).bind fun t252 => ((word_SMod.f a0 a1 a2).bind fun t253 => (if t249 = 0 then (if t250 = 0 then (if t251 = t248 then (if t252 = 0 then (some (t253 == t248)) else (some false)) else (some false)) else (some false)) else (if t251 ≥ t249 then (spindlelaw1_WordDivides.j0 k a2 t248 t249 t252 t253 true) else (if t250 > t248 then (spindlelaw1_WordDivides.j0 k a2 t248 t249 t252 t253 true) else ((word_Mul.f t250 t249).bind fun t254 => ((word_Add.f t254 t251).bind fun t255 => (spindlelaw1_WordDivides.j0 k a2 t248 t249 t252 t253 (t255 != t248))))))))) = some r := H
    have A9 := Aside0.mk A90
    clear A90
    replace H := Option.bind_eq_some_iff.mp H
    obtain ⟨t252, A100, H⟩ := H
    replace H : ((word_SMod.f a0 a1 a2).bind fun t253 => (if t249 = 0 then (if t250 = 0 then (if t251 = t248 then (if t252 = 0 then (some (t253 == t248)) else (some false)) else (some false)) else (some false)) else (if t251 ≥ t249 then (spindlelaw1_WordDivides.j0 k a2 t248 t249 t252 t253 true) else (if t250 > t248 then (spindlelaw1_WordDivides.j0 k a2 t248 t249 t252 t253 true) else ((word_Mul.f t250 t249).bind fun t254 => ((word_Add.f t254 t251).bind fun t255 => (spindlelaw1_WordDivides.j0 k a2 t248 t249 t252 t253 (t255 != t248)))))))) = some r := H
    have A10 := Aside0.mk A100
    clear A100
    replace H := Option.bind_eq_some_iff.mp H
    obtain ⟨t253, A110, H⟩ := H
    replace H : (if t249 = 0 then (if t250 = 0 then (if t251 = t248 then (if t252 = 0 then (some (t253 == t248)) else (some false)) else (some false)) else (some false)) else (if t251 ≥ t249 then (spindlelaw1_WordDivides.j0 k a2 t248 t249 t252 t253 true) else (if t250 > t248 then (spindlelaw1_WordDivides.j0 k a2 t248 t249 t252 t253 true) else ((word_Mul.f t250 t249).bind fun t254 => ((word_Add.f t254 t251).bind fun t255 => (spindlelaw1_WordDivides.j0 k a2 t248 t249 t252 t253 (t255 != t248))))))) = some r := H
    have A11 := Aside0.mk A110
    clear A110
    by_cases c12 : t249 = 0
    · rw [if_pos c12] at H
      have c12b0 : (t249 == 0) = true := beq_iff_eq.mpr c12
      have c12b1 : (t249 != 0) = false := bne_eq_false_iff_eq.mpr c12
      clear c12
      by_cases c13 : t250 = 0
      · rw [if_pos c13] at H
        have c13b0 : (t250 == 0) = true := beq_iff_eq.mpr c13
        have c13b1 : (t250 != 0) = false := bne_eq_false_iff_eq.mpr c13
        clear c13
        by_cases c14 : t251 = t248
        · rw [if_pos c14] at H
          have c14b0 : (t251 == t248) = true := beq_iff_eq.mpr c14
          have c14b1 : (t251 != t248) = false := bne_eq_false_iff_eq.mpr c14
          clear c14
          by_cases c15 : t252 = 0
          · rw [if_pos c15] at H
            have c15b0 : (t252 == 0) = true := beq_iff_eq.mpr c15
            have c15b1 : (t252 != 0) = false := bne_eq_false_iff_eq.mpr c15
            clear c15
            obtain rfl := Option.some.inj H
            go_enter Try.func6, Try.ntmps6
            go_wp2_with (first | ((with_reducible refine gate_callee (f := 11) rfl ?_); refine goesL_ (some 15) rfl rfl Try.func11 (by kernel_rfl) rfl #[] rfl (by (try simp only [List.map_toArray, List.map_cons, List.map_nil]); first | done | rfl | (simp only [List.length_drop, List.length_take]; rfl)) ?_; (with_reducible refine (spindlelaw1_awake.calls k  true _ A4.out).mono ?_); rintro e w' ⟨rfl, ⟨nd, rfl⟩⟩; refine ⟨_, rfl, ?_⟩) | ((with_reducible refine gate_callee (f := 21) rfl ?_); refine goesL_ (some 19) rfl rfl Try.func21 (by kernel_rfl) rfl #[.int .u64 a0, .int .i64 a2] rfl (by (try simp only [List.map_toArray, List.map_cons, List.map_nil]); first | done | rfl | (simp only [List.length_drop, List.length_take]; rfl)) ?_; (with_reducible refine (word_Narrow.calls a0 a2 t248 _ A6.out).mono ?_); rintro e w' ⟨rfl, ⟨nd, rfl⟩⟩; refine ⟨_, rfl, ?_⟩) | ((with_reducible refine gate_callee (f := 21) rfl ?_); refine goesL_ (some 22) rfl rfl Try.func21 (by kernel_rfl) rfl #[.int .u64 a1, .int .i64 a2] rfl (by (try simp only [List.map_toArray, List.map_cons, List.map_nil]); first | done | rfl | (simp only [List.length_drop, List.length_take]; rfl)) ?_; (with_reducible refine (word_Narrow.calls a1 a2 t249 _ A7.out).mono ?_); rintro e w' ⟨rfl, ⟨nd, rfl⟩⟩; refine ⟨_, rfl, ?_⟩) | ((with_reducible refine gate_callee (f := 31) rfl ?_); refine goesL_ (some 26) rfl rfl Try.func31 (by kernel_rfl) rfl #[.int .u64 a0, .int .u64 a1, .int .i64 a2] rfl (by (try simp only [List.map_toArray, List.map_cons, List.map_nil]); first | done | rfl | (simp only [List.length_drop, List.length_take]; rfl)) ?_; (with_reducible refine (word_Div.calls a0 a1 a2 t250 _ A8.out).mono ?_); rintro e w' ⟨rfl, ⟨nd, rfl⟩⟩; refine ⟨_, rfl, ?_⟩) | ((with_reducible refine gate_callee (f := 33) rfl ?_); refine goesL_ (some 30) rfl rfl Try.func33 (by kernel_rfl) rfl #[.int .u64 a0, .int .u64 a1, .int .i64 a2] rfl (by (try simp only [List.map_toArray, List.map_cons, List.map_nil]); first | done | rfl | (simp only [List.length_drop, List.length_take]; rfl)) ?_; (with_reducible refine (word_Mod.calls a0 a1 a2 t251 _ A9.out).mono ?_); rintro e w' ⟨rfl, ⟨nd, rfl⟩⟩; refine ⟨_, rfl, ?_⟩) | ((with_reducible refine gate_callee (f := 35) rfl ?_); refine goesL_ (some 34) rfl rfl Try.func35 (by kernel_rfl) rfl #[.int .u64 a0, .int .u64 a1, .int .i64 a2] rfl (by (try simp only [List.map_toArray, List.map_cons, List.map_nil]); first | done | rfl | (simp only [List.length_drop, List.length_take]; rfl)) ?_; (with_reducible refine (word_SDiv.calls a0 a1 a2 t252 _ A10.out).mono ?_); rintro e w' ⟨rfl, ⟨nd, rfl⟩⟩; refine ⟨_, rfl, ?_⟩) | ((with_reducible refine gate_callee (f := 37) rfl ?_); refine goesL_ (some 38) rfl rfl Try.func37 (by kernel_rfl) rfl #[.int .u64 a0, .int .u64 a1, .int .i64 a2] rfl (by (try simp only [List.map_toArray, List.map_cons, List.map_nil]); first | done | rfl | (simp only [List.length_drop, List.length_take]; rfl)) ?_; (with_reducible refine (word_SMod.calls a0 a1 a2 t253 _ A11.out).mono ?_); rintro e w' ⟨rfl, ⟨nd, rfl⟩⟩; refine ⟨_, rfl, ?_⟩))
            go_ret
            exact ⟨by first | rfl | (simp; done) | (simp [*]; done), by repeat (first | exact Drawn0.refl _ | apply Drawn0.step)⟩
          · rw [if_neg c15] at H
            have c15b0 : (t252 == 0) = false := beq_eq_false_iff_ne.mpr c15
            have c15b1 : (t252 != 0) = true := bne_iff_ne.mpr c15
            obtain rfl := Option.some.inj H
            go_enter Try.func6, Try.ntmps6
            go_wp2_with (first | ((with_reducible refine gate_callee (f := 11) rfl ?_); refine goesL_ (some 15) rfl rfl Try.func11 (by kernel_rfl) rfl #[] rfl (by (try simp only [List.map_toArray, List.map_cons, List.map_nil]); first | done | rfl | (simp only [List.length_drop, List.length_take]; rfl)) ?_; (with_reducible refine (spindlelaw1_awake.calls k  true _ A4.out).mono ?_); rintro e w' ⟨rfl, ⟨nd, rfl⟩⟩; refine ⟨_, rfl, ?_⟩) | ((with_reducible refine gate_callee (f := 21) rfl ?_); refine goesL_ (some 19) rfl rfl Try.func21 (by kernel_rfl) rfl #[.int .u64 a0, .int .i64 a2] rfl (by (try simp only [List.map_toArray, List.map_cons, List.map_nil]); first | done | rfl | (simp only [List.length_drop, List.length_take]; rfl)) ?_; (with_reducible refine (word_Narrow.calls a0 a2 t248 _ A6.out).mono ?_); rintro e w' ⟨rfl, ⟨nd, rfl⟩⟩; refine ⟨_, rfl, ?_⟩) | ((with_reducible refine gate_callee (f := 21) rfl ?_); refine goesL_ (some 22) rfl rfl Try.func21 (by kernel_rfl) rfl #[.int .u64 a1, .int .i64 a2] rfl (by (try simp only [List.map_toArray, List.map_cons, List.map_nil]); first | done | rfl | (simp only [List.length_drop, List.length_take]; rfl)) ?_; (with_reducible refine (word_Narrow.calls a1 a2 t249 _ A7.out).mono ?_); rintro e w' ⟨rfl, ⟨nd, rfl⟩⟩; refine ⟨_, rfl, ?_⟩) | ((with_reducible refine gate_callee (f := 31) rfl ?_); refine goesL_ (some 26) rfl rfl Try.func31 (by kernel_rfl) rfl #[.int .u64 a0, .int .u64 a1, .int .i64 a2] rfl (by (try simp only [List.map_toArray, List.map_cons, List.map_nil]); first | done | rfl | (simp only [List.length_drop, List.length_take]; rfl)) ?_; (with_reducible refine (word_Div.calls a0 a1 a2 t250 _ A8.out).mono ?_); rintro e w' ⟨rfl, ⟨nd, rfl⟩⟩; refine ⟨_, rfl, ?_⟩) | ((with_reducible refine gate_callee (f := 33) rfl ?_); refine goesL_ (some 30) rfl rfl Try.func33 (by kernel_rfl) rfl #[.int .u64 a0, .int .u64 a1, .int .i64 a2] rfl (by (try simp only [List.map_toArray, List.map_cons, List.map_nil]); first | done | rfl | (simp only [List.length_drop, List.length_take]; rfl)) ?_; (with_reducible refine (word_Mod.calls a0 a1 a2 t251 _ A9.out).mono ?_); rintro e w' ⟨rfl, ⟨nd, rfl⟩⟩; refine ⟨_, rfl, ?_⟩) | ((with_reducible refine gate_callee (f := 35) rfl ?_); refine goesL_ (some 34) rfl rfl Try.func35 (by kernel_rfl) rfl #[.int .u64 a0, .int .u64 a1, .int .i64 a2] rfl (by (try simp only [List.map_toArray, List.map_cons, List.map_nil]); first | done | rfl | (simp only [List.length_drop, List.length_take]; rfl)) ?_; (with_reducible refine (word_SDiv.calls a0 a1 a2 t252 _ A10.out).mono ?_); rintro e w' ⟨rfl, ⟨nd, rfl⟩⟩; refine ⟨_, rfl, ?_⟩) | ((with_reducible refine gate_callee (f := 37) rfl ?_); refine goesL_ (some 38) rfl rfl Try.func37 (by kernel_rfl) rfl #[.int .u64 a0, .int .u64 a1, .int .i64 a2] rfl (by (try simp only [List.map_toArray, List.map_cons, List.map_nil]); first | done | rfl | (simp only [List.length_drop, List.length_take]; rfl)) ?_; (with_reducible refine (word_SMod.calls a0 a1 a2 t253 _ A11.out).mono ?_); rintro e w' ⟨rfl, ⟨nd, rfl⟩⟩; refine ⟨_, rfl, ?_⟩))
            go_ret
            exact ⟨by first | rfl | (simp; done) | (simp [*]; done), by repeat (first | exact Drawn0.refl _ | apply Drawn0.step)⟩
        · rw [if_neg c14] at H
          have c14b0 : (t251 == t248) = false := beq_eq_false_iff_ne.mpr c14
          have c14b1 : (t251 != t248) = true := bne_iff_ne.mpr c14
          obtain rfl := Option.some.inj H
          go_enter Try.func6, Try.ntmps6
          go_wp2_with (first | ((with_reducible refine gate_callee (f := 11) rfl ?_); refine goesL_ (some 15) rfl rfl Try.func11 (by kernel_rfl) rfl #[] rfl (by (try simp only [List.map_toArray, List.map_cons, List.map_nil]); first | done | rfl | (simp only [List.length_drop, List.length_take]; rfl)) ?_; (with_reducible refine (spindlelaw1_awake.calls k  true _ A4.out).mono ?_); rintro e w' ⟨rfl, ⟨nd, rfl⟩⟩; refine ⟨_, rfl, ?_⟩) | ((with_reducible refine gate_callee (f := 21) rfl ?_); refine goesL_ (some 19) rfl rfl Try.func21 (by kernel_rfl) rfl #[.int .u64 a0, .int .i64 a2] rfl (by (try simp only [List.map_toArray, List.map_cons, List.map_nil]); first | done | rfl | (simp only [List.length_drop, List.length_take]; rfl)) ?_; (with_reducible refine (word_Narrow.calls a0 a2 t248 _ A6.out).mono ?_); rintro e w' ⟨rfl, ⟨nd, rfl⟩⟩; refine ⟨_, rfl, ?_⟩) | ((with_reducible refine gate_callee (f := 21) rfl ?_); refine goesL_ (some 22) rfl rfl Try.func21 (by kernel_rfl) rfl #[.int .u64 a1, .int .i64 a2] rfl (by (try simp only [List.map_toArray, List.map_cons, List.map_nil]); first | done | rfl | (simp only [List.length_drop, List.length_take]; rfl)) ?_; (with_reducible refine (word_Narrow.calls a1 a2 t249 _ A7.out).mono ?_); rintro e w' ⟨rfl, ⟨nd, rfl⟩⟩; refine ⟨_, rfl, ?_⟩) | ((with_reducible refine gate_callee (f := 31) rfl ?_); refine goesL_ (some 26) rfl rfl Try.func31 (by kernel_rfl) rfl #[.int .u64 a0, .int .u64 a1, .int .i64 a2] rfl (by (try simp only [List.map_toArray, List.map_cons, List.map_nil]); first | done | rfl | (simp only [List.length_drop, List.length_take]; rfl)) ?_; (with_reducible refine (word_Div.calls a0 a1 a2 t250 _ A8.out).mono ?_); rintro e w' ⟨rfl, ⟨nd, rfl⟩⟩; refine ⟨_, rfl, ?_⟩) | ((with_reducible refine gate_callee (f := 33) rfl ?_); refine goesL_ (some 30) rfl rfl Try.func33 (by kernel_rfl) rfl #[.int .u64 a0, .int .u64 a1, .int .i64 a2] rfl (by (try simp only [List.map_toArray, List.map_cons, List.map_nil]); first | done | rfl | (simp only [List.length_drop, List.length_take]; rfl)) ?_; (with_reducible refine (word_Mod.calls a0 a1 a2 t251 _ A9.out).mono ?_); rintro e w' ⟨rfl, ⟨nd, rfl⟩⟩; refine ⟨_, rfl, ?_⟩) | ((with_reducible refine gate_callee (f := 35) rfl ?_); refine goesL_ (some 34) rfl rfl Try.func35 (by kernel_rfl) rfl #[.int .u64 a0, .int .u64 a1, .int .i64 a2] rfl (by (try simp only [List.map_toArray, List.map_cons, List.map_nil]); first | done | rfl | (simp only [List.length_drop, List.length_take]; rfl)) ?_; (with_reducible refine (word_SDiv.calls a0 a1 a2 t252 _ A10.out).mono ?_); rintro e w' ⟨rfl, ⟨nd, rfl⟩⟩; refine ⟨_, rfl, ?_⟩) | ((with_reducible refine gate_callee (f := 37) rfl ?_); refine goesL_ (some 38) rfl rfl Try.func37 (by kernel_rfl) rfl #[.int .u64 a0, .int .u64 a1, .int .i64 a2] rfl (by (try simp only [List.map_toArray, List.map_cons, List.map_nil]); first | done | rfl | (simp only [List.length_drop, List.length_take]; rfl)) ?_; (with_reducible refine (word_SMod.calls a0 a1 a2 t253 _ A11.out).mono ?_); rintro e w' ⟨rfl, ⟨nd, rfl⟩⟩; refine ⟨_, rfl, ?_⟩))
          go_ret
          exact ⟨by first | rfl | (simp; done) | (simp [*]; done), by repeat (first | exact Drawn0.refl _ | apply Drawn0.step)⟩
      · rw [if_neg c13] at H
        have c13b0 : (t250 == 0) = false := beq_eq_false_iff_ne.mpr c13
        have c13b1 : (t250 != 0) = true := bne_iff_ne.mpr c13
        obtain rfl := Option.some.inj H
        go_enter Try.func6, Try.ntmps6
        go_wp2_with (first | ((with_reducible refine gate_callee (f := 11) rfl ?_); refine goesL_ (some 15) rfl rfl Try.func11 (by kernel_rfl) rfl #[] rfl (by (try simp only [List.map_toArray, List.map_cons, List.map_nil]); first | done | rfl | (simp only [List.length_drop, List.length_take]; rfl)) ?_; (with_reducible refine (spindlelaw1_awake.calls k  true _ A4.out).mono ?_); rintro e w' ⟨rfl, ⟨nd, rfl⟩⟩; refine ⟨_, rfl, ?_⟩) | ((with_reducible refine gate_callee (f := 21) rfl ?_); refine goesL_ (some 19) rfl rfl Try.func21 (by kernel_rfl) rfl #[.int .u64 a0, .int .i64 a2] rfl (by (try simp only [List.map_toArray, List.map_cons, List.map_nil]); first | done | rfl | (simp only [List.length_drop, List.length_take]; rfl)) ?_; (with_reducible refine (word_Narrow.calls a0 a2 t248 _ A6.out).mono ?_); rintro e w' ⟨rfl, ⟨nd, rfl⟩⟩; refine ⟨_, rfl, ?_⟩) | ((with_reducible refine gate_callee (f := 21) rfl ?_); refine goesL_ (some 22) rfl rfl Try.func21 (by kernel_rfl) rfl #[.int .u64 a1, .int .i64 a2] rfl (by (try simp only [List.map_toArray, List.map_cons, List.map_nil]); first | done | rfl | (simp only [List.length_drop, List.length_take]; rfl)) ?_; (with_reducible refine (word_Narrow.calls a1 a2 t249 _ A7.out).mono ?_); rintro e w' ⟨rfl, ⟨nd, rfl⟩⟩; refine ⟨_, rfl, ?_⟩) | ((with_reducible refine gate_callee (f := 31) rfl ?_); refine goesL_ (some 26) rfl rfl Try.func31 (by kernel_rfl) rfl #[.int .u64 a0, .int .u64 a1, .int .i64 a2] rfl (by (try simp only [List.map_toArray, List.map_cons, List.map_nil]); first | done | rfl | (simp only [List.length_drop, List.length_take]; rfl)) ?_; (with_reducible refine (word_Div.calls a0 a1 a2 t250 _ A8.out).mono ?_); rintro e w' ⟨rfl, ⟨nd, rfl⟩⟩; refine ⟨_, rfl, ?_⟩) | ((with_reducible refine gate_callee (f := 33) rfl ?_); refine goesL_ (some 30) rfl rfl Try.func33 (by kernel_rfl) rfl #[.int .u64 a0, .int .u64 a1, .int .i64 a2] rfl (by (try simp only [List.map_toArray, List.map_cons, List.map_nil]); first | done | rfl | (simp only [List.length_drop, List.length_take]; rfl)) ?_; (with_reducible refine (word_Mod.calls a0 a1 a2 t251 _ A9.out).mono ?_); rintro e w' ⟨rfl, ⟨nd, rfl⟩⟩; refine ⟨_, rfl, ?_⟩) | ((with_reducible refine gate_callee (f := 35) rfl ?_); refine goesL_ (some 34) rfl rfl Try.func35 (by kernel_rfl) rfl #[.int .u64 a0, .int .u64 a1, .int .i64 a2] rfl (by (try simp only [List.map_toArray, List.map_cons, List.map_nil]); first | done | rfl | (simp only [List.length_drop, List.length_take]; rfl)) ?_; (with_reducible refine (word_SDiv.calls a0 a1 a2 t252 _ A10.out).mono ?_); rintro e w' ⟨rfl, ⟨nd, rfl⟩⟩; refine ⟨_, rfl, ?_⟩) | ((with_reducible refine gate_callee (f := 37) rfl ?_); refine goesL_ (some 38) rfl rfl Try.func37 (by kernel_rfl) rfl #[.int .u64 a0, .int .u64 a1, .int .i64 a2] rfl (by (try simp only [List.map_toArray, List.map_cons, List.map_nil]); first | done | rfl | (simp only [List.length_drop, List.length_take]; rfl)) ?_; (with_reducible refine (word_SMod.calls a0 a1 a2 t253 _ A11.out).mono ?_); rintro e w' ⟨rfl, ⟨nd, rfl⟩⟩; refine ⟨_, rfl, ?_⟩))
        go_ret
        exact ⟨by first | rfl | (simp; done) | (simp [*]; done), by repeat (first | exact Drawn0.refl _ | apply Drawn0.step)⟩
    · rw [if_neg c12] at H
      have c12b0 : (t249 == 0) = false := beq_eq_false_iff_ne.mpr c12
      have c12b1 : (t249 != 0) = true := bne_iff_ne.mpr c12
      have HC16 := Aside0.mk H
      clear H
      go_enter Try.func6, Try.ntmps6
      go_upto_region 11 with (first | ((with_reducible refine gate_callee (f := 11) rfl ?_); refine goesL_ (some 15) rfl rfl Try.func11 (by kernel_rfl) rfl #[] rfl (by (try simp only [List.map_toArray, List.map_cons, List.map_nil]); first | done | rfl | (simp only [List.length_drop, List.length_take]; rfl)) ?_; (with_reducible refine (spindlelaw1_awake.calls k  true _ A4.out).mono ?_); rintro e w' ⟨rfl, ⟨nd, rfl⟩⟩; refine ⟨_, rfl, ?_⟩) | ((with_reducible refine gate_callee (f := 21) rfl ?_); refine goesL_ (some 19) rfl rfl Try.func21 (by kernel_rfl) rfl #[.int .u64 a0, .int .i64 a2] rfl (by (try simp only [List.map_toArray, List.map_cons, List.map_nil]); first | done | rfl | (simp only [List.length_drop, List.length_take]; rfl)) ?_; (with_reducible refine (word_Narrow.calls a0 a2 t248 _ A6.out).mono ?_); rintro e w' ⟨rfl, ⟨nd, rfl⟩⟩; refine ⟨_, rfl, ?_⟩) | ((with_reducible refine gate_callee (f := 21) rfl ?_); refine goesL_ (some 22) rfl rfl Try.func21 (by kernel_rfl) rfl #[.int .u64 a1, .int .i64 a2] rfl (by (try simp only [List.map_toArray, List.map_cons, List.map_nil]); first | done | rfl | (simp only [List.length_drop, List.length_take]; rfl)) ?_; (with_reducible refine (word_Narrow.calls a1 a2 t249 _ A7.out).mono ?_); rintro e w' ⟨rfl, ⟨nd, rfl⟩⟩; refine ⟨_, rfl, ?_⟩) | ((with_reducible refine gate_callee (f := 31) rfl ?_); refine goesL_ (some 26) rfl rfl Try.func31 (by kernel_rfl) rfl #[.int .u64 a0, .int .u64 a1, .int .i64 a2] rfl (by (try simp only [List.map_toArray, List.map_cons, List.map_nil]); first | done | rfl | (simp only [List.length_drop, List.length_take]; rfl)) ?_; (with_reducible refine (word_Div.calls a0 a1 a2 t250 _ A8.out).mono ?_); rintro e w' ⟨rfl, ⟨nd, rfl⟩⟩; refine ⟨_, rfl, ?_⟩) | ((with_reducible refine gate_callee (f := 33) rfl ?_); refine goesL_ (some 30) rfl rfl Try.func33 (by kernel_rfl) rfl #[.int .u64 a0, .int .u64 a1, .int .i64 a2] rfl (by (try simp only [List.map_toArray, List.map_cons, List.map_nil]); first | done | rfl | (simp only [List.length_drop, List.length_take]; rfl)) ?_; (with_reducible refine (word_Mod.calls a0 a1 a2 t251 _ A9.out).mono ?_); rintro e w' ⟨rfl, ⟨nd, rfl⟩⟩; refine ⟨_, rfl, ?_⟩) | ((with_reducible refine gate_callee (f := 35) rfl ?_); refine goesL_ (some 34) rfl rfl Try.func35 (by kernel_rfl) rfl #[.int .u64 a0, .int .u64 a1, .int .i64 a2] rfl (by (try simp only [List.map_toArray, List.map_cons, List.map_nil]); first | done | rfl | (simp only [List.length_drop, List.length_take]; rfl)) ?_; (with_reducible refine (word_SDiv.calls a0 a1 a2 t252 _ A10.out).mono ?_); rintro e w' ⟨rfl, ⟨nd, rfl⟩⟩; refine ⟨_, rfl, ?_⟩) | ((with_reducible refine gate_callee (f := 37) rfl ?_); refine goesL_ (some 38) rfl rfl Try.func37 (by kernel_rfl) rfl #[.int .u64 a0, .int .u64 a1, .int .i64 a2] rfl (by (try simp only [List.map_toArray, List.map_cons, List.map_nil]); first | done | rfl | (simp only [List.length_drop, List.length_take]; rfl)) ?_; (with_reducible refine (word_SMod.calls a0 a1 a2 t253 _ A11.out).mono ?_); rintro e w' ⟨rfl, ⟨nd, rfl⟩⟩; refine ⟨_, rfl, ?_⟩))
      (try simp only [Act.put, List.setIfInBounds_toArray, List.set_cons_zero, List.set_cons_succ])
      go_cut [73] (fun v73 wc => ∃ (kq : Nat) (x73_15 : Bool), v73 = .bool x73_15 ∧ Aside0 (spindlelaw1_WordDivides.j0 kq a2 t248 t249 t252 t253 x73_15 = some r) ∧ Aside0 (kq ≤ k) ∧ Drawn0 w wc)
      case first =>
        have H := HC16.out
        clear HC16
        by_cases c17 : t251 ≥ t249
        · rw [if_pos c17] at H
          have c17b0 : decide (t249 ≤ t251) = true := decide_eq_true c17
          clear c17
          (first | rw [c17b0] | (simp only [i64_w, i32_w]; rw [c17b0]) | skip)
          have H' := Aside0.mk H
          clear H
          go_wp2
          go_meet
          case rel => exact ⟨_, (true), (by first | rfl | (simp; done) | (simp [*]; done)), H', ⟨by first | omega | exact Nat.le_refl _⟩, by repeat (first | exact Drawn0.refl _ | apply Drawn0.step)⟩
        · rw [if_neg c17] at H
          have c17b0 : decide (t249 ≤ t251) = false := decide_eq_false c17
          clear c17
          (first | rw [c17b0] | (simp only [i64_w, i32_w]; rw [c17b0]) | skip)
          by_cases c18 : t250 > t248
          · rw [if_pos c18] at H
            have c18b0 : decide (t248 < t250) = true := decide_eq_true c18
            clear c18
            have H' := Aside0.mk H
            clear H
            go_wp2
            go_meet
            case rel => exact ⟨_, (true), (by first | rfl | (simp; done) | (simp [*]; done)), H', ⟨by first | omega | exact Nat.le_refl _⟩, by repeat (first | exact Drawn0.refl _ | apply Drawn0.step)⟩
          · rw [if_neg c18] at H
            have c18b0 : decide (t248 < t250) = false := decide_eq_false c18
            clear c18
            replace H := Option.bind_eq_some_iff.mp H
            obtain ⟨t254, A190, H⟩ := H
            replace H : ((word_Add.f t254 t251).bind fun t255 => (spindlelaw1_WordDivides.j0 k a2 t248 t249 t252 t253 (t255 != t248))) = some r := H
            have A19 := Aside0.mk A190
            clear A190
            replace H := Option.bind_eq_some_iff.mp H
            obtain ⟨t255, A200, H⟩ := H
            replace H : (spindlelaw1_WordDivides.j0 k a2 t248 t249 t252 t253 (t255 != t248)) = some r := H
            have A20 := Aside0.mk A200
            clear A200
            have H' := Aside0.mk H
            clear H
            go_wp2_with (first | (go_at_call 15; (with_reducible refine (word_Mul.calls t250 t249 t254 _ A19.out).mono ?_); rintro e w' ⟨rfl, ⟨nd, rfl⟩⟩) | (go_at_call 12; (with_reducible refine (word_Add.calls t254 t251 t255 _ A20.out).mono ?_); rintro e w' ⟨rfl, ⟨nd, rfl⟩⟩))
            go_meet
            case rel => exact ⟨_, ((t255 != t248)), (by first | rfl | (simp; done) | (simp [*]; done)), H', ⟨by first | omega | exact Nat.le_refl _⟩, by repeat (first | exact Drawn0.refl _ | apply Drawn0.step)⟩
      case rest =>
        clear HC16
        try clear c1
        try clear c2
        try clear p2
        try clear c3
        try clear c5
        try clear c6
        try clear c11
        try clear c12
        try clear c12b0
        try clear c12b1
        try clear c13
        try clear c13b0
        try clear c13b1
        try clear c14
        try clear c14b0
        try clear c14b1
        try clear c15
        try clear c15b0
        try clear c15b1
        try clear c17
        try clear c17b0
        try clear c18
        try clear c18b0
        obtain ⟨kq, x73_15, rfl, HA, HJ15, ⟨mc15, rfl⟩⟩ := hcut
        cases kq with
        | zero => exact absurd HA.out (by simp [spindlelaw1_WordDivides.j0])
        | succ kj15 =>
          have H := HA.out
          clear HA
          simp only [spindlelaw1_WordDivides.j0] at H
          by_cases c21 : x73_15 = true
          · subst c21
            have H1 : (some false) = some r := by rw [if_pos rfl] at H; exact H
            clear H
            have H := H1
            clear H1
            obtain rfl := Option.some.inj H
            go_wp2
            go_ret
            exact ⟨by first | rfl | (simp; done) | (simp [*]; done), by repeat (first | exact Drawn0.refl _ | apply Drawn0.step)⟩
          · replace c21 := Bool.eq_false_iff.mpr c21
            subst c21
            have H1 : ((word_Mul.f t252 t249).bind fun t256 => ((word_Add.f t256 t253).bind fun t257 => ((word_Narrow.f t257 a2).bind fun t258 => (if t258 = t248 then ((word_SLess.f t253 0 a2).bind fun t259 => (if t259 = true then ((word_Neg.f t253).bind fun t260 => ((word_Narrow.f t260 a2).bind fun t261 => (spindlelaw1_WordDivides.j1 kj15 a2 t248 t249 t253 t261))) else (spindlelaw1_WordDivides.j1 kj15 a2 t248 t249 t253 t253))) else (some false))))) = some r := by rw [if_neg (show ¬ (false = true) by decide)] at H; exact H
            clear H
            have H := H1
            clear H1
            replace H := Option.bind_eq_some_iff.mp H
            obtain ⟨t256, A220, H⟩ := H
            replace H : ((word_Add.f t256 t253).bind fun t257 => ((word_Narrow.f t257 a2).bind fun t258 => (if t258 = t248 then ((word_SLess.f t253 0 a2).bind fun t259 => (if t259 = true then ((word_Neg.f t253).bind fun t260 => ((word_Narrow.f t260 a2).bind fun t261 => (spindlelaw1_WordDivides.j1 kj15 a2 t248 t249 t253 t261))) else (spindlelaw1_WordDivides.j1 kj15 a2 t248 t249 t253 t253))) else (some false)))) = some r := H
            have A22 := Aside0.mk A220
            clear A220
            replace H := Option.bind_eq_some_iff.mp H
            obtain ⟨t257, A230, H⟩ := H
            replace H : ((word_Narrow.f t257 a2).bind fun t258 => (if t258 = t248 then ((word_SLess.f t253 0 a2).bind fun t259 => (if t259 = true then ((word_Neg.f t253).bind fun t260 => ((word_Narrow.f t260 a2).bind fun t261 => (spindlelaw1_WordDivides.j1 kj15 a2 t248 t249 t253 t261))) else (spindlelaw1_WordDivides.j1 kj15 a2 t248 t249 t253 t253))) else (some false))) = some r := H
            have A23 := Aside0.mk A230
            clear A230
            replace H := Option.bind_eq_some_iff.mp H
            obtain ⟨t258, A240, H⟩ := H
            replace H : (if t258 = t248 then ((word_SLess.f t253 0 a2).bind fun t259 => (if t259 = true then ((word_Neg.f t253).bind fun t260 => ((word_Narrow.f t260 a2).bind fun t261 => (spindlelaw1_WordDivides.j1 kj15 a2 t248 t249 t253 t261))) else (spindlelaw1_WordDivides.j1 kj15 a2 t248 t249 t253 t253))) else (some false)) = some r := H
            have A24 := Aside0.mk A240
            clear A240
            by_cases c25 : t258 = t248
            · rw [if_pos c25] at H
              have c25b0 : (t258 == t248) = true := beq_iff_eq.mpr c25
              have c25b1 : (t258 != t248) = false := bne_eq_false_iff_eq.mpr c25
              clear c25
              replace H := Option.bind_eq_some_iff.mp H
              obtain ⟨t259, A260, H⟩ := H
              replace H : (if t259 = true then ((word_Neg.f t253).bind fun t260 => ((word_Narrow.f t260 a2).bind fun t261 => (spindlelaw1_WordDivides.j1 kj15 a2 t248 t249 t253 t261))) else (spindlelaw1_WordDivides.j1 kj15 a2 t248 t249 t253 t253)) = some r := H
              have A26 := Aside0.mk A260
              clear A260
              have HC27 := Aside0.mk H
              clear H
              go_upto_if 86 with (first | ((with_reducible refine gate_callee (f := 15) rfl ?_); refine goesL_ (some 76) rfl rfl Try.func15 (by kernel_rfl) rfl #[.int .u64 t252, .int .u64 t249] rfl (by (try simp only [List.map_toArray, List.map_cons, List.map_nil]); first | done | rfl | (simp only [List.length_drop, List.length_take]; rfl)) ?_; (with_reducible refine (word_Mul.calls t252 t249 t256 _ A22.out).mono ?_); rintro e w' ⟨rfl, ⟨nd, rfl⟩⟩; refine ⟨_, rfl, ?_⟩) | ((with_reducible refine gate_callee (f := 12) rfl ?_); refine goesL_ (some 78) rfl rfl Try.func12 (by kernel_rfl) rfl #[.int .u64 t256, .int .u64 t253] rfl (by (try simp only [List.map_toArray, List.map_cons, List.map_nil]); first | done | rfl | (simp only [List.length_drop, List.length_take]; rfl)) ?_; (with_reducible refine (word_Add.calls t256 t253 t257 _ A23.out).mono ?_); rintro e w' ⟨rfl, ⟨nd, rfl⟩⟩; refine ⟨_, rfl, ?_⟩) | ((with_reducible refine gate_callee (f := 21) rfl ?_); refine goesL_ (some 80) rfl rfl Try.func21 (by kernel_rfl) rfl #[.int .u64 t257, .int .i64 a2] rfl (by (try simp only [List.map_toArray, List.map_cons, List.map_nil]); first | done | rfl | (simp only [List.length_drop, List.length_take]; rfl)) ?_; (with_reducible refine (word_Narrow.calls t257 a2 t258 _ A24.out).mono ?_); rintro e w' ⟨rfl, ⟨nd, rfl⟩⟩; refine ⟨_, rfl, ?_⟩) | ((with_reducible refine gate_callee (f := 29) rfl ?_); refine goesL_ (some 86) rfl rfl Try.func29 (by kernel_rfl) rfl #[.int .u64 t253, .int .u64 0, .int .i64 a2] rfl (by (try simp only [List.map_toArray, List.map_cons, List.map_nil]); first | done | rfl | (simp only [List.length_drop, List.length_take]; rfl)) ?_; (with_reducible refine (word_SLess.calls t253 0 a2 t259 _ A26.out).mono ?_); rintro e w' ⟨rfl, ⟨nd, rfl⟩⟩; refine ⟨_, rfl, ?_⟩))
              (try simp only [Act.put, List.setIfInBounds_toArray, List.set_cons_zero, List.set_cons_succ])
              go_cut [13] (fun v13 wc => ∃ (kq : Nat) (x13_26 : Int), v13 = .int .u64 x13_26 ∧ Aside0 (spindlelaw1_WordDivides.j1 kq a2 t248 t249 t253 x13_26 = some r) ∧ Aside0 (kq ≤ kj15) ∧ Drawn0 w wc)
              case first =>
                have H := HC27.out
                clear HC27
                by_cases c28 : t259 = true
                · subst c28
                  have H1 : ((word_Neg.f t253).bind fun t260 => ((word_Narrow.f t260 a2).bind fun t261 => (spindlelaw1_WordDivides.j1 kj15 a2 t248 t249 t253 t261))) = some r := by rw [if_pos rfl] at H; exact H
                  clear H
                  have H := H1
                  clear H1
                  replace H := Option.bind_eq_some_iff.mp H
                  obtain ⟨t260, A290, H⟩ := H
                  replace H : ((word_Narrow.f t260 a2).bind fun t261 => (spindlelaw1_WordDivides.j1 kj15 a2 t248 t249 t253 t261)) = some r := H
                  have A29 := Aside0.mk A290
                  clear A290
                  replace H := Option.bind_eq_some_iff.mp H
                  obtain ⟨t261, A300, H⟩ := H
                  replace H : (spindlelaw1_WordDivides.j1 kj15 a2 t248 t249 t253 t261) = some r := H
                  have A30 := Aside0.mk A300
                  clear A300
                  have H' := Aside0.mk H
                  clear H
                  go_wp2_with (first | ((with_reducible refine gate_callee (f := 14) rfl ?_); refine goesL_ (some 88) rfl rfl Try.func14 (by kernel_rfl) rfl #[.int .u64 t253] rfl (by (try simp only [List.map_toArray, List.map_cons, List.map_nil]); first | done | rfl | (simp only [List.length_drop, List.length_take]; rfl)) ?_; (with_reducible refine (word_Neg.calls t253 t260 _ A29.out).mono ?_); rintro e w' ⟨rfl, ⟨nd, rfl⟩⟩; refine ⟨_, rfl, ?_⟩) | ((with_reducible refine gate_callee (f := 21) rfl ?_); refine goesL_ (some 90) rfl rfl Try.func21 (by kernel_rfl) rfl #[.int .u64 t260, .int .i64 a2] rfl (by (try simp only [List.map_toArray, List.map_cons, List.map_nil]); first | done | rfl | (simp only [List.length_drop, List.length_take]; rfl)) ?_; (with_reducible refine (word_Narrow.calls t260 a2 t261 _ A30.out).mono ?_); rintro e w' ⟨rfl, ⟨nd, rfl⟩⟩; refine ⟨_, rfl, ?_⟩))
                  go_meet
                  case rel => exact ⟨_, (t261), (by first | rfl | (simp; done) | (simp [*]; done)), H', ⟨by have := HJ15.out; first | omega | exact Nat.le_refl _⟩, by repeat (first | exact Drawn0.refl _ | apply Drawn0.step)⟩
                · replace c28 := Bool.eq_false_iff.mpr c28
                  subst c28
                  have H1 : (spindlelaw1_WordDivides.j1 kj15 a2 t248 t249 t253 t253) = some r := by rw [if_neg (show ¬ (false = true) by decide)] at H; exact H
                  clear H
                  have H := H1
                  clear H1
                  have H' := Aside0.mk H
                  clear H
                  go_wp2
                  go_meet
                  case rel => exact ⟨_, (t253), (by first | rfl | (simp; done) | (simp [*]; done)), H', ⟨by have := HJ15.out; first | omega | exact Nat.le_refl _⟩, by repeat (first | exact Drawn0.refl _ | apply Drawn0.step)⟩
              case rest =>
                clear HC27
                try clear c1
                try clear c2
                try clear p2
                try clear c3
                try clear c5
                try clear c6
                try clear c11
                try clear c12
                try clear c12b0
                try clear c12b1
                try clear c13
                try clear c13b0
                try clear c13b1
                try clear c14
                try clear c14b0
                try clear c14b1
                try clear c15
                try clear c15b0
                try clear c15b1
                try clear c17
                try clear c17b0
                try clear c18
                try clear c18b0
                try clear c21
                try clear c25
                try clear c25b0
                try clear c25b1
                try clear c28
                try clear c29
                try clear p2
                obtain ⟨kq, x13_26, rfl, HA, HJ26, ⟨mc26, rfl⟩⟩ := hcut
                cases kq with
                | zero => exact absurd HA.out (by simp [spindlelaw1_WordDivides.j1])
                | succ kj26 =>
                  have H := HA.out
                  clear HA
                  simp only [spindlelaw1_WordDivides.j1] at H
                  replace H := Option.bind_eq_some_iff.mp H
                  obtain ⟨t262, A310, H⟩ := H
                  replace H : (if t262 = true then ((word_Neg.f t249).bind fun t263 => ((word_Narrow.f t263 a2).bind fun t264 => (if x13_26 < t264 then (if t253 = 0 then (some true) else ((word_SLess.f t253 0 a2).bind fun t265 => ((word_SLess.f t248 0 a2).bind fun t266 => (some (t265 == t266))))) else (some false)))) else (if x13_26 < t249 then (if t253 = 0 then (some true) else ((word_SLess.f t253 0 a2).bind fun t267 => ((word_SLess.f t248 0 a2).bind fun t268 => (some (t267 == t268))))) else (some false))) = some r := H
                  have A31 := Aside0.mk A310
                  clear A310
                  by_cases c32 : t262 = true
                  · subst c32
                    have H1 : ((word_Neg.f t249).bind fun t263 => ((word_Narrow.f t263 a2).bind fun t264 => (if x13_26 < t264 then (if t253 = 0 then (some true) else ((word_SLess.f t253 0 a2).bind fun t265 => ((word_SLess.f t248 0 a2).bind fun t266 => (some (t265 == t266))))) else (some false)))) = some r := by rw [if_pos rfl] at H; exact H
                    clear H
                    have H := H1
                    clear H1
                    replace H := Option.bind_eq_some_iff.mp H
                    obtain ⟨t263, A330, H⟩ := H
                    replace H : ((word_Narrow.f t263 a2).bind fun t264 => (if x13_26 < t264 then (if t253 = 0 then (some true) else ((word_SLess.f t253 0 a2).bind fun t265 => ((word_SLess.f t248 0 a2).bind fun t266 => (some (t265 == t266))))) else (some false))) = some r := H
                    have A33 := Aside0.mk A330
                    clear A330
                    replace H := Option.bind_eq_some_iff.mp H
                    obtain ⟨t264, A340, H⟩ := H
                    replace H : (if x13_26 < t264 then (if t253 = 0 then (some true) else ((word_SLess.f t253 0 a2).bind fun t265 => ((word_SLess.f t248 0 a2).bind fun t266 => (some (t265 == t266))))) else (some false)) = some r := H
                    have A34 := Aside0.mk A340
                    clear A340
                    by_cases c35 : x13_26 < t264
                    · rw [if_pos c35] at H
                      have c35b0 : decide (x13_26 < t264) = true := decide_eq_true c35
                      clear c35
                      by_cases c36 : t253 = 0
                      · rw [if_pos c36] at H
                        have c36b0 : (t253 == 0) = true := beq_iff_eq.mpr c36
                        have c36b1 : (t253 != 0) = false := bne_eq_false_iff_eq.mpr c36
                        clear c36
                        obtain rfl := Option.some.inj H
                        go_wp2_with (first | ((with_reducible refine gate_callee (f := 29) rfl ?_); refine goesL_ (some 94) rfl rfl Try.func29 (by kernel_rfl) rfl #[.int .u64 t249, .int .u64 0, .int .i64 a2] rfl (by (try simp only [List.map_toArray, List.map_cons, List.map_nil]); first | done | rfl | (simp only [List.length_drop, List.length_take]; rfl)) ?_; (with_reducible refine (word_SLess.calls t249 0 a2 true _ A31.out).mono ?_); rintro e w' ⟨rfl, ⟨nd, rfl⟩⟩; refine ⟨_, rfl, ?_⟩) | ((with_reducible refine gate_callee (f := 14) rfl ?_); refine goesL_ (some 96) rfl rfl Try.func14 (by kernel_rfl) rfl #[.int .u64 t249] rfl (by (try simp only [List.map_toArray, List.map_cons, List.map_nil]); first | done | rfl | (simp only [List.length_drop, List.length_take]; rfl)) ?_; (with_reducible refine (word_Neg.calls t249 t263 _ A33.out).mono ?_); rintro e w' ⟨rfl, ⟨nd, rfl⟩⟩; refine ⟨_, rfl, ?_⟩) | ((with_reducible refine gate_callee (f := 21) rfl ?_); refine goesL_ (some 98) rfl rfl Try.func21 (by kernel_rfl) rfl #[.int .u64 t263, .int .i64 a2] rfl (by (try simp only [List.map_toArray, List.map_cons, List.map_nil]); first | done | rfl | (simp only [List.length_drop, List.length_take]; rfl)) ?_; (with_reducible refine (word_Narrow.calls t263 a2 t264 _ A34.out).mono ?_); rintro e w' ⟨rfl, ⟨nd, rfl⟩⟩; refine ⟨_, rfl, ?_⟩))
                        go_ret
                        exact ⟨by first | rfl | (simp; done) | (simp [*]; done), by repeat (first | exact Drawn0.refl _ | apply Drawn0.step)⟩
                      · rw [if_neg c36] at H
                        have c36b0 : (t253 == 0) = false := beq_eq_false_iff_ne.mpr c36
                        have c36b1 : (t253 != 0) = true := bne_iff_ne.mpr c36
                        replace H := Option.bind_eq_some_iff.mp H
                        obtain ⟨t265, A370, H⟩ := H
                        replace H : ((word_SLess.f t248 0 a2).bind fun t266 => (some (t265 == t266))) = some r := H
                        have A37 := Aside0.mk A370
                        clear A370
                        replace H := Option.bind_eq_some_iff.mp H
                        obtain ⟨t266, A380, H⟩ := H
                        replace H : (some (t265 == t266)) = some r := H
                        have A38 := Aside0.mk A380
                        clear A380
                        obtain rfl := Option.some.inj H
                        go_wp2_with (first | ((with_reducible refine gate_callee (f := 29) rfl ?_); refine goesL_ (some 94) rfl rfl Try.func29 (by kernel_rfl) rfl #[.int .u64 t249, .int .u64 0, .int .i64 a2] rfl (by (try simp only [List.map_toArray, List.map_cons, List.map_nil]); first | done | rfl | (simp only [List.length_drop, List.length_take]; rfl)) ?_; (with_reducible refine (word_SLess.calls t249 0 a2 true _ A31.out).mono ?_); rintro e w' ⟨rfl, ⟨nd, rfl⟩⟩; refine ⟨_, rfl, ?_⟩) | ((with_reducible refine gate_callee (f := 14) rfl ?_); refine goesL_ (some 96) rfl rfl Try.func14 (by kernel_rfl) rfl #[.int .u64 t249] rfl (by (try simp only [List.map_toArray, List.map_cons, List.map_nil]); first | done | rfl | (simp only [List.length_drop, List.length_take]; rfl)) ?_; (with_reducible refine (word_Neg.calls t249 t263 _ A33.out).mono ?_); rintro e w' ⟨rfl, ⟨nd, rfl⟩⟩; refine ⟨_, rfl, ?_⟩) | ((with_reducible refine gate_callee (f := 21) rfl ?_); refine goesL_ (some 98) rfl rfl Try.func21 (by kernel_rfl) rfl #[.int .u64 t263, .int .i64 a2] rfl (by (try simp only [List.map_toArray, List.map_cons, List.map_nil]); first | done | rfl | (simp only [List.length_drop, List.length_take]; rfl)) ?_; (with_reducible refine (word_Narrow.calls t263 a2 t264 _ A34.out).mono ?_); rintro e w' ⟨rfl, ⟨nd, rfl⟩⟩; refine ⟨_, rfl, ?_⟩) | (go_at_call 29; (with_reducible refine (word_SLess.calls t253 0 a2 t265 _ A37.out).mono ?_); rintro e w' ⟨rfl, ⟨nd, rfl⟩⟩) | (go_at_call 29; (with_reducible refine (word_SLess.calls t248 0 a2 t266 _ A38.out).mono ?_); rintro e w' ⟨rfl, ⟨nd, rfl⟩⟩))
                        go_ret
                        exact ⟨by first | rfl | (simp; done) | (simp [*]; done), by repeat (first | exact Drawn0.refl _ | apply Drawn0.step)⟩
                    · rw [if_neg c35] at H
                      have c35b0 : decide (x13_26 < t264) = false := decide_eq_false c35
                      clear c35
                      obtain rfl := Option.some.inj H
                      go_wp2_with (first | ((with_reducible refine gate_callee (f := 29) rfl ?_); refine goesL_ (some 94) rfl rfl Try.func29 (by kernel_rfl) rfl #[.int .u64 t249, .int .u64 0, .int .i64 a2] rfl (by (try simp only [List.map_toArray, List.map_cons, List.map_nil]); first | done | rfl | (simp only [List.length_drop, List.length_take]; rfl)) ?_; (with_reducible refine (word_SLess.calls t249 0 a2 true _ A31.out).mono ?_); rintro e w' ⟨rfl, ⟨nd, rfl⟩⟩; refine ⟨_, rfl, ?_⟩) | ((with_reducible refine gate_callee (f := 14) rfl ?_); refine goesL_ (some 96) rfl rfl Try.func14 (by kernel_rfl) rfl #[.int .u64 t249] rfl (by (try simp only [List.map_toArray, List.map_cons, List.map_nil]); first | done | rfl | (simp only [List.length_drop, List.length_take]; rfl)) ?_; (with_reducible refine (word_Neg.calls t249 t263 _ A33.out).mono ?_); rintro e w' ⟨rfl, ⟨nd, rfl⟩⟩; refine ⟨_, rfl, ?_⟩) | ((with_reducible refine gate_callee (f := 21) rfl ?_); refine goesL_ (some 98) rfl rfl Try.func21 (by kernel_rfl) rfl #[.int .u64 t263, .int .i64 a2] rfl (by (try simp only [List.map_toArray, List.map_cons, List.map_nil]); first | done | rfl | (simp only [List.length_drop, List.length_take]; rfl)) ?_; (with_reducible refine (word_Narrow.calls t263 a2 t264 _ A34.out).mono ?_); rintro e w' ⟨rfl, ⟨nd, rfl⟩⟩; refine ⟨_, rfl, ?_⟩))
                      go_ret
                      exact ⟨by first | rfl | (simp; done) | (simp [*]; done), by repeat (first | exact Drawn0.refl _ | apply Drawn0.step)⟩
                  · replace c32 := Bool.eq_false_iff.mpr c32
                    subst c32
                    have H1 : (if x13_26 < t249 then (if t253 = 0 then (some true) else ((word_SLess.f t253 0 a2).bind fun t267 => ((word_SLess.f t248 0 a2).bind fun t268 => (some (t267 == t268))))) else (some false)) = some r := by rw [if_neg (show ¬ (false = true) by decide)] at H; exact H
                    clear H
                    have H := H1
                    clear H1
                    by_cases c39 : x13_26 < t249
                    · rw [if_pos c39] at H
                      have c39b0 : decide (x13_26 < t249) = true := decide_eq_true c39
                      clear c39
                      by_cases c40 : t253 = 0
                      · rw [if_pos c40] at H
                        have c40b0 : (t253 == 0) = true := beq_iff_eq.mpr c40
                        have c40b1 : (t253 != 0) = false := bne_eq_false_iff_eq.mpr c40
                        clear c40
                        obtain rfl := Option.some.inj H
                        go_wp2_with (first | ((with_reducible refine gate_callee (f := 29) rfl ?_); refine goesL_ (some 94) rfl rfl Try.func29 (by kernel_rfl) rfl #[.int .u64 t249, .int .u64 0, .int .i64 a2] rfl (by (try simp only [List.map_toArray, List.map_cons, List.map_nil]); first | done | rfl | (simp only [List.length_drop, List.length_take]; rfl)) ?_; (with_reducible refine (word_SLess.calls t249 0 a2 false _ A31.out).mono ?_); rintro e w' ⟨rfl, ⟨nd, rfl⟩⟩; refine ⟨_, rfl, ?_⟩))
                        go_ret
                        exact ⟨by first | rfl | (simp; done) | (simp [*]; done), by repeat (first | exact Drawn0.refl _ | apply Drawn0.step)⟩
                      · rw [if_neg c40] at H
                        have c40b0 : (t253 == 0) = false := beq_eq_false_iff_ne.mpr c40
                        have c40b1 : (t253 != 0) = true := bne_iff_ne.mpr c40
                        replace H := Option.bind_eq_some_iff.mp H
                        obtain ⟨t267, A410, H⟩ := H
                        replace H : ((word_SLess.f t248 0 a2).bind fun t268 => (some (t267 == t268))) = some r := H
                        have A41 := Aside0.mk A410
                        clear A410
                        replace H := Option.bind_eq_some_iff.mp H
                        obtain ⟨t268, A420, H⟩ := H
                        replace H : (some (t267 == t268)) = some r := H
                        have A42 := Aside0.mk A420
                        clear A420
                        obtain rfl := Option.some.inj H
                        go_wp2_with (first | ((with_reducible refine gate_callee (f := 29) rfl ?_); refine goesL_ (some 94) rfl rfl Try.func29 (by kernel_rfl) rfl #[.int .u64 t249, .int .u64 0, .int .i64 a2] rfl (by (try simp only [List.map_toArray, List.map_cons, List.map_nil]); first | done | rfl | (simp only [List.length_drop, List.length_take]; rfl)) ?_; (with_reducible refine (word_SLess.calls t249 0 a2 false _ A31.out).mono ?_); rintro e w' ⟨rfl, ⟨nd, rfl⟩⟩; refine ⟨_, rfl, ?_⟩) | (go_at_call 29; (with_reducible refine (word_SLess.calls t253 0 a2 t267 _ A41.out).mono ?_); rintro e w' ⟨rfl, ⟨nd, rfl⟩⟩) | (go_at_call 29; (with_reducible refine (word_SLess.calls t248 0 a2 t268 _ A42.out).mono ?_); rintro e w' ⟨rfl, ⟨nd, rfl⟩⟩))
                        go_ret
                        exact ⟨by first | rfl | (simp; done) | (simp [*]; done), by repeat (first | exact Drawn0.refl _ | apply Drawn0.step)⟩
                    · rw [if_neg c39] at H
                      have c39b0 : decide (x13_26 < t249) = false := decide_eq_false c39
                      clear c39
                      obtain rfl := Option.some.inj H
                      go_wp2_with (first | ((with_reducible refine gate_callee (f := 29) rfl ?_); refine goesL_ (some 94) rfl rfl Try.func29 (by kernel_rfl) rfl #[.int .u64 t249, .int .u64 0, .int .i64 a2] rfl (by (try simp only [List.map_toArray, List.map_cons, List.map_nil]); first | done | rfl | (simp only [List.length_drop, List.length_take]; rfl)) ?_; (with_reducible refine (word_SLess.calls t249 0 a2 false _ A31.out).mono ?_); rintro e w' ⟨rfl, ⟨nd, rfl⟩⟩; refine ⟨_, rfl, ?_⟩))
                      go_ret
                      exact ⟨by first | rfl | (simp; done) | (simp [*]; done), by repeat (first | exact Drawn0.refl _ | apply Drawn0.step)⟩
            · rw [if_neg c25] at H
              have c25b0 : (t258 == t248) = false := beq_eq_false_iff_ne.mpr c25
              have c25b1 : (t258 != t248) = true := bne_iff_ne.mpr c25
              obtain rfl := Option.some.inj H
              go_wp2_with (first | ((with_reducible refine gate_callee (f := 15) rfl ?_); refine goesL_ (some 76) rfl rfl Try.func15 (by kernel_rfl) rfl #[.int .u64 t252, .int .u64 t249] rfl (by (try simp only [List.map_toArray, List.map_cons, List.map_nil]); first | done | rfl | (simp only [List.length_drop, List.length_take]; rfl)) ?_; (with_reducible refine (word_Mul.calls t252 t249 t256 _ A22.out).mono ?_); rintro e w' ⟨rfl, ⟨nd, rfl⟩⟩; refine ⟨_, rfl, ?_⟩) | ((with_reducible refine gate_callee (f := 12) rfl ?_); refine goesL_ (some 78) rfl rfl Try.func12 (by kernel_rfl) rfl #[.int .u64 t256, .int .u64 t253] rfl (by (try simp only [List.map_toArray, List.map_cons, List.map_nil]); first | done | rfl | (simp only [List.length_drop, List.length_take]; rfl)) ?_; (with_reducible refine (word_Add.calls t256 t253 t257 _ A23.out).mono ?_); rintro e w' ⟨rfl, ⟨nd, rfl⟩⟩; refine ⟨_, rfl, ?_⟩) | ((with_reducible refine gate_callee (f := 21) rfl ?_); refine goesL_ (some 80) rfl rfl Try.func21 (by kernel_rfl) rfl #[.int .u64 t257, .int .i64 a2] rfl (by (try simp only [List.map_toArray, List.map_cons, List.map_nil]); first | done | rfl | (simp only [List.length_drop, List.length_take]; rfl)) ?_; (with_reducible refine (word_Narrow.calls t257 a2 t258 _ A24.out).mono ?_); rintro e w' ⟨rfl, ⟨nd, rfl⟩⟩; refine ⟨_, rfl, ?_⟩))
              go_ret
              exact ⟨by first | rfl | (simp; done) | (simp [*]; done), by repeat (first | exact Drawn0.refl _ | apply Drawn0.step)⟩
  · replace c5 := Bool.eq_false_iff.mpr c5
    subst c5
    have H1 : (some false) = some r := by rw [if_neg (show ¬ (false = true) by decide)] at H; exact H
    clear H
    have H := H1
    clear H1
    obtain rfl := Option.some.inj H
    go_enter Try.func6, Try.ntmps6
    go_wp2_with (first | ((with_reducible refine gate_callee (f := 11) rfl ?_); refine goesL_ (some 15) rfl rfl Try.func11 (by kernel_rfl) rfl #[] rfl (by (try simp only [List.map_toArray, List.map_cons, List.map_nil]); first | done | rfl | (simp only [List.length_drop, List.length_take]; rfl)) ?_; (with_reducible refine (spindlelaw1_awake.calls k  false _ A4.out).mono ?_); rintro e w' ⟨rfl, ⟨nd, rfl⟩⟩; refine ⟨_, rfl, ?_⟩))
    go_ret
    exact ⟨by first | rfl | (simp; done) | (simp [*]; done), by repeat (first | exact Drawn0.refl _ | apply Drawn0.step)⟩

/-- THE ONE PURE STATEMENT of spindlelaw1_WordDivides: yours. -/
def spindlelaw1_WordDivides.Pure : Prop := ∀ (a0 : Int) (a1 : Int) (a2 : Int), (Lit.int .u64 a0).wf = true → (Lit.int .u64 a1).wf = true → (Lit.int .i64 a2).wf = true → ∃ k, spindlelaw1_WordDivides.f k a0 a1 a2 = some true
theorem spindlelaw1_WordDivides.walk (P : spindlelaw1_WordDivides.Pure) (a0 : Int) (a1 : Int) (a2 : Int) (w : World) (w0 : (Lit.int .u64 a0).wf = true) (w1 : (Lit.int .u64 a1).wf = true) (w2 : (Lit.int .i64 a2).wf = true) :
    Calls Try.prog 6 #[.int .u64 a0, .int .u64 a1, .int .i64 a2] w fun e w' => e = .returned (.bool true) ∧ Below w.heap.size w w' := by
  obtain ⟨k, h⟩ := P a0 a1 a2 w0 w1 w2
  refine (spindlelaw1_WordDivides.calls k a0 a1 a2 true w h).mono ?_
  rintro e w' ⟨rfl, hd⟩
  exact ⟨rfl, hd.below⟩

/-! ### spindlelaw1_WordShifts: function 7 -/
def spindlelaw1_WordShifts.f (k : Nat) (a0 : Int) (a1 : Int) (a2 : Int) : Option (Bool) := (spindlelaw1_awake.f k).bind fun t269 => (if t269 = true then ((spindleref1_Wide.f a2).bind fun t270 => ((word_Mod.f a1 (IntKind.u64.wrap (t270)) 64).bind fun t271 => ((word_Shl.f 1 t271 64).bind fun t272 => ((word_Shl.f a0 a1 a2).bind fun t273 => ((word_Mul.f a0 t272).bind fun t274 => ((word_Narrow.f t274 a2).bind fun t275 => ((word_Shr.f a0 a1 a2).bind fun t276 => ((word_Narrow.f a0 a2).bind fun t277 => ((word_Div.f t277 t272 64).bind fun t278 => ((word_Sar.f a0 a1 a2).bind fun t279 => ((word_Sign.f t279 a2).bind fun t280 => ((word_Sign.f a0 a2).bind fun t281 => ((word_Mul.f t280 t272).bind fun t282 => ((word_Sub.f t281 t282).bind fun t283 => (if t273 = t275 then (if t276 = t278 then (if t283 < t272 then ((word_Shl.f a0 (IntKind.u64.wrap (t270)) a2).bind fun t284 => (if t284 = t277 then ((word_Sar.f a0 (IntKind.u64.wrap (t270)) a2).bind fun t285 => (some (t285 == t277))) else (some false))) else (some false)) else (some false)) else (some false)))))))))))))))) else (some false))
theorem spindlelaw1_WordShifts.mono : ∀ a0 a1 a2 k, LeO (spindlelaw1_WordShifts.f k a0 a1 a2) (spindlelaw1_WordShifts.f (k + 1) a0 a1 a2) := by
  intro a0 a1 a2 k
  unfold spindlelaw1_WordShifts.f
  repeat' first
      | (with_reducible exact spindlelaw1_awake.mono _)
      | (with_reducible exact LeO.refl _)
      | (with_reducible exact LeO.none _)
      | (with_reducible refine LeO.ite ?_ ?_)
      | (with_reducible refine LeO.bind ?_ (fun _ => ?_))
      | exact spindlelaw1_awake.mono _
      | exact LeO.none _
      | refine LeO.ite ?_ ?_
      | refine LeO.bind ?_ (fun _ => ?_)
set_option maxHeartbeats 8000000 in
set_option maxRecDepth 100000 in
theorem spindlelaw1_WordShifts.calls (k : Nat) (a0 : Int) (a1 : Int) (a2 : Int) (r : Bool) (w : World) (h : spindlelaw1_WordShifts.f k a0 a1 a2 = some r) :
    Calls Try.prog 7 #[.int .u64 a0, .int .u64 a1, .int .i64 a2] w fun e w' => e = .returned (.bool r) ∧ Drawn0 w w' := by
  have H : ((spindlelaw1_awake.f k).bind fun t269 => (if t269 = true then ((spindleref1_Wide.f a2).bind fun t270 => ((word_Mod.f a1 (IntKind.u64.wrap (t270)) 64).bind fun t271 => ((word_Shl.f 1 t271 64).bind fun t272 => ((word_Shl.f a0 a1 a2).bind fun t273 => ((word_Mul.f a0 t272).bind fun t274 => ((word_Narrow.f t274 a2).bind fun t275 => ((word_Shr.f a0 a1 a2).bind fun t276 => ((word_Narrow.f a0 a2).bind fun t277 => ((word_Div.f t277 t272 64).bind fun t278 => ((word_Sar.f a0 a1 a2).bind fun t279 => ((word_Sign.f t279 a2).bind fun t280 => ((word_Sign.f a0 a2).bind fun t281 => ((word_Mul.f t280 t272).bind fun t282 => ((word_Sub.f t281 t282).bind fun t283 => (if t273 = t275 then (if t276 = t278 then (if t283 < t272 then ((word_Shl.f a0 (IntKind.u64.wrap (t270)) a2).bind fun t284 => (if t284 = t277 then ((word_Sar.f a0 (IntKind.u64.wrap (t270)) a2).bind fun t285 => (some (t285 == t277))) else (some false))) else (some false)) else (some false)) else (some false)))))))))))))))) else (some false))) = some r := h
  clear h
  replace H := Option.bind_eq_some_iff.mp H
  obtain ⟨t269, A40, H⟩ := H
  replace H : (if t269 = true then ((spindleref1_Wide.f a2).bind fun t270 => ((word_Mod.f a1 (IntKind.u64.wrap (t270)) 64).bind fun t271 => ((word_Shl.f 1 t271 64).bind fun t272 => ((word_Shl.f a0 a1 a2).bind fun t273 => ((word_Mul.f a0 t272).bind fun t274 => ((word_Narrow.f t274 a2).bind fun t275 => ((word_Shr.f a0 a1 a2).bind fun t276 => ((word_Narrow.f a0 a2).bind fun t277 => ((word_Div.f t277 t272 64).bind fun t278 => ((word_Sar.f a0 a1 a2).bind fun t279 => ((word_Sign.f t279 a2).bind fun t280 => ((word_Sign.f a0 a2).bind fun t281 => ((word_Mul.f t280 t272).bind fun t282 => ((word_Sub.f t281 t282).bind fun t283 => (if t273 = t275 then (if t276 = t278 then (if t283 < t272 then ((word_Shl.f a0 (IntKind.u64.wrap (t270)) a2).bind fun t284 => (if t284 = t277 then ((word_Sar.f a0 (IntKind.u64.wrap (t270)) a2).bind fun t285 => (some (t285 == t277))) else (some false))) else (some false)) else (some false)) else (some false)))))))))))))))) else (some false)) = some r := H
  have A4 := Aside0.mk A40
  clear A40
  by_cases c5 : t269 = true
  · subst c5
    have H1 : ((spindleref1_Wide.f a2).bind fun t270 => ((word_Mod.f a1 (IntKind.u64.wrap (t270)) 64).bind fun t271 => ((word_Shl.f 1 t271 64).bind fun t272 => ((word_Shl.f a0 a1 a2).bind fun t273 => ((word_Mul.f a0 t272).bind fun t274 => ((word_Narrow.f t274 a2).bind fun t275 => ((word_Shr.f a0 a1 a2).bind fun t276 => ((word_Narrow.f a0 a2).bind fun t277 => ((word_Div.f t277 t272 64).bind fun t278 => ((word_Sar.f a0 a1 a2).bind fun t279 => ((word_Sign.f t279 a2).bind fun t280 => ((word_Sign.f a0 a2).bind fun t281 => ((word_Mul.f t280 t272).bind fun t282 => ((word_Sub.f t281 t282).bind fun t283 => (if t273 = t275 then (if t276 = t278 then (if t283 < t272 then ((word_Shl.f a0 (IntKind.u64.wrap (t270)) a2).bind fun t284 => (if t284 = t277 then ((word_Sar.f a0 (IntKind.u64.wrap (t270)) a2).bind fun t285 => (some (t285 == t277))) else (some false))) else (some false)) else (some false)) else (some false)))))))))))))))) = some r := by rw [if_pos rfl] at H; exact H
    clear H
    have H := H1
    clear H1
    replace H := Option.bind_eq_some_iff.mp H
    obtain ⟨t270, A60, H⟩ := H
    replace H : ((word_Mod.f a1 (IntKind.u64.wrap (t270)) 64).bind fun t271 => ((word_Shl.f 1 t271 64).bind fun t272 => ((word_Shl.f a0 a1 a2).bind fun t273 => ((word_Mul.f a0 t272).bind fun t274 => ((word_Narrow.f t274 a2).bind fun t275 => ((word_Shr.f a0 a1 a2).bind fun t276 => ((word_Narrow.f a0 a2).bind fun t277 => ((word_Div.f t277 t272 64).bind fun t278 => ((word_Sar.f a0 a1 a2).bind fun t279 => ((word_Sign.f t279 a2).bind fun t280 => ((word_Sign.f a0 a2).bind fun t281 => ((word_Mul.f t280 t272).bind fun t282 => ((word_Sub.f t281 t282).bind fun t283 => (if t273 = t275 then (if t276 = t278 then (if t283 < t272 then ((word_Shl.f a0 (IntKind.u64.wrap (t270)) a2).bind fun t284 => (if t284 = t277 then ((word_Sar.f a0 (IntKind.u64.wrap (t270)) a2).bind fun t285 => (some (t285 == t277))) else (some false))) else (some false)) else (some false)) else (some false))))))))))))))) = some r := H
    have A6 := Aside0.mk A60
    clear A60
    replace H := Option.bind_eq_some_iff.mp H
    obtain ⟨t271, A70, H⟩ := H
    replace H : ((word_Shl.f 1 t271 64).bind fun t272 => ((word_Shl.f a0 a1 a2).bind fun t273 => ((word_Mul.f a0 t272).bind fun t274 => ((word_Narrow.f t274 a2).bind fun t275 => ((word_Shr.f a0 a1 a2).bind fun t276 => ((word_Narrow.f a0 a2).bind fun t277 => ((word_Div.f t277 t272 64).bind fun t278 => ((word_Sar.f a0 a1 a2).bind fun t279 => ((word_Sign.f t279 a2).bind fun t280 => ((word_Sign.f a0 a2).bind fun t281 => ((word_Mul.f t280 t272).bind fun t282 => ((word_Sub.f t281 t282).bind fun t283 => (if t273 = t275 then (if t276 = t278 then (if t283 < t272 then ((word_Shl.f a0 (IntKind.u64.wrap (t270)) a2).bind fun t284 => (if t284 = t277 then ((word_Sar.f a0 (IntKind.u64.wrap (t270)) a2).bind fun t285 => (some (t285 == t277))) else (some false))) else (some false)) else (some false)) else (some false)))))))))))))) = some r := H
    have A7 := Aside0.mk A70
    clear A70
    replace H := Option.bind_eq_some_iff.mp H
    obtain ⟨t272, A80, H⟩ := H
    replace H : ((word_Shl.f a0 a1 a2).bind fun t273 => ((word_Mul.f a0 t272).bind fun t274 => ((word_Narrow.f t274 a2).bind fun t275 => ((word_Shr.f a0 a1 a2).bind fun t276 => ((word_Narrow.f a0 a2).bind fun t277 => ((word_Div.f t277 t272 64).bind fun t278 => ((word_Sar.f a0 a1 a2).bind fun t279 => ((word_Sign.f t279 a2).bind fun t280 => ((word_Sign.f a0 a2).bind fun t281 => ((word_Mul.f t280 t272).bind fun t282 => ((word_Sub.f t281 t282).bind fun t283 => (if t273 = t275 then (if t276 = t278 then (if t283 < t272 then ((word_Shl.f a0 (IntKind.u64.wrap (t270)) a2).bind fun t284 => (if t284 = t277 then ((word_Sar.f a0 (IntKind.u64.wrap (t270)) a2).bind fun t285 => (some (t285 == t277))) else (some false))) else (some false)) else (some false)) else (some false))))))))))))) = some r := H
    have A8 := Aside0.mk A80
    clear A80
    replace H := Option.bind_eq_some_iff.mp H
    obtain ⟨t273, A90, H⟩ := H
    replace H : ((word_Mul.f a0 t272).bind fun t274 => ((word_Narrow.f t274 a2).bind fun t275 => ((word_Shr.f a0 a1 a2).bind fun t276 => ((word_Narrow.f a0 a2).bind fun t277 => ((word_Div.f t277 t272 64).bind fun t278 => ((word_Sar.f a0 a1 a2).bind fun t279 => ((word_Sign.f t279 a2).bind fun t280 => ((word_Sign.f a0 a2).bind fun t281 => ((word_Mul.f t280 t272).bind fun t282 => ((word_Sub.f t281 t282).bind fun t283 => (if t273 = t275 then (if t276 = t278 then (if t283 < t272 then ((word_Shl.f a0 (IntKind.u64.wrap (t270)) a2).bind fun t284 => (if t284 = t277 then ((word_Sar.f a0 (IntKind.u64.wrap (t270)) a2).bind fun t285 => (some (t285 == t277))) else (some false))) else (some false)) else (some false)) else (some false)))))))))))) = some r := H
    have A9 := Aside0.mk A90
    clear A90
    replace H := Option.bind_eq_some_iff.mp H
    obtain ⟨t274, A100, H⟩ := H
    replace H : ((word_Narrow.f t274 a2).bind fun t275 => ((word_Shr.f a0 a1 a2).bind fun t276 => ((word_Narrow.f a0 a2).bind fun t277 => ((word_Div.f t277 t272 64).bind fun t278 => ((word_Sar.f a0 a1 a2).bind fun t279 => ((word_Sign.f t279 a2).bind fun t280 => ((word_Sign.f a0 a2).bind fun t281 => ((word_Mul.f t280 t272).bind fun t282 => ((word_Sub.f t281 t282).bind fun t283 => (if t273 = t275 then (if t276 = t278 then (if t283 < t272 then ((word_Shl.f a0 (IntKind.u64.wrap (t270)) a2).bind fun t284 => (if t284 = t277 then ((word_Sar.f a0 (IntKind.u64.wrap (t270)) a2).bind fun t285 => (some (t285 == t277))) else (some false))) else (some false)) else (some false)) else (some false))))))))))) = some r := H
    have A10 := Aside0.mk A100
    clear A100
    replace H := Option.bind_eq_some_iff.mp H
    obtain ⟨t275, A110, H⟩ := H
    replace H : ((word_Shr.f a0 a1 a2).bind fun t276 => ((word_Narrow.f a0 a2).bind fun t277 => ((word_Div.f t277 t272 64).bind fun t278 => ((word_Sar.f a0 a1 a2).bind fun t279 => ((word_Sign.f t279 a2).bind fun t280 => ((word_Sign.f a0 a2).bind fun t281 => ((word_Mul.f t280 t272).bind fun t282 => ((word_Sub.f t281 t282).bind fun t283 => (if t273 = t275 then (if t276 = t278 then (if t283 < t272 then ((word_Shl.f a0 (IntKind.u64.wrap (t270)) a2).bind fun t284 => (if t284 = t277 then ((word_Sar.f a0 (IntKind.u64.wrap (t270)) a2).bind fun t285 => (some (t285 == t277))) else (some false))) else (some false)) else (some false)) else (some false)))))))))) = some r := H
    have A11 := Aside0.mk A110
    clear A110
    replace H := Option.bind_eq_some_iff.mp H
    obtain ⟨t276, A120, H⟩ := H
    replace H : ((word_Narrow.f a0 a2).bind fun t277 => ((word_Div.f t277 t272 64).bind fun t278 => ((word_Sar.f a0 a1 a2).bind fun t279 => ((word_Sign.f t279 a2).bind fun t280 => ((word_Sign.f a0 a2).bind fun t281 => ((word_Mul.f t280 t272).bind fun t282 => ((word_Sub.f t281 t282).bind fun t283 => (if t273 = t275 then (if t276 = t278 then (if t283 < t272 then ((word_Shl.f a0 (IntKind.u64.wrap (t270)) a2).bind fun t284 => (if t284 = t277 then ((word_Sar.f a0 (IntKind.u64.wrap (t270)) a2).bind fun t285 => (some (t285 == t277))) else (some false))) else (some false)) else (some false)) else (some false))))))))) = some r := H
    have A12 := Aside0.mk A120
    clear A120
    replace H := Option.bind_eq_some_iff.mp H
    obtain ⟨t277, A130, H⟩ := H
    replace H : ((word_Div.f t277 t272 64).bind fun t278 => ((word_Sar.f a0 a1 a2).bind fun t279 => ((word_Sign.f t279 a2).bind fun t280 => ((word_Sign.f a0 a2).bind fun t281 => ((word_Mul.f t280 t272).bind fun t282 => ((word_Sub.f t281 t282).bind fun t283 => (if t273 = t275 then (if t276 = t278 then (if t283 < t272 then ((word_Shl.f a0 (IntKind.u64.wrap (t270)) a2).bind fun t284 => (if t284 = t277 then ((word_Sar.f a0 (IntKind.u64.wrap (t270)) a2).bind fun t285 => (some (t285 == t277))) else (some false))) else (some false)) else (some false)) else (some false)))))))) = some r := H
    have A13 := Aside0.mk A130
    clear A130
    replace H := Option.bind_eq_some_iff.mp H
    obtain ⟨t278, A140, H⟩ := H
    replace H : ((word_Sar.f a0 a1 a2).bind fun t279 => ((word_Sign.f t279 a2).bind fun t280 => ((word_Sign.f a0 a2).bind fun t281 => ((word_Mul.f t280 t272).bind fun t282 => ((word_Sub.f t281 t282).bind fun t283 => (if t273 = t275 then (if t276 = t278 then (if t283 < t272 then ((word_Shl.f a0 (IntKind.u64.wrap (t270)) a2).bind fun t284 => (if t284 = t277 then ((word_Sar.f a0 (IntKind.u64.wrap (t270)) a2).bind fun t285 => (some (t285 == t277))) else (some false))) else (some false)) else (some false)) else (some false))))))) = some r := H
    have A14 := Aside0.mk A140
    clear A140
    replace H := Option.bind_eq_some_iff.mp H
    obtain ⟨t279, A150, H⟩ := H
    replace H : ((word_Sign.f t279 a2).bind fun t280 => ((word_Sign.f a0 a2).bind fun t281 => ((word_Mul.f t280 t272).bind fun t282 => ((word_Sub.f t281 t282).bind fun t283 => (if t273 = t275 then (if t276 = t278 then (if t283 < t272 then ((word_Shl.f a0 (IntKind.u64.wrap (t270)) a2).bind fun t284 => (if t284 = t277 then ((word_Sar.f a0 (IntKind.u64.wrap (t270)) a2).bind fun t285 => (some (t285 == t277))) else (some false))) else (some false)) else (some false)) else (some false)))))) = some r := H
    have A15 := Aside0.mk A150
    clear A150
    replace H := Option.bind_eq_some_iff.mp H
    obtain ⟨t280, A160, H⟩ := H
    replace H : ((word_Sign.f a0 a2).bind fun t281 => ((word_Mul.f t280 t272).bind fun t282 => ((word_Sub.f t281 t282).bind fun t283 => (if t273 = t275 then (if t276 = t278 then (if t283 < t272 then ((word_Shl.f a0 (IntKind.u64.wrap (t270)) a2).bind fun t284 => (if t284 = t277 then ((word_Sar.f a0 (IntKind.u64.wrap (t270)) a2).bind fun t285 => (some (t285 == t277))) else (some false))) else (some false)) else (some false)) else (some false))))) = some r := H
    have A16 := Aside0.mk A160
    clear A160
    replace H := Option.bind_eq_some_iff.mp H
    obtain ⟨t281, A170, H⟩ := H
    replace H : ((word_Mul.f t280 t272).bind fun t282 => ((word_Sub.f t281 t282).bind fun t283 => (if t273 = t275 then (if t276 = t278 then (if t283 < t272 then ((word_Shl.f a0 (IntKind.u64.wrap (t270)) a2).bind fun t284 => (if t284 = t277 then ((word_Sar.f a0 (IntKind.u64.wrap (t270)) a2).bind fun t285 => (some (t285 == t277))) else (some false))) else (some false)) else (some false)) else (some false)))) = some r := H
    have A17 := Aside0.mk A170
    clear A170
    replace H := Option.bind_eq_some_iff.mp H
    obtain ⟨t282, A180, H⟩ := H
    replace H : ((word_Sub.f t281 t282).bind fun t283 => (if t273 = t275 then (if t276 = t278 then (if t283 < t272 then ((word_Shl.f a0 (IntKind.u64.wrap (t270)) a2).bind fun t284 => (if t284 = t277 then ((word_Sar.f a0 (IntKind.u64.wrap (t270)) a2).bind fun t285 => (some (t285 == t277))) else (some false))) else (some false)) else (some false)) else (some false))) = some r := H
    have A18 := Aside0.mk A180
    clear A180
    replace H := Option.bind_eq_some_iff.mp H
    obtain ⟨t283, A190, H⟩ := H
    replace H : (if t273 = t275 then (if t276 = t278 then (if t283 < t272 then ((word_Shl.f a0 (IntKind.u64.wrap (t270)) a2).bind fun t284 => (if t284 = t277 then ((word_Sar.f a0 (IntKind.u64.wrap (t270)) a2).bind fun t285 => (some (t285 == t277))) else (some false))) else (some false)) else (some false)) else (some false)) = some r := H
    have A19 := Aside0.mk A190
    clear A190
    by_cases c20 : t273 = t275
    · rw [if_pos c20] at H
      have c20b0 : (t273 == t275) = true := beq_iff_eq.mpr c20
      have c20b1 : (t273 != t275) = false := bne_eq_false_iff_eq.mpr c20
      clear c20
      by_cases c21 : t276 = t278
      · rw [if_pos c21] at H
        have c21b0 : (t276 == t278) = true := beq_iff_eq.mpr c21
        have c21b1 : (t276 != t278) = false := bne_eq_false_iff_eq.mpr c21
        clear c21
        by_cases c22 : t283 < t272
        · rw [if_pos c22] at H
          have c22b0 : decide (t283 < t272) = true := decide_eq_true c22
          clear c22
          replace H := Option.bind_eq_some_iff.mp H
          obtain ⟨t284, A230, H⟩ := H
          replace H : (if t284 = t277 then ((word_Sar.f a0 (IntKind.u64.wrap (t270)) a2).bind fun t285 => (some (t285 == t277))) else (some false)) = some r := H
          have A23 := Aside0.mk A230
          clear A230
          by_cases c24 : t284 = t277
          · rw [if_pos c24] at H
            have c24b0 : (t284 == t277) = true := beq_iff_eq.mpr c24
            have c24b1 : (t284 != t277) = false := bne_eq_false_iff_eq.mpr c24
            clear c24
            replace H := Option.bind_eq_some_iff.mp H
            obtain ⟨t285, A250, H⟩ := H
            replace H : (some (t285 == t277)) = some r := H
            have A25 := Aside0.mk A250
            clear A250
            obtain rfl := Option.some.inj H
            go_enter Try.func7, Try.ntmps7
            go_wp2_with (first | ((with_reducible refine gate_callee (f := 11) rfl ?_); refine goesL_ (some 14) rfl rfl Try.func11 (by kernel_rfl) rfl #[] rfl (by (try simp only [List.map_toArray, List.map_cons, List.map_nil]); first | done | rfl | (simp only [List.length_drop, List.length_take]; rfl)) ?_; (with_reducible refine (spindlelaw1_awake.calls k  true _ A4.out).mono ?_); rintro e w' ⟨rfl, ⟨nd, rfl⟩⟩; refine ⟨_, rfl, ?_⟩) | ((with_reducible refine gate_callee (f := 45) rfl ?_); refine goesL_ (some 17) rfl rfl Try.func45 (by kernel_rfl) rfl #[.int .i64 a2] rfl (by (try simp only [List.map_toArray, List.map_cons, List.map_nil]); first | done | rfl | (simp only [List.length_drop, List.length_take]; rfl)) ?_; (with_reducible refine (spindleref1_Wide.calls a2 t270 _ A6.out).mono ?_); rintro e w' ⟨rfl, ⟨nd, rfl⟩⟩; refine ⟨_, rfl, ?_⟩) | ((with_reducible refine gate_callee (f := 33) rfl ?_); refine goesL_ (some 21) rfl rfl Try.func33 (by kernel_rfl) rfl #[.int .u64 a1, .int .u64 (IntKind.u64.wrap (t270)), .int .i64 64] rfl (by (try simp only [List.map_toArray, List.map_cons, List.map_nil]); first | done | rfl | (simp only [List.length_drop, List.length_take]; rfl)) ?_; (with_reducible refine (word_Mod.calls a1 (IntKind.u64.wrap (t270)) 64 t271 _ A7.out).mono ?_); rintro e w' ⟨rfl, ⟨nd, rfl⟩⟩; refine ⟨_, rfl, ?_⟩) | ((with_reducible refine gate_callee (f := 39) rfl ?_); refine goesL_ (some 23) rfl rfl Try.func39 (by kernel_rfl) rfl #[.int .u64 1, .int .u64 t271, .int .i64 64] rfl (by (try simp only [List.map_toArray, List.map_cons, List.map_nil]); first | done | rfl | (simp only [List.length_drop, List.length_take]; rfl)) ?_; (with_reducible refine (word_Shl.calls 1 t271 64 t272 _ A8.out).mono ?_); rintro e w' ⟨rfl, ⟨nd, rfl⟩⟩; refine ⟨_, rfl, ?_⟩) | ((with_reducible refine gate_callee (f := 39) rfl ?_); refine goesL_ (some 27) rfl rfl Try.func39 (by kernel_rfl) rfl #[.int .u64 a0, .int .u64 a1, .int .i64 a2] rfl (by (try simp only [List.map_toArray, List.map_cons, List.map_nil]); first | done | rfl | (simp only [List.length_drop, List.length_take]; rfl)) ?_; (with_reducible refine (word_Shl.calls a0 a1 a2 t273 _ A9.out).mono ?_); rintro e w' ⟨rfl, ⟨nd, rfl⟩⟩; refine ⟨_, rfl, ?_⟩) | ((with_reducible refine gate_callee (f := 15) rfl ?_); refine goesL_ (some 30) rfl rfl Try.func15 (by kernel_rfl) rfl #[.int .u64 a0, .int .u64 t272] rfl (by (try simp only [List.map_toArray, List.map_cons, List.map_nil]); first | done | rfl | (simp only [List.length_drop, List.length_take]; rfl)) ?_; (with_reducible refine (word_Mul.calls a0 t272 t274 _ A10.out).mono ?_); rintro e w' ⟨rfl, ⟨nd, rfl⟩⟩; refine ⟨_, rfl, ?_⟩) | ((with_reducible refine gate_callee (f := 21) rfl ?_); refine goesL_ (some 32) rfl rfl Try.func21 (by kernel_rfl) rfl #[.int .u64 t274, .int .i64 a2] rfl (by (try simp only [List.map_toArray, List.map_cons, List.map_nil]); first | done | rfl | (simp only [List.length_drop, List.length_take]; rfl)) ?_; (with_reducible refine (word_Narrow.calls t274 a2 t275 _ A11.out).mono ?_); rintro e w' ⟨rfl, ⟨nd, rfl⟩⟩; refine ⟨_, rfl, ?_⟩) | ((with_reducible refine gate_callee (f := 41) rfl ?_); refine goesL_ (some 37) rfl rfl Try.func41 (by kernel_rfl) rfl #[.int .u64 a0, .int .u64 a1, .int .i64 a2] rfl (by (try simp only [List.map_toArray, List.map_cons, List.map_nil]); first | done | rfl | (simp only [List.length_drop, List.length_take]; rfl)) ?_; (with_reducible refine (word_Shr.calls a0 a1 a2 t276 _ A12.out).mono ?_); rintro e w' ⟨rfl, ⟨nd, rfl⟩⟩; refine ⟨_, rfl, ?_⟩) | ((with_reducible refine gate_callee (f := 21) rfl ?_); refine goesL_ (some 40) rfl rfl Try.func21 (by kernel_rfl) rfl #[.int .u64 a0, .int .i64 a2] rfl (by (try simp only [List.map_toArray, List.map_cons, List.map_nil]); first | done | rfl | (simp only [List.length_drop, List.length_take]; rfl)) ?_; (with_reducible refine (word_Narrow.calls a0 a2 t277 _ A13.out).mono ?_); rintro e w' ⟨rfl, ⟨nd, rfl⟩⟩; refine ⟨_, rfl, ?_⟩) | ((with_reducible refine gate_callee (f := 31) rfl ?_); refine goesL_ (some 42) rfl rfl Try.func31 (by kernel_rfl) rfl #[.int .u64 t277, .int .u64 t272, .int .i64 64] rfl (by (try simp only [List.map_toArray, List.map_cons, List.map_nil]); first | done | rfl | (simp only [List.length_drop, List.length_take]; rfl)) ?_; (with_reducible refine (word_Div.calls t277 t272 64 t278 _ A14.out).mono ?_); rintro e w' ⟨rfl, ⟨nd, rfl⟩⟩; refine ⟨_, rfl, ?_⟩) | ((with_reducible refine gate_callee (f := 43) rfl ?_); refine goesL_ (some 47) rfl rfl Try.func43 (by kernel_rfl) rfl #[.int .u64 a0, .int .u64 a1, .int .i64 a2] rfl (by (try simp only [List.map_toArray, List.map_cons, List.map_nil]); first | done | rfl | (simp only [List.length_drop, List.length_take]; rfl)) ?_; (with_reducible refine (word_Sar.calls a0 a1 a2 t279 _ A15.out).mono ?_); rintro e w' ⟨rfl, ⟨nd, rfl⟩⟩; refine ⟨_, rfl, ?_⟩) | ((with_reducible refine gate_callee (f := 23) rfl ?_); refine goesL_ (some 49) rfl rfl Try.func23 (by kernel_rfl) rfl #[.int .u64 t279, .int .i64 a2] rfl (by (try simp only [List.map_toArray, List.map_cons, List.map_nil]); first | done | rfl | (simp only [List.length_drop, List.length_take]; rfl)) ?_; (with_reducible refine (word_Sign.calls t279 a2 t280 _ A16.out).mono ?_); rintro e w' ⟨rfl, ⟨nd, rfl⟩⟩; refine ⟨_, rfl, ?_⟩) | ((with_reducible refine gate_callee (f := 23) rfl ?_); refine goesL_ (some 52) rfl rfl Try.func23 (by kernel_rfl) rfl #[.int .u64 a0, .int .i64 a2] rfl (by (try simp only [List.map_toArray, List.map_cons, List.map_nil]); first | done | rfl | (simp only [List.length_drop, List.length_take]; rfl)) ?_; (with_reducible refine (word_Sign.calls a0 a2 t281 _ A17.out).mono ?_); rintro e w' ⟨rfl, ⟨nd, rfl⟩⟩; refine ⟨_, rfl, ?_⟩) | ((with_reducible refine gate_callee (f := 15) rfl ?_); refine goesL_ (some 55) rfl rfl Try.func15 (by kernel_rfl) rfl #[.int .u64 t280, .int .u64 t272] rfl (by (try simp only [List.map_toArray, List.map_cons, List.map_nil]); first | done | rfl | (simp only [List.length_drop, List.length_take]; rfl)) ?_; (with_reducible refine (word_Mul.calls t280 t272 t282 _ A18.out).mono ?_); rintro e w' ⟨rfl, ⟨nd, rfl⟩⟩; refine ⟨_, rfl, ?_⟩) | ((with_reducible refine gate_callee (f := 13) rfl ?_); refine goesL_ (some 56) rfl rfl Try.func13 (by kernel_rfl) rfl #[.int .u64 t281, .int .u64 t282] rfl (by (try simp only [List.map_toArray, List.map_cons, List.map_nil]); first | done | rfl | (simp only [List.length_drop, List.length_take]; rfl)) ?_; (with_reducible refine (word_Sub.calls t281 t282 t283 _ A19.out).mono ?_); rintro e w' ⟨rfl, ⟨nd, rfl⟩⟩; refine ⟨_, rfl, ?_⟩) | (go_at_call 39; (with_reducible refine (word_Shl.calls a0 (IntKind.u64.wrap (t270)) a2 t284 _ A23.out).mono ?_); rintro e w' ⟨rfl, ⟨nd, rfl⟩⟩) | (go_at_call 21; (with_reducible refine (word_Narrow.calls a0 a2 t277 _ A13.out).mono ?_); rintro e w' ⟨rfl, ⟨nd, rfl⟩⟩) | (go_at_call 43; (with_reducible refine (word_Sar.calls a0 (IntKind.u64.wrap (t270)) a2 t285 _ A25.out).mono ?_); rintro e w' ⟨rfl, ⟨nd, rfl⟩⟩) | (go_at_call 21; (with_reducible refine (word_Narrow.calls a0 a2 t277 _ A13.out).mono ?_); rintro e w' ⟨rfl, ⟨nd, rfl⟩⟩))
            go_ret
            exact ⟨by first | rfl | (simp; done) | (simp [*]; done), by repeat (first | exact Drawn0.refl _ | apply Drawn0.step)⟩
          · rw [if_neg c24] at H
            have c24b0 : (t284 == t277) = false := beq_eq_false_iff_ne.mpr c24
            have c24b1 : (t284 != t277) = true := bne_iff_ne.mpr c24
            obtain rfl := Option.some.inj H
            go_enter Try.func7, Try.ntmps7
            go_wp2_with (first | ((with_reducible refine gate_callee (f := 11) rfl ?_); refine goesL_ (some 14) rfl rfl Try.func11 (by kernel_rfl) rfl #[] rfl (by (try simp only [List.map_toArray, List.map_cons, List.map_nil]); first | done | rfl | (simp only [List.length_drop, List.length_take]; rfl)) ?_; (with_reducible refine (spindlelaw1_awake.calls k  true _ A4.out).mono ?_); rintro e w' ⟨rfl, ⟨nd, rfl⟩⟩; refine ⟨_, rfl, ?_⟩) | ((with_reducible refine gate_callee (f := 45) rfl ?_); refine goesL_ (some 17) rfl rfl Try.func45 (by kernel_rfl) rfl #[.int .i64 a2] rfl (by (try simp only [List.map_toArray, List.map_cons, List.map_nil]); first | done | rfl | (simp only [List.length_drop, List.length_take]; rfl)) ?_; (with_reducible refine (spindleref1_Wide.calls a2 t270 _ A6.out).mono ?_); rintro e w' ⟨rfl, ⟨nd, rfl⟩⟩; refine ⟨_, rfl, ?_⟩) | ((with_reducible refine gate_callee (f := 33) rfl ?_); refine goesL_ (some 21) rfl rfl Try.func33 (by kernel_rfl) rfl #[.int .u64 a1, .int .u64 (IntKind.u64.wrap (t270)), .int .i64 64] rfl (by (try simp only [List.map_toArray, List.map_cons, List.map_nil]); first | done | rfl | (simp only [List.length_drop, List.length_take]; rfl)) ?_; (with_reducible refine (word_Mod.calls a1 (IntKind.u64.wrap (t270)) 64 t271 _ A7.out).mono ?_); rintro e w' ⟨rfl, ⟨nd, rfl⟩⟩; refine ⟨_, rfl, ?_⟩) | ((with_reducible refine gate_callee (f := 39) rfl ?_); refine goesL_ (some 23) rfl rfl Try.func39 (by kernel_rfl) rfl #[.int .u64 1, .int .u64 t271, .int .i64 64] rfl (by (try simp only [List.map_toArray, List.map_cons, List.map_nil]); first | done | rfl | (simp only [List.length_drop, List.length_take]; rfl)) ?_; (with_reducible refine (word_Shl.calls 1 t271 64 t272 _ A8.out).mono ?_); rintro e w' ⟨rfl, ⟨nd, rfl⟩⟩; refine ⟨_, rfl, ?_⟩) | ((with_reducible refine gate_callee (f := 39) rfl ?_); refine goesL_ (some 27) rfl rfl Try.func39 (by kernel_rfl) rfl #[.int .u64 a0, .int .u64 a1, .int .i64 a2] rfl (by (try simp only [List.map_toArray, List.map_cons, List.map_nil]); first | done | rfl | (simp only [List.length_drop, List.length_take]; rfl)) ?_; (with_reducible refine (word_Shl.calls a0 a1 a2 t273 _ A9.out).mono ?_); rintro e w' ⟨rfl, ⟨nd, rfl⟩⟩; refine ⟨_, rfl, ?_⟩) | ((with_reducible refine gate_callee (f := 15) rfl ?_); refine goesL_ (some 30) rfl rfl Try.func15 (by kernel_rfl) rfl #[.int .u64 a0, .int .u64 t272] rfl (by (try simp only [List.map_toArray, List.map_cons, List.map_nil]); first | done | rfl | (simp only [List.length_drop, List.length_take]; rfl)) ?_; (with_reducible refine (word_Mul.calls a0 t272 t274 _ A10.out).mono ?_); rintro e w' ⟨rfl, ⟨nd, rfl⟩⟩; refine ⟨_, rfl, ?_⟩) | ((with_reducible refine gate_callee (f := 21) rfl ?_); refine goesL_ (some 32) rfl rfl Try.func21 (by kernel_rfl) rfl #[.int .u64 t274, .int .i64 a2] rfl (by (try simp only [List.map_toArray, List.map_cons, List.map_nil]); first | done | rfl | (simp only [List.length_drop, List.length_take]; rfl)) ?_; (with_reducible refine (word_Narrow.calls t274 a2 t275 _ A11.out).mono ?_); rintro e w' ⟨rfl, ⟨nd, rfl⟩⟩; refine ⟨_, rfl, ?_⟩) | ((with_reducible refine gate_callee (f := 41) rfl ?_); refine goesL_ (some 37) rfl rfl Try.func41 (by kernel_rfl) rfl #[.int .u64 a0, .int .u64 a1, .int .i64 a2] rfl (by (try simp only [List.map_toArray, List.map_cons, List.map_nil]); first | done | rfl | (simp only [List.length_drop, List.length_take]; rfl)) ?_; (with_reducible refine (word_Shr.calls a0 a1 a2 t276 _ A12.out).mono ?_); rintro e w' ⟨rfl, ⟨nd, rfl⟩⟩; refine ⟨_, rfl, ?_⟩) | ((with_reducible refine gate_callee (f := 21) rfl ?_); refine goesL_ (some 40) rfl rfl Try.func21 (by kernel_rfl) rfl #[.int .u64 a0, .int .i64 a2] rfl (by (try simp only [List.map_toArray, List.map_cons, List.map_nil]); first | done | rfl | (simp only [List.length_drop, List.length_take]; rfl)) ?_; (with_reducible refine (word_Narrow.calls a0 a2 t277 _ A13.out).mono ?_); rintro e w' ⟨rfl, ⟨nd, rfl⟩⟩; refine ⟨_, rfl, ?_⟩) | ((with_reducible refine gate_callee (f := 31) rfl ?_); refine goesL_ (some 42) rfl rfl Try.func31 (by kernel_rfl) rfl #[.int .u64 t277, .int .u64 t272, .int .i64 64] rfl (by (try simp only [List.map_toArray, List.map_cons, List.map_nil]); first | done | rfl | (simp only [List.length_drop, List.length_take]; rfl)) ?_; (with_reducible refine (word_Div.calls t277 t272 64 t278 _ A14.out).mono ?_); rintro e w' ⟨rfl, ⟨nd, rfl⟩⟩; refine ⟨_, rfl, ?_⟩) | ((with_reducible refine gate_callee (f := 43) rfl ?_); refine goesL_ (some 47) rfl rfl Try.func43 (by kernel_rfl) rfl #[.int .u64 a0, .int .u64 a1, .int .i64 a2] rfl (by (try simp only [List.map_toArray, List.map_cons, List.map_nil]); first | done | rfl | (simp only [List.length_drop, List.length_take]; rfl)) ?_; (with_reducible refine (word_Sar.calls a0 a1 a2 t279 _ A15.out).mono ?_); rintro e w' ⟨rfl, ⟨nd, rfl⟩⟩; refine ⟨_, rfl, ?_⟩) | ((with_reducible refine gate_callee (f := 23) rfl ?_); refine goesL_ (some 49) rfl rfl Try.func23 (by kernel_rfl) rfl #[.int .u64 t279, .int .i64 a2] rfl (by (try simp only [List.map_toArray, List.map_cons, List.map_nil]); first | done | rfl | (simp only [List.length_drop, List.length_take]; rfl)) ?_; (with_reducible refine (word_Sign.calls t279 a2 t280 _ A16.out).mono ?_); rintro e w' ⟨rfl, ⟨nd, rfl⟩⟩; refine ⟨_, rfl, ?_⟩) | ((with_reducible refine gate_callee (f := 23) rfl ?_); refine goesL_ (some 52) rfl rfl Try.func23 (by kernel_rfl) rfl #[.int .u64 a0, .int .i64 a2] rfl (by (try simp only [List.map_toArray, List.map_cons, List.map_nil]); first | done | rfl | (simp only [List.length_drop, List.length_take]; rfl)) ?_; (with_reducible refine (word_Sign.calls a0 a2 t281 _ A17.out).mono ?_); rintro e w' ⟨rfl, ⟨nd, rfl⟩⟩; refine ⟨_, rfl, ?_⟩) | ((with_reducible refine gate_callee (f := 15) rfl ?_); refine goesL_ (some 55) rfl rfl Try.func15 (by kernel_rfl) rfl #[.int .u64 t280, .int .u64 t272] rfl (by (try simp only [List.map_toArray, List.map_cons, List.map_nil]); first | done | rfl | (simp only [List.length_drop, List.length_take]; rfl)) ?_; (with_reducible refine (word_Mul.calls t280 t272 t282 _ A18.out).mono ?_); rintro e w' ⟨rfl, ⟨nd, rfl⟩⟩; refine ⟨_, rfl, ?_⟩) | ((with_reducible refine gate_callee (f := 13) rfl ?_); refine goesL_ (some 56) rfl rfl Try.func13 (by kernel_rfl) rfl #[.int .u64 t281, .int .u64 t282] rfl (by (try simp only [List.map_toArray, List.map_cons, List.map_nil]); first | done | rfl | (simp only [List.length_drop, List.length_take]; rfl)) ?_; (with_reducible refine (word_Sub.calls t281 t282 t283 _ A19.out).mono ?_); rintro e w' ⟨rfl, ⟨nd, rfl⟩⟩; refine ⟨_, rfl, ?_⟩) | (go_at_call 39; (with_reducible refine (word_Shl.calls a0 (IntKind.u64.wrap (t270)) a2 t284 _ A23.out).mono ?_); rintro e w' ⟨rfl, ⟨nd, rfl⟩⟩) | (go_at_call 21; (with_reducible refine (word_Narrow.calls a0 a2 t277 _ A13.out).mono ?_); rintro e w' ⟨rfl, ⟨nd, rfl⟩⟩))
            go_ret
            exact ⟨by first | rfl | (simp; done) | (simp [*]; done), by repeat (first | exact Drawn0.refl _ | apply Drawn0.step)⟩
        · rw [if_neg c22] at H
          have c22b0 : decide (t283 < t272) = false := decide_eq_false c22
          clear c22
          obtain rfl := Option.some.inj H
          go_enter Try.func7, Try.ntmps7
          go_wp2_with (first | ((with_reducible refine gate_callee (f := 11) rfl ?_); refine goesL_ (some 14) rfl rfl Try.func11 (by kernel_rfl) rfl #[] rfl (by (try simp only [List.map_toArray, List.map_cons, List.map_nil]); first | done | rfl | (simp only [List.length_drop, List.length_take]; rfl)) ?_; (with_reducible refine (spindlelaw1_awake.calls k  true _ A4.out).mono ?_); rintro e w' ⟨rfl, ⟨nd, rfl⟩⟩; refine ⟨_, rfl, ?_⟩) | ((with_reducible refine gate_callee (f := 45) rfl ?_); refine goesL_ (some 17) rfl rfl Try.func45 (by kernel_rfl) rfl #[.int .i64 a2] rfl (by (try simp only [List.map_toArray, List.map_cons, List.map_nil]); first | done | rfl | (simp only [List.length_drop, List.length_take]; rfl)) ?_; (with_reducible refine (spindleref1_Wide.calls a2 t270 _ A6.out).mono ?_); rintro e w' ⟨rfl, ⟨nd, rfl⟩⟩; refine ⟨_, rfl, ?_⟩) | ((with_reducible refine gate_callee (f := 33) rfl ?_); refine goesL_ (some 21) rfl rfl Try.func33 (by kernel_rfl) rfl #[.int .u64 a1, .int .u64 (IntKind.u64.wrap (t270)), .int .i64 64] rfl (by (try simp only [List.map_toArray, List.map_cons, List.map_nil]); first | done | rfl | (simp only [List.length_drop, List.length_take]; rfl)) ?_; (with_reducible refine (word_Mod.calls a1 (IntKind.u64.wrap (t270)) 64 t271 _ A7.out).mono ?_); rintro e w' ⟨rfl, ⟨nd, rfl⟩⟩; refine ⟨_, rfl, ?_⟩) | ((with_reducible refine gate_callee (f := 39) rfl ?_); refine goesL_ (some 23) rfl rfl Try.func39 (by kernel_rfl) rfl #[.int .u64 1, .int .u64 t271, .int .i64 64] rfl (by (try simp only [List.map_toArray, List.map_cons, List.map_nil]); first | done | rfl | (simp only [List.length_drop, List.length_take]; rfl)) ?_; (with_reducible refine (word_Shl.calls 1 t271 64 t272 _ A8.out).mono ?_); rintro e w' ⟨rfl, ⟨nd, rfl⟩⟩; refine ⟨_, rfl, ?_⟩) | ((with_reducible refine gate_callee (f := 39) rfl ?_); refine goesL_ (some 27) rfl rfl Try.func39 (by kernel_rfl) rfl #[.int .u64 a0, .int .u64 a1, .int .i64 a2] rfl (by (try simp only [List.map_toArray, List.map_cons, List.map_nil]); first | done | rfl | (simp only [List.length_drop, List.length_take]; rfl)) ?_; (with_reducible refine (word_Shl.calls a0 a1 a2 t273 _ A9.out).mono ?_); rintro e w' ⟨rfl, ⟨nd, rfl⟩⟩; refine ⟨_, rfl, ?_⟩) | ((with_reducible refine gate_callee (f := 15) rfl ?_); refine goesL_ (some 30) rfl rfl Try.func15 (by kernel_rfl) rfl #[.int .u64 a0, .int .u64 t272] rfl (by (try simp only [List.map_toArray, List.map_cons, List.map_nil]); first | done | rfl | (simp only [List.length_drop, List.length_take]; rfl)) ?_; (with_reducible refine (word_Mul.calls a0 t272 t274 _ A10.out).mono ?_); rintro e w' ⟨rfl, ⟨nd, rfl⟩⟩; refine ⟨_, rfl, ?_⟩) | ((with_reducible refine gate_callee (f := 21) rfl ?_); refine goesL_ (some 32) rfl rfl Try.func21 (by kernel_rfl) rfl #[.int .u64 t274, .int .i64 a2] rfl (by (try simp only [List.map_toArray, List.map_cons, List.map_nil]); first | done | rfl | (simp only [List.length_drop, List.length_take]; rfl)) ?_; (with_reducible refine (word_Narrow.calls t274 a2 t275 _ A11.out).mono ?_); rintro e w' ⟨rfl, ⟨nd, rfl⟩⟩; refine ⟨_, rfl, ?_⟩) | ((with_reducible refine gate_callee (f := 41) rfl ?_); refine goesL_ (some 37) rfl rfl Try.func41 (by kernel_rfl) rfl #[.int .u64 a0, .int .u64 a1, .int .i64 a2] rfl (by (try simp only [List.map_toArray, List.map_cons, List.map_nil]); first | done | rfl | (simp only [List.length_drop, List.length_take]; rfl)) ?_; (with_reducible refine (word_Shr.calls a0 a1 a2 t276 _ A12.out).mono ?_); rintro e w' ⟨rfl, ⟨nd, rfl⟩⟩; refine ⟨_, rfl, ?_⟩) | ((with_reducible refine gate_callee (f := 21) rfl ?_); refine goesL_ (some 40) rfl rfl Try.func21 (by kernel_rfl) rfl #[.int .u64 a0, .int .i64 a2] rfl (by (try simp only [List.map_toArray, List.map_cons, List.map_nil]); first | done | rfl | (simp only [List.length_drop, List.length_take]; rfl)) ?_; (with_reducible refine (word_Narrow.calls a0 a2 t277 _ A13.out).mono ?_); rintro e w' ⟨rfl, ⟨nd, rfl⟩⟩; refine ⟨_, rfl, ?_⟩) | ((with_reducible refine gate_callee (f := 31) rfl ?_); refine goesL_ (some 42) rfl rfl Try.func31 (by kernel_rfl) rfl #[.int .u64 t277, .int .u64 t272, .int .i64 64] rfl (by (try simp only [List.map_toArray, List.map_cons, List.map_nil]); first | done | rfl | (simp only [List.length_drop, List.length_take]; rfl)) ?_; (with_reducible refine (word_Div.calls t277 t272 64 t278 _ A14.out).mono ?_); rintro e w' ⟨rfl, ⟨nd, rfl⟩⟩; refine ⟨_, rfl, ?_⟩) | ((with_reducible refine gate_callee (f := 43) rfl ?_); refine goesL_ (some 47) rfl rfl Try.func43 (by kernel_rfl) rfl #[.int .u64 a0, .int .u64 a1, .int .i64 a2] rfl (by (try simp only [List.map_toArray, List.map_cons, List.map_nil]); first | done | rfl | (simp only [List.length_drop, List.length_take]; rfl)) ?_; (with_reducible refine (word_Sar.calls a0 a1 a2 t279 _ A15.out).mono ?_); rintro e w' ⟨rfl, ⟨nd, rfl⟩⟩; refine ⟨_, rfl, ?_⟩) | ((with_reducible refine gate_callee (f := 23) rfl ?_); refine goesL_ (some 49) rfl rfl Try.func23 (by kernel_rfl) rfl #[.int .u64 t279, .int .i64 a2] rfl (by (try simp only [List.map_toArray, List.map_cons, List.map_nil]); first | done | rfl | (simp only [List.length_drop, List.length_take]; rfl)) ?_; (with_reducible refine (word_Sign.calls t279 a2 t280 _ A16.out).mono ?_); rintro e w' ⟨rfl, ⟨nd, rfl⟩⟩; refine ⟨_, rfl, ?_⟩) | ((with_reducible refine gate_callee (f := 23) rfl ?_); refine goesL_ (some 52) rfl rfl Try.func23 (by kernel_rfl) rfl #[.int .u64 a0, .int .i64 a2] rfl (by (try simp only [List.map_toArray, List.map_cons, List.map_nil]); first | done | rfl | (simp only [List.length_drop, List.length_take]; rfl)) ?_; (with_reducible refine (word_Sign.calls a0 a2 t281 _ A17.out).mono ?_); rintro e w' ⟨rfl, ⟨nd, rfl⟩⟩; refine ⟨_, rfl, ?_⟩) | ((with_reducible refine gate_callee (f := 15) rfl ?_); refine goesL_ (some 55) rfl rfl Try.func15 (by kernel_rfl) rfl #[.int .u64 t280, .int .u64 t272] rfl (by (try simp only [List.map_toArray, List.map_cons, List.map_nil]); first | done | rfl | (simp only [List.length_drop, List.length_take]; rfl)) ?_; (with_reducible refine (word_Mul.calls t280 t272 t282 _ A18.out).mono ?_); rintro e w' ⟨rfl, ⟨nd, rfl⟩⟩; refine ⟨_, rfl, ?_⟩) | ((with_reducible refine gate_callee (f := 13) rfl ?_); refine goesL_ (some 56) rfl rfl Try.func13 (by kernel_rfl) rfl #[.int .u64 t281, .int .u64 t282] rfl (by (try simp only [List.map_toArray, List.map_cons, List.map_nil]); first | done | rfl | (simp only [List.length_drop, List.length_take]; rfl)) ?_; (with_reducible refine (word_Sub.calls t281 t282 t283 _ A19.out).mono ?_); rintro e w' ⟨rfl, ⟨nd, rfl⟩⟩; refine ⟨_, rfl, ?_⟩))
          go_ret
          exact ⟨by first | rfl | (simp; done) | (simp [*]; done), by repeat (first | exact Drawn0.refl _ | apply Drawn0.step)⟩
      · rw [if_neg c21] at H
        have c21b0 : (t276 == t278) = false := beq_eq_false_iff_ne.mpr c21
        have c21b1 : (t276 != t278) = true := bne_iff_ne.mpr c21
        obtain rfl := Option.some.inj H
        go_enter Try.func7, Try.ntmps7
        go_wp2_with (first | ((with_reducible refine gate_callee (f := 11) rfl ?_); refine goesL_ (some 14) rfl rfl Try.func11 (by kernel_rfl) rfl #[] rfl (by (try simp only [List.map_toArray, List.map_cons, List.map_nil]); first | done | rfl | (simp only [List.length_drop, List.length_take]; rfl)) ?_; (with_reducible refine (spindlelaw1_awake.calls k  true _ A4.out).mono ?_); rintro e w' ⟨rfl, ⟨nd, rfl⟩⟩; refine ⟨_, rfl, ?_⟩) | ((with_reducible refine gate_callee (f := 45) rfl ?_); refine goesL_ (some 17) rfl rfl Try.func45 (by kernel_rfl) rfl #[.int .i64 a2] rfl (by (try simp only [List.map_toArray, List.map_cons, List.map_nil]); first | done | rfl | (simp only [List.length_drop, List.length_take]; rfl)) ?_; (with_reducible refine (spindleref1_Wide.calls a2 t270 _ A6.out).mono ?_); rintro e w' ⟨rfl, ⟨nd, rfl⟩⟩; refine ⟨_, rfl, ?_⟩) | ((with_reducible refine gate_callee (f := 33) rfl ?_); refine goesL_ (some 21) rfl rfl Try.func33 (by kernel_rfl) rfl #[.int .u64 a1, .int .u64 (IntKind.u64.wrap (t270)), .int .i64 64] rfl (by (try simp only [List.map_toArray, List.map_cons, List.map_nil]); first | done | rfl | (simp only [List.length_drop, List.length_take]; rfl)) ?_; (with_reducible refine (word_Mod.calls a1 (IntKind.u64.wrap (t270)) 64 t271 _ A7.out).mono ?_); rintro e w' ⟨rfl, ⟨nd, rfl⟩⟩; refine ⟨_, rfl, ?_⟩) | ((with_reducible refine gate_callee (f := 39) rfl ?_); refine goesL_ (some 23) rfl rfl Try.func39 (by kernel_rfl) rfl #[.int .u64 1, .int .u64 t271, .int .i64 64] rfl (by (try simp only [List.map_toArray, List.map_cons, List.map_nil]); first | done | rfl | (simp only [List.length_drop, List.length_take]; rfl)) ?_; (with_reducible refine (word_Shl.calls 1 t271 64 t272 _ A8.out).mono ?_); rintro e w' ⟨rfl, ⟨nd, rfl⟩⟩; refine ⟨_, rfl, ?_⟩) | ((with_reducible refine gate_callee (f := 39) rfl ?_); refine goesL_ (some 27) rfl rfl Try.func39 (by kernel_rfl) rfl #[.int .u64 a0, .int .u64 a1, .int .i64 a2] rfl (by (try simp only [List.map_toArray, List.map_cons, List.map_nil]); first | done | rfl | (simp only [List.length_drop, List.length_take]; rfl)) ?_; (with_reducible refine (word_Shl.calls a0 a1 a2 t273 _ A9.out).mono ?_); rintro e w' ⟨rfl, ⟨nd, rfl⟩⟩; refine ⟨_, rfl, ?_⟩) | ((with_reducible refine gate_callee (f := 15) rfl ?_); refine goesL_ (some 30) rfl rfl Try.func15 (by kernel_rfl) rfl #[.int .u64 a0, .int .u64 t272] rfl (by (try simp only [List.map_toArray, List.map_cons, List.map_nil]); first | done | rfl | (simp only [List.length_drop, List.length_take]; rfl)) ?_; (with_reducible refine (word_Mul.calls a0 t272 t274 _ A10.out).mono ?_); rintro e w' ⟨rfl, ⟨nd, rfl⟩⟩; refine ⟨_, rfl, ?_⟩) | ((with_reducible refine gate_callee (f := 21) rfl ?_); refine goesL_ (some 32) rfl rfl Try.func21 (by kernel_rfl) rfl #[.int .u64 t274, .int .i64 a2] rfl (by (try simp only [List.map_toArray, List.map_cons, List.map_nil]); first | done | rfl | (simp only [List.length_drop, List.length_take]; rfl)) ?_; (with_reducible refine (word_Narrow.calls t274 a2 t275 _ A11.out).mono ?_); rintro e w' ⟨rfl, ⟨nd, rfl⟩⟩; refine ⟨_, rfl, ?_⟩) | ((with_reducible refine gate_callee (f := 41) rfl ?_); refine goesL_ (some 37) rfl rfl Try.func41 (by kernel_rfl) rfl #[.int .u64 a0, .int .u64 a1, .int .i64 a2] rfl (by (try simp only [List.map_toArray, List.map_cons, List.map_nil]); first | done | rfl | (simp only [List.length_drop, List.length_take]; rfl)) ?_; (with_reducible refine (word_Shr.calls a0 a1 a2 t276 _ A12.out).mono ?_); rintro e w' ⟨rfl, ⟨nd, rfl⟩⟩; refine ⟨_, rfl, ?_⟩) | ((with_reducible refine gate_callee (f := 21) rfl ?_); refine goesL_ (some 40) rfl rfl Try.func21 (by kernel_rfl) rfl #[.int .u64 a0, .int .i64 a2] rfl (by (try simp only [List.map_toArray, List.map_cons, List.map_nil]); first | done | rfl | (simp only [List.length_drop, List.length_take]; rfl)) ?_; (with_reducible refine (word_Narrow.calls a0 a2 t277 _ A13.out).mono ?_); rintro e w' ⟨rfl, ⟨nd, rfl⟩⟩; refine ⟨_, rfl, ?_⟩) | ((with_reducible refine gate_callee (f := 31) rfl ?_); refine goesL_ (some 42) rfl rfl Try.func31 (by kernel_rfl) rfl #[.int .u64 t277, .int .u64 t272, .int .i64 64] rfl (by (try simp only [List.map_toArray, List.map_cons, List.map_nil]); first | done | rfl | (simp only [List.length_drop, List.length_take]; rfl)) ?_; (with_reducible refine (word_Div.calls t277 t272 64 t278 _ A14.out).mono ?_); rintro e w' ⟨rfl, ⟨nd, rfl⟩⟩; refine ⟨_, rfl, ?_⟩) | ((with_reducible refine gate_callee (f := 43) rfl ?_); refine goesL_ (some 47) rfl rfl Try.func43 (by kernel_rfl) rfl #[.int .u64 a0, .int .u64 a1, .int .i64 a2] rfl (by (try simp only [List.map_toArray, List.map_cons, List.map_nil]); first | done | rfl | (simp only [List.length_drop, List.length_take]; rfl)) ?_; (with_reducible refine (word_Sar.calls a0 a1 a2 t279 _ A15.out).mono ?_); rintro e w' ⟨rfl, ⟨nd, rfl⟩⟩; refine ⟨_, rfl, ?_⟩) | ((with_reducible refine gate_callee (f := 23) rfl ?_); refine goesL_ (some 49) rfl rfl Try.func23 (by kernel_rfl) rfl #[.int .u64 t279, .int .i64 a2] rfl (by (try simp only [List.map_toArray, List.map_cons, List.map_nil]); first | done | rfl | (simp only [List.length_drop, List.length_take]; rfl)) ?_; (with_reducible refine (word_Sign.calls t279 a2 t280 _ A16.out).mono ?_); rintro e w' ⟨rfl, ⟨nd, rfl⟩⟩; refine ⟨_, rfl, ?_⟩) | ((with_reducible refine gate_callee (f := 23) rfl ?_); refine goesL_ (some 52) rfl rfl Try.func23 (by kernel_rfl) rfl #[.int .u64 a0, .int .i64 a2] rfl (by (try simp only [List.map_toArray, List.map_cons, List.map_nil]); first | done | rfl | (simp only [List.length_drop, List.length_take]; rfl)) ?_; (with_reducible refine (word_Sign.calls a0 a2 t281 _ A17.out).mono ?_); rintro e w' ⟨rfl, ⟨nd, rfl⟩⟩; refine ⟨_, rfl, ?_⟩) | ((with_reducible refine gate_callee (f := 15) rfl ?_); refine goesL_ (some 55) rfl rfl Try.func15 (by kernel_rfl) rfl #[.int .u64 t280, .int .u64 t272] rfl (by (try simp only [List.map_toArray, List.map_cons, List.map_nil]); first | done | rfl | (simp only [List.length_drop, List.length_take]; rfl)) ?_; (with_reducible refine (word_Mul.calls t280 t272 t282 _ A18.out).mono ?_); rintro e w' ⟨rfl, ⟨nd, rfl⟩⟩; refine ⟨_, rfl, ?_⟩) | ((with_reducible refine gate_callee (f := 13) rfl ?_); refine goesL_ (some 56) rfl rfl Try.func13 (by kernel_rfl) rfl #[.int .u64 t281, .int .u64 t282] rfl (by (try simp only [List.map_toArray, List.map_cons, List.map_nil]); first | done | rfl | (simp only [List.length_drop, List.length_take]; rfl)) ?_; (with_reducible refine (word_Sub.calls t281 t282 t283 _ A19.out).mono ?_); rintro e w' ⟨rfl, ⟨nd, rfl⟩⟩; refine ⟨_, rfl, ?_⟩))
        go_ret
        exact ⟨by first | rfl | (simp; done) | (simp [*]; done), by repeat (first | exact Drawn0.refl _ | apply Drawn0.step)⟩
    · rw [if_neg c20] at H
      have c20b0 : (t273 == t275) = false := beq_eq_false_iff_ne.mpr c20
      have c20b1 : (t273 != t275) = true := bne_iff_ne.mpr c20
      obtain rfl := Option.some.inj H
      go_enter Try.func7, Try.ntmps7
      go_wp2_with (first | ((with_reducible refine gate_callee (f := 11) rfl ?_); refine goesL_ (some 14) rfl rfl Try.func11 (by kernel_rfl) rfl #[] rfl (by (try simp only [List.map_toArray, List.map_cons, List.map_nil]); first | done | rfl | (simp only [List.length_drop, List.length_take]; rfl)) ?_; (with_reducible refine (spindlelaw1_awake.calls k  true _ A4.out).mono ?_); rintro e w' ⟨rfl, ⟨nd, rfl⟩⟩; refine ⟨_, rfl, ?_⟩) | ((with_reducible refine gate_callee (f := 45) rfl ?_); refine goesL_ (some 17) rfl rfl Try.func45 (by kernel_rfl) rfl #[.int .i64 a2] rfl (by (try simp only [List.map_toArray, List.map_cons, List.map_nil]); first | done | rfl | (simp only [List.length_drop, List.length_take]; rfl)) ?_; (with_reducible refine (spindleref1_Wide.calls a2 t270 _ A6.out).mono ?_); rintro e w' ⟨rfl, ⟨nd, rfl⟩⟩; refine ⟨_, rfl, ?_⟩) | ((with_reducible refine gate_callee (f := 33) rfl ?_); refine goesL_ (some 21) rfl rfl Try.func33 (by kernel_rfl) rfl #[.int .u64 a1, .int .u64 (IntKind.u64.wrap (t270)), .int .i64 64] rfl (by (try simp only [List.map_toArray, List.map_cons, List.map_nil]); first | done | rfl | (simp only [List.length_drop, List.length_take]; rfl)) ?_; (with_reducible refine (word_Mod.calls a1 (IntKind.u64.wrap (t270)) 64 t271 _ A7.out).mono ?_); rintro e w' ⟨rfl, ⟨nd, rfl⟩⟩; refine ⟨_, rfl, ?_⟩) | ((with_reducible refine gate_callee (f := 39) rfl ?_); refine goesL_ (some 23) rfl rfl Try.func39 (by kernel_rfl) rfl #[.int .u64 1, .int .u64 t271, .int .i64 64] rfl (by (try simp only [List.map_toArray, List.map_cons, List.map_nil]); first | done | rfl | (simp only [List.length_drop, List.length_take]; rfl)) ?_; (with_reducible refine (word_Shl.calls 1 t271 64 t272 _ A8.out).mono ?_); rintro e w' ⟨rfl, ⟨nd, rfl⟩⟩; refine ⟨_, rfl, ?_⟩) | ((with_reducible refine gate_callee (f := 39) rfl ?_); refine goesL_ (some 27) rfl rfl Try.func39 (by kernel_rfl) rfl #[.int .u64 a0, .int .u64 a1, .int .i64 a2] rfl (by (try simp only [List.map_toArray, List.map_cons, List.map_nil]); first | done | rfl | (simp only [List.length_drop, List.length_take]; rfl)) ?_; (with_reducible refine (word_Shl.calls a0 a1 a2 t273 _ A9.out).mono ?_); rintro e w' ⟨rfl, ⟨nd, rfl⟩⟩; refine ⟨_, rfl, ?_⟩) | ((with_reducible refine gate_callee (f := 15) rfl ?_); refine goesL_ (some 30) rfl rfl Try.func15 (by kernel_rfl) rfl #[.int .u64 a0, .int .u64 t272] rfl (by (try simp only [List.map_toArray, List.map_cons, List.map_nil]); first | done | rfl | (simp only [List.length_drop, List.length_take]; rfl)) ?_; (with_reducible refine (word_Mul.calls a0 t272 t274 _ A10.out).mono ?_); rintro e w' ⟨rfl, ⟨nd, rfl⟩⟩; refine ⟨_, rfl, ?_⟩) | ((with_reducible refine gate_callee (f := 21) rfl ?_); refine goesL_ (some 32) rfl rfl Try.func21 (by kernel_rfl) rfl #[.int .u64 t274, .int .i64 a2] rfl (by (try simp only [List.map_toArray, List.map_cons, List.map_nil]); first | done | rfl | (simp only [List.length_drop, List.length_take]; rfl)) ?_; (with_reducible refine (word_Narrow.calls t274 a2 t275 _ A11.out).mono ?_); rintro e w' ⟨rfl, ⟨nd, rfl⟩⟩; refine ⟨_, rfl, ?_⟩) | ((with_reducible refine gate_callee (f := 41) rfl ?_); refine goesL_ (some 37) rfl rfl Try.func41 (by kernel_rfl) rfl #[.int .u64 a0, .int .u64 a1, .int .i64 a2] rfl (by (try simp only [List.map_toArray, List.map_cons, List.map_nil]); first | done | rfl | (simp only [List.length_drop, List.length_take]; rfl)) ?_; (with_reducible refine (word_Shr.calls a0 a1 a2 t276 _ A12.out).mono ?_); rintro e w' ⟨rfl, ⟨nd, rfl⟩⟩; refine ⟨_, rfl, ?_⟩) | ((with_reducible refine gate_callee (f := 21) rfl ?_); refine goesL_ (some 40) rfl rfl Try.func21 (by kernel_rfl) rfl #[.int .u64 a0, .int .i64 a2] rfl (by (try simp only [List.map_toArray, List.map_cons, List.map_nil]); first | done | rfl | (simp only [List.length_drop, List.length_take]; rfl)) ?_; (with_reducible refine (word_Narrow.calls a0 a2 t277 _ A13.out).mono ?_); rintro e w' ⟨rfl, ⟨nd, rfl⟩⟩; refine ⟨_, rfl, ?_⟩) | ((with_reducible refine gate_callee (f := 31) rfl ?_); refine goesL_ (some 42) rfl rfl Try.func31 (by kernel_rfl) rfl #[.int .u64 t277, .int .u64 t272, .int .i64 64] rfl (by (try simp only [List.map_toArray, List.map_cons, List.map_nil]); first | done | rfl | (simp only [List.length_drop, List.length_take]; rfl)) ?_; (with_reducible refine (word_Div.calls t277 t272 64 t278 _ A14.out).mono ?_); rintro e w' ⟨rfl, ⟨nd, rfl⟩⟩; refine ⟨_, rfl, ?_⟩) | ((with_reducible refine gate_callee (f := 43) rfl ?_); refine goesL_ (some 47) rfl rfl Try.func43 (by kernel_rfl) rfl #[.int .u64 a0, .int .u64 a1, .int .i64 a2] rfl (by (try simp only [List.map_toArray, List.map_cons, List.map_nil]); first | done | rfl | (simp only [List.length_drop, List.length_take]; rfl)) ?_; (with_reducible refine (word_Sar.calls a0 a1 a2 t279 _ A15.out).mono ?_); rintro e w' ⟨rfl, ⟨nd, rfl⟩⟩; refine ⟨_, rfl, ?_⟩) | ((with_reducible refine gate_callee (f := 23) rfl ?_); refine goesL_ (some 49) rfl rfl Try.func23 (by kernel_rfl) rfl #[.int .u64 t279, .int .i64 a2] rfl (by (try simp only [List.map_toArray, List.map_cons, List.map_nil]); first | done | rfl | (simp only [List.length_drop, List.length_take]; rfl)) ?_; (with_reducible refine (word_Sign.calls t279 a2 t280 _ A16.out).mono ?_); rintro e w' ⟨rfl, ⟨nd, rfl⟩⟩; refine ⟨_, rfl, ?_⟩) | ((with_reducible refine gate_callee (f := 23) rfl ?_); refine goesL_ (some 52) rfl rfl Try.func23 (by kernel_rfl) rfl #[.int .u64 a0, .int .i64 a2] rfl (by (try simp only [List.map_toArray, List.map_cons, List.map_nil]); first | done | rfl | (simp only [List.length_drop, List.length_take]; rfl)) ?_; (with_reducible refine (word_Sign.calls a0 a2 t281 _ A17.out).mono ?_); rintro e w' ⟨rfl, ⟨nd, rfl⟩⟩; refine ⟨_, rfl, ?_⟩) | ((with_reducible refine gate_callee (f := 15) rfl ?_); refine goesL_ (some 55) rfl rfl Try.func15 (by kernel_rfl) rfl #[.int .u64 t280, .int .u64 t272] rfl (by (try simp only [List.map_toArray, List.map_cons, List.map_nil]); first | done | rfl | (simp only [List.length_drop, List.length_take]; rfl)) ?_; (with_reducible refine (word_Mul.calls t280 t272 t282 _ A18.out).mono ?_); rintro e w' ⟨rfl, ⟨nd, rfl⟩⟩; refine ⟨_, rfl, ?_⟩) | ((with_reducible refine gate_callee (f := 13) rfl ?_); refine goesL_ (some 56) rfl rfl Try.func13 (by kernel_rfl) rfl #[.int .u64 t281, .int .u64 t282] rfl (by (try simp only [List.map_toArray, List.map_cons, List.map_nil]); first | done | rfl | (simp only [List.length_drop, List.length_take]; rfl)) ?_; (with_reducible refine (word_Sub.calls t281 t282 t283 _ A19.out).mono ?_); rintro e w' ⟨rfl, ⟨nd, rfl⟩⟩; refine ⟨_, rfl, ?_⟩))
      go_ret
      exact ⟨by first | rfl | (simp; done) | (simp [*]; done), by repeat (first | exact Drawn0.refl _ | apply Drawn0.step)⟩
  · replace c5 := Bool.eq_false_iff.mpr c5
    subst c5
    have H1 : (some false) = some r := by rw [if_neg (show ¬ (false = true) by decide)] at H; exact H
    clear H
    have H := H1
    clear H1
    obtain rfl := Option.some.inj H
    go_enter Try.func7, Try.ntmps7
    go_wp2_with (first | ((with_reducible refine gate_callee (f := 11) rfl ?_); refine goesL_ (some 14) rfl rfl Try.func11 (by kernel_rfl) rfl #[] rfl (by (try simp only [List.map_toArray, List.map_cons, List.map_nil]); first | done | rfl | (simp only [List.length_drop, List.length_take]; rfl)) ?_; (with_reducible refine (spindlelaw1_awake.calls k  false _ A4.out).mono ?_); rintro e w' ⟨rfl, ⟨nd, rfl⟩⟩; refine ⟨_, rfl, ?_⟩))
    go_ret
    exact ⟨by first | rfl | (simp; done) | (simp [*]; done), by repeat (first | exact Drawn0.refl _ | apply Drawn0.step)⟩

/-- THE ONE PURE STATEMENT of spindlelaw1_WordShifts: yours. -/
def spindlelaw1_WordShifts.Pure : Prop := ∀ (a0 : Int) (a1 : Int) (a2 : Int), (Lit.int .u64 a0).wf = true → (Lit.int .u64 a1).wf = true → (Lit.int .i64 a2).wf = true → ∃ k, spindlelaw1_WordShifts.f k a0 a1 a2 = some true
theorem spindlelaw1_WordShifts.walk (P : spindlelaw1_WordShifts.Pure) (a0 : Int) (a1 : Int) (a2 : Int) (w : World) (w0 : (Lit.int .u64 a0).wf = true) (w1 : (Lit.int .u64 a1).wf = true) (w2 : (Lit.int .i64 a2).wf = true) :
    Calls Try.prog 7 #[.int .u64 a0, .int .u64 a1, .int .i64 a2] w fun e w' => e = .returned (.bool true) ∧ Below w.heap.size w w' := by
  obtain ⟨k, h⟩ := P a0 a1 a2 w0 w1 w2
  refine (spindlelaw1_WordShifts.calls k a0 a1 a2 true w h).mono ?_
  rintro e w' ⟨rfl, hd⟩
  exact ⟨rfl, hd.below⟩

end Go.Proofs.Ytliijfogmendmaa.PW
