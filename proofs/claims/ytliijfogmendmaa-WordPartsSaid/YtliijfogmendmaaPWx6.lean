-- Printed by this session's own program (wip/tools/myprint.py) over the kit's print; the parts that are marked 'by hand' are this session's.
import Derived.Test.YtliijfogmendmaaPWx0
import Derived.Test.YtliijfogmendmaaPWx1
import Derived.Test.YtliijfogmendmaaPWx2
import Derived.Test.YtliijfogmendmaaPWx4
import Derived.Test.YtliijfogmendmaaPWx5
namespace Go.Proofs.Ytliijfogmendmaa.PW
open Go.RowKit Go.Proofs.YtliijfogmendmaaW.PrintWords Go.Proofs.YtliijfogmendmaaW.PrintLast Go.Proofs.YtliijfogmendmaaW.PrintMore
attribute [local go_sem] max2_int min2_int max_two min_two max_three min_three max_four min_four   -- for this text's walks alone
set_option linter.unusedVariables false
set_option linter.unusedSimpArgs false

/-! ### spindleref1_SLess: function 30 -/
def spindleref1_SLess.f (k : Nat) (a0 : Int) (a1 : Int) (a2 : Int) : Option (Bool) := (spindleref1_Wide.f a2).bind fun t167 => ((spindleref1_Narrow.f k a0 t167).bind fun t168 => ((spindleref1_Narrow.f k a1 t167).bind fun t169 => ((spindleref1_minus.f k t168 t167).bind fun t170 => ((spindleref1_minus.f k t169 t167).bind fun t171 => (if (t170 != t171) = true then (some t170) else (some (decide (t168 < t169))))))))
theorem spindleref1_SLess.mono : ∀ a0 a1 a2 k, LeO (spindleref1_SLess.f k a0 a1 a2) (spindleref1_SLess.f (k + 1) a0 a1 a2) := by
  intro a0 a1 a2 k
  unfold spindleref1_SLess.f
  repeat' first
      | (with_reducible exact spindleref1_Narrow.mono _ _ _)
      | (with_reducible exact spindleref1_minus.mono _ _ _)
      | (with_reducible exact LeO.refl _)
      | (with_reducible exact LeO.none _)
      | (with_reducible refine LeO.ite ?_ ?_)
      | (with_reducible refine LeO.bind ?_ (fun _ => ?_))
      | exact spindleref1_Narrow.mono _ _ _
      | exact spindleref1_minus.mono _ _ _
      | exact LeO.none _
      | refine LeO.ite ?_ ?_
      | refine LeO.bind ?_ (fun _ => ?_)
set_option maxHeartbeats 8000000 in
set_option maxRecDepth 100000 in
theorem spindleref1_SLess.calls (k : Nat) (a0 : Int) (a1 : Int) (a2 : Int) (r : Bool) (w : World) (h : spindleref1_SLess.f k a0 a1 a2 = some r) :
    Calls Try.prog 30 #[.int .u64 a0, .int .u64 a1, .int .i64 a2] w fun e w' => e = .returned (.bool r) ∧ Drawn0 w w' := by
  have H : ((spindleref1_Wide.f a2).bind fun t167 => ((spindleref1_Narrow.f k a0 t167).bind fun t168 => ((spindleref1_Narrow.f k a1 t167).bind fun t169 => ((spindleref1_minus.f k t168 t167).bind fun t170 => ((spindleref1_minus.f k t169 t167).bind fun t171 => (if (t170 != t171) = true then (some t170) else (some (decide (t168 < t169))))))))) = some r := h
  clear h
  replace H := Option.bind_eq_some_iff.mp H
  obtain ⟨t167, A40, H⟩ := H
  replace H : ((spindleref1_Narrow.f k a0 t167).bind fun t168 => ((spindleref1_Narrow.f k a1 t167).bind fun t169 => ((spindleref1_minus.f k t168 t167).bind fun t170 => ((spindleref1_minus.f k t169 t167).bind fun t171 => (if (t170 != t171) = true then (some t170) else (some (decide (t168 < t169)))))))) = some r := H
  have A4 := Aside0.mk A40
  clear A40
  replace H := Option.bind_eq_some_iff.mp H
  obtain ⟨t168, A50, H⟩ := H
  replace H : ((spindleref1_Narrow.f k a1 t167).bind fun t169 => ((spindleref1_minus.f k t168 t167).bind fun t170 => ((spindleref1_minus.f k t169 t167).bind fun t171 => (if (t170 != t171) = true then (some t170) else (some (decide (t168 < t169))))))) = some r := H
  have A5 := Aside0.mk A50
  clear A50
  replace H := Option.bind_eq_some_iff.mp H
  obtain ⟨t169, A60, H⟩ := H
  replace H : ((spindleref1_minus.f k t168 t167).bind fun t170 => ((spindleref1_minus.f k t169 t167).bind fun t171 => (if (t170 != t171) = true then (some t170) else (some (decide (t168 < t169)))))) = some r := H
  have A6 := Aside0.mk A60
  clear A60
  replace H := Option.bind_eq_some_iff.mp H
  obtain ⟨t170, A70, H⟩ := H
  replace H : ((spindleref1_minus.f k t169 t167).bind fun t171 => (if (t170 != t171) = true then (some t170) else (some (decide (t168 < t169))))) = some r := H
  have A7 := Aside0.mk A70
  clear A70
  replace H := Option.bind_eq_some_iff.mp H
  obtain ⟨t171, A80, H⟩ := H
  replace H : (if (t170 != t171) = true then (some t170) else (some (decide (t168 < t169)))) = some r := H
  have A8 := Aside0.mk A80
  clear A80
  by_cases c9 : (t170 != t171) = true
  · rw [if_pos c9] at H
    have c9b0 : (t170 != t171) = true := c9
    (try (have c9b1 : decide (t170 = t171) = false := by simpa using c9))
    (try (have c9b2 : (t170 == t171) = false := by simpa using c9))
    (try (have c9b3 : ¬ (t170 = t171) := by simpa using c9))
    clear c9
    obtain rfl := Option.some.inj H
    go_enter Try.func30, Try.ntmps30
    go_wp2_with (first | ((with_reducible refine gate_callee (f := 45) rfl ?_); refine goesL_ (some 11) rfl rfl Try.func45 (by kernel_rfl) rfl #[.int .i64 a2] rfl (by (try simp only [List.map_toArray, List.map_cons, List.map_nil]); first | done | rfl | (simp only [List.length_drop, List.length_take]; rfl)) ?_; (with_reducible refine (spindleref1_Wide.calls a2 t167 _ A4.out).mono ?_); rintro e w' ⟨rfl, ⟨nd, rfl⟩⟩; refine ⟨_, rfl, ?_⟩) | ((with_reducible refine gate_callee (f := 22) rfl ?_); refine goesL_ (some 14) rfl rfl Try.func22 (by kernel_rfl) rfl #[.int .u64 a0, .int .i64 t167] rfl (by (try simp only [List.map_toArray, List.map_cons, List.map_nil]); first | done | rfl | (simp only [List.length_drop, List.length_take]; rfl)) ?_; (with_reducible refine (spindleref1_Narrow.calls k a0 t167 t168 _ A5.out).mono ?_); rintro e w' ⟨rfl, ⟨nd, rfl⟩⟩; refine ⟨_, rfl, ?_⟩) | ((with_reducible refine gate_callee (f := 22) rfl ?_); refine goesL_ (some 17) rfl rfl Try.func22 (by kernel_rfl) rfl #[.int .u64 a1, .int .i64 t167] rfl (by (try simp only [List.map_toArray, List.map_cons, List.map_nil]); first | done | rfl | (simp only [List.length_drop, List.length_take]; rfl)) ?_; (with_reducible refine (spindleref1_Narrow.calls k a1 t167 t169 _ A6.out).mono ?_); rintro e w' ⟨rfl, ⟨nd, rfl⟩⟩; refine ⟨_, rfl, ?_⟩) | ((with_reducible refine gate_callee (f := 52) rfl ?_); refine goesL_ (some 20) rfl rfl Try.func52 (by kernel_rfl) rfl #[.int .u64 t168, .int .i64 t167] rfl (by (try simp only [List.map_toArray, List.map_cons, List.map_nil]); first | done | rfl | (simp only [List.length_drop, List.length_take]; rfl)) ?_; (with_reducible refine (spindleref1_minus.calls k t168 t167 t170 _ A7.out).mono ?_); rintro e w' ⟨rfl, ⟨nd, rfl⟩⟩; refine ⟨_, rfl, ?_⟩) | ((with_reducible refine gate_callee (f := 52) rfl ?_); refine goesL_ (some 23) rfl rfl Try.func52 (by kernel_rfl) rfl #[.int .u64 t169, .int .i64 t167] rfl (by (try simp only [List.map_toArray, List.map_cons, List.map_nil]); first | done | rfl | (simp only [List.length_drop, List.length_take]; rfl)) ?_; (with_reducible refine (spindleref1_minus.calls k t169 t167 t171 _ A8.out).mono ?_); rintro e w' ⟨rfl, ⟨nd, rfl⟩⟩; refine ⟨_, rfl, ?_⟩) | ((with_reducible refine gate_callee (f := 52) rfl ?_); refine goesL_ (some 27) rfl rfl Try.func52 (by kernel_rfl) rfl #[.int .u64 t168, .int .i64 t167] rfl (by (try simp only [List.map_toArray, List.map_cons, List.map_nil]); first | done | rfl | (simp only [List.length_drop, List.length_take]; rfl)) ?_; (with_reducible refine (spindleref1_minus.calls k t168 t167 t170 _ A7.out).mono ?_); rintro e w' ⟨rfl, ⟨nd, rfl⟩⟩; refine ⟨_, rfl, ?_⟩))
    go_ret
    exact ⟨by first | rfl | (simp; done) | (simp [*]; done), by repeat (first | exact Drawn0.refl _ | apply Drawn0.step)⟩
  · rw [if_neg c9] at H
    have c9b0 : (t170 != t171) = false := by simpa using c9
    (try (have c9b1 : decide (t170 = t171) = true := by simpa using c9))
    (try (have c9b2 : (t170 == t171) = true := by simpa using c9))
    clear c9
    obtain rfl := Option.some.inj H
    go_enter Try.func30, Try.ntmps30
    go_wp2_with (first | ((with_reducible refine gate_callee (f := 45) rfl ?_); refine goesL_ (some 11) rfl rfl Try.func45 (by kernel_rfl) rfl #[.int .i64 a2] rfl (by (try simp only [List.map_toArray, List.map_cons, List.map_nil]); first | done | rfl | (simp only [List.length_drop, List.length_take]; rfl)) ?_; (with_reducible refine (spindleref1_Wide.calls a2 t167 _ A4.out).mono ?_); rintro e w' ⟨rfl, ⟨nd, rfl⟩⟩; refine ⟨_, rfl, ?_⟩) | ((with_reducible refine gate_callee (f := 22) rfl ?_); refine goesL_ (some 14) rfl rfl Try.func22 (by kernel_rfl) rfl #[.int .u64 a0, .int .i64 t167] rfl (by (try simp only [List.map_toArray, List.map_cons, List.map_nil]); first | done | rfl | (simp only [List.length_drop, List.length_take]; rfl)) ?_; (with_reducible refine (spindleref1_Narrow.calls k a0 t167 t168 _ A5.out).mono ?_); rintro e w' ⟨rfl, ⟨nd, rfl⟩⟩; refine ⟨_, rfl, ?_⟩) | ((with_reducible refine gate_callee (f := 22) rfl ?_); refine goesL_ (some 17) rfl rfl Try.func22 (by kernel_rfl) rfl #[.int .u64 a1, .int .i64 t167] rfl (by (try simp only [List.map_toArray, List.map_cons, List.map_nil]); first | done | rfl | (simp only [List.length_drop, List.length_take]; rfl)) ?_; (with_reducible refine (spindleref1_Narrow.calls k a1 t167 t169 _ A6.out).mono ?_); rintro e w' ⟨rfl, ⟨nd, rfl⟩⟩; refine ⟨_, rfl, ?_⟩) | ((with_reducible refine gate_callee (f := 52) rfl ?_); refine goesL_ (some 20) rfl rfl Try.func52 (by kernel_rfl) rfl #[.int .u64 t168, .int .i64 t167] rfl (by (try simp only [List.map_toArray, List.map_cons, List.map_nil]); first | done | rfl | (simp only [List.length_drop, List.length_take]; rfl)) ?_; (with_reducible refine (spindleref1_minus.calls k t168 t167 t170 _ A7.out).mono ?_); rintro e w' ⟨rfl, ⟨nd, rfl⟩⟩; refine ⟨_, rfl, ?_⟩) | ((with_reducible refine gate_callee (f := 52) rfl ?_); refine goesL_ (some 23) rfl rfl Try.func52 (by kernel_rfl) rfl #[.int .u64 t169, .int .i64 t167] rfl (by (try simp only [List.map_toArray, List.map_cons, List.map_nil]); first | done | rfl | (simp only [List.length_drop, List.length_take]; rfl)) ?_; (with_reducible refine (spindleref1_minus.calls k t169 t167 t171 _ A8.out).mono ?_); rintro e w' ⟨rfl, ⟨nd, rfl⟩⟩; refine ⟨_, rfl, ?_⟩))
    go_ret
    exact ⟨by first | rfl | (simp; done) | (simp [*]; done), by repeat (first | exact Drawn0.refl _ | apply Drawn0.step)⟩

/-! ### spindlelaw1_WordForms: function 4 -/
mutual
def spindlelaw1_WordForms.l0 : Nat → List (S26) → Int → Option (Bool)
  | 0, _, _ => none
  | k + 1, x0, x3 => if x3 < (x0.length : Int) then (if 0 ≤ x3 then ((word_Narrow.f ((rd_T26 x0 x3).f0) ((rd_T26 x0 x3).f3)).bind fun t176 => ((spindleref1_Narrow.f k ((rd_T26 x0 x3).f0) ((rd_T26 x0 x3).f3)).bind fun t177 => (if t176 = t177 then ((word_Sign.f ((rd_T26 x0 x3).f0) ((rd_T26 x0 x3).f3)).bind fun t178 => ((spindleref1_Sign.f k ((rd_T26 x0 x3).f0) ((rd_T26 x0 x3).f3)).bind fun t179 => (if t178 = t179 then ((word_Swap.f k ((rd_T26 x0 x3).f0) ((rd_T26 x0 x3).f3)).bind fun t180 => ((spindleref1_Swap.f k ((rd_T26 x0 x3).f0) ((rd_T26 x0 x3).f3)).bind fun t181 => (spindlelaw1_WordForms.j1 k x0 x3 ((rd_T26 x0 x3).f0) ((rd_T26 x0 x3).f1) ((rd_T26 x0 x3).f3) (t180 == t181)))) else (spindlelaw1_WordForms.j1 k x0 x3 ((rd_T26 x0 x3).f0) ((rd_T26 x0 x3).f1) ((rd_T26 x0 x3).f3) false)))) else (spindlelaw1_WordForms.j1 k x0 x3 ((rd_T26 x0 x3).f0) ((rd_T26 x0 x3).f1) ((rd_T26 x0 x3).f3) false)))) else (none)) else (some true)
def spindlelaw1_WordForms.j1 : Nat → List (S26) → Int → Int → Int → Int → Bool → Option (Bool)
  | 0, _, _, _, _, _, _ => none
  | k + 1, x0, x3, x4, x5, x6, x7 => if x7 = true then ((word_Less.f x4 x5 x6).bind fun t182 => ((spindleref1_Less.f k x4 x5 x6).bind fun t183 => (if (t182 != t183) = true then (some false) else ((word_SLess.f x4 x5 x6).bind fun t184 => ((spindleref1_SLess.f k x4 x5 x6).bind fun t185 => (if (t184 != t185) = true then (some false) else (spindlelaw1_WordForms.l0 k x0 (wrap64 (x3 + 1))))))))) else (some false)
end
def spindlelaw1_WordForms.f (k : Nat) (l0 : List (S26)) : Option (Bool) := (spindlelaw1_awake.f k).bind fun t172 => (if t172 = true then (spindlelaw1_WordForms.l0 k l0 0) else (some false))
theorem spindlelaw1_WordForms.mono_l : ∀ k, (∀ y0 y1, LeO (spindlelaw1_WordForms.l0 k y0 y1) (spindlelaw1_WordForms.l0 (k + 1) y0 y1)) ∧ (∀ y0 y1 y2 y3 y4 y5, LeO (spindlelaw1_WordForms.j1 k y0 y1 y2 y3 y4 y5) (spindlelaw1_WordForms.j1 (k + 1) y0 y1 y2 y3 y4 y5))
  | 0 => ⟨fun _ _ r h => by simp [spindlelaw1_WordForms.l0] at h, fun _ _ _ _ _ _ r h => by simp [spindlelaw1_WordForms.j1] at h⟩
  | k + 1 => by
    obtain ⟨ih0, ih1⟩ := spindlelaw1_WordForms.mono_l k
    refine ⟨?_, ?_⟩
    · intro y0 y1
      unfold spindlelaw1_WordForms.l0
      repeat' first
      | (with_reducible exact ih0 _ _)
      | (with_reducible exact ih1 _ _ _ _ _ _)
      | (with_reducible exact spindlelaw1_awake.mono _)
      | (with_reducible exact spindleref1_Less.mono _ _ _ _)
      | (with_reducible exact spindleref1_Narrow.mono _ _ _)
      | (with_reducible exact spindleref1_SLess.mono _ _ _ _)
      | (with_reducible exact spindleref1_Sign.mono _ _ _)
      | (with_reducible exact spindleref1_Swap.mono _ _ _)
      | (with_reducible exact word_Swap.mono _ _ _)
      | (with_reducible exact LeO.refl _)
      | (with_reducible exact LeO.none _)
      | (with_reducible refine LeO.ite ?_ ?_)
      | (with_reducible refine LeO.bind ?_ (fun _ => ?_))
      | exact ih0 _ _
      | exact ih1 _ _ _ _ _ _
      | exact spindlelaw1_awake.mono _
      | exact spindleref1_Less.mono _ _ _ _
      | exact spindleref1_Narrow.mono _ _ _
      | exact spindleref1_SLess.mono _ _ _ _
      | exact spindleref1_Sign.mono _ _ _
      | exact spindleref1_Swap.mono _ _ _
      | exact word_Swap.mono _ _ _
      | exact LeO.none _
      | refine LeO.ite ?_ ?_
      | refine LeO.bind ?_ (fun _ => ?_)
    · intro y0 y1 y2 y3 y4 y5
      unfold spindlelaw1_WordForms.j1
      repeat' first
      | (with_reducible exact ih0 _ _)
      | (with_reducible exact ih1 _ _ _ _ _ _)
      | (with_reducible exact spindlelaw1_awake.mono _)
      | (with_reducible exact spindleref1_Less.mono _ _ _ _)
      | (with_reducible exact spindleref1_Narrow.mono _ _ _)
      | (with_reducible exact spindleref1_SLess.mono _ _ _ _)
      | (with_reducible exact spindleref1_Sign.mono _ _ _)
      | (with_reducible exact spindleref1_Swap.mono _ _ _)
      | (with_reducible exact word_Swap.mono _ _ _)
      | (with_reducible exact LeO.refl _)
      | (with_reducible exact LeO.none _)
      | (with_reducible refine LeO.ite ?_ ?_)
      | (with_reducible refine LeO.bind ?_ (fun _ => ?_))
      | exact ih0 _ _
      | exact ih1 _ _ _ _ _ _
      | exact spindlelaw1_awake.mono _
      | exact spindleref1_Less.mono _ _ _ _
      | exact spindleref1_Narrow.mono _ _ _
      | exact spindleref1_SLess.mono _ _ _ _
      | exact spindleref1_Sign.mono _ _ _
      | exact spindleref1_Swap.mono _ _ _
      | exact word_Swap.mono _ _ _
      | exact LeO.none _
      | refine LeO.ite ?_ ?_
      | refine LeO.bind ?_ (fun _ => ?_)
theorem spindlelaw1_WordForms.mono : ∀ a0 k, LeO (spindlelaw1_WordForms.f k a0) (spindlelaw1_WordForms.f (k + 1) a0) := by
  intro a0 k
  obtain ⟨ih0, ih1⟩ := spindlelaw1_WordForms.mono_l k
  unfold spindlelaw1_WordForms.f
  repeat' first
      | (with_reducible exact ih0 _ _)
      | (with_reducible exact ih1 _ _ _ _ _ _)
      | (with_reducible exact spindlelaw1_awake.mono _)
      | (with_reducible exact spindleref1_Less.mono _ _ _ _)
      | (with_reducible exact spindleref1_Narrow.mono _ _ _)
      | (with_reducible exact spindleref1_SLess.mono _ _ _ _)
      | (with_reducible exact spindleref1_Sign.mono _ _ _)
      | (with_reducible exact spindleref1_Swap.mono _ _ _)
      | (with_reducible exact word_Swap.mono _ _ _)
      | (with_reducible exact LeO.refl _)
      | (with_reducible exact LeO.none _)
      | (with_reducible refine LeO.ite ?_ ?_)
      | (with_reducible refine LeO.bind ?_ (fun _ => ?_))
      | exact ih0 _ _
      | exact ih1 _ _ _ _ _ _
      | exact spindlelaw1_awake.mono _
      | exact spindleref1_Less.mono _ _ _ _
      | exact spindleref1_Narrow.mono _ _ _
      | exact spindleref1_SLess.mono _ _ _ _
      | exact spindleref1_Sign.mono _ _ _
      | exact spindleref1_Swap.mono _ _ _
      | exact word_Swap.mono _ _ _
      | exact LeO.none _
      | refine LeO.ite ?_ ?_
      | refine LeO.bind ?_ (fun _ => ?_)
set_option maxHeartbeats 8000000 in
set_option maxRecDepth 100000 in
theorem spindlelaw1_WordForms.calls (k : Nat) (A0 : Option Addr) (c0 : Nat) (l0 : List (S26)) (r : Bool) (w : World) (hr0 : Kd.C k26 w A0 l0.length l0) (hc0 : l0.length ≤ c0) (h : spindlelaw1_WordForms.f k l0 = some r) :
    Calls Try.prog 4 #[.slice A0 l0.length c0] w fun e w' => e = .returned (.bool r) ∧ Drawn0 w w' := by
  have HR0 := Aside0.mk hr0
  have HC0 := Aside0.mk hc0
  clear hr0 hc0
  have H : ((spindlelaw1_awake.f k).bind fun t172 => (if t172 = true then (spindlelaw1_WordForms.l0 k l0 0) else (some false))) = some r := h
  clear h
  replace H := Option.bind_eq_some_iff.mp H
  obtain ⟨t172, A20, H⟩ := H
  replace H : (if t172 = true then (spindlelaw1_WordForms.l0 k l0 0) else (some false)) = some r := H
  have A2 := Aside0.mk A20
  clear A20
  by_cases c3 : t172 = true
  · subst c3
    have H1 : (spindlelaw1_WordForms.l0 k l0 0) = some r := by rw [if_pos rfl] at H; exact H
    clear H
    have H := H1
    clear H1
    have H' := Aside0.mk H
    clear H
    go_enter Try.func4, Try.ntmps4
    go_wp2_with (first | ((with_reducible refine gate_callee (f := 11) rfl ?_); refine goesL_ (some 8) rfl rfl Try.func11 (by kernel_rfl) rfl #[] rfl (by (try simp only [List.map_toArray, List.map_cons, List.map_nil]); first | done | rfl | (simp only [List.length_drop, List.length_take]; rfl)) ?_; (with_reducible refine (spindlelaw1_awake.calls k  true _ A2.out).mono ?_); rintro e w' ⟨rfl, ⟨nd, rfl⟩⟩; refine ⟨_, rfl, ?_⟩))
    go_loopg [3] k (fun kq v3 w' => ∃ (x3_1 : Int), v3 = .int .i64 x3_1 ∧ Aside0 (spindlelaw1_WordForms.l0 kq l0 x3_1 = some r) ∧ Aside0 (kq ≤ k) ∧ Drawn0 w w')
    case atStart => exact ⟨(0), (by first | rfl | (simp; done) | (simp [*]; done)), H', ⟨Nat.le_refl _⟩, by repeat (first | exact Drawn0.refl _ | apply Drawn0.step)⟩
    case round =>
      clear H'
      try clear c1
      try clear p2
      try clear c3
      obtain ⟨x3_1, rfl, HA, HK1, ⟨m1, rfl⟩⟩ := hrel
      cases gk with
      | zero => exact absurd HA.out (by simp [spindlelaw1_WordForms.l0])
      | succ k1 =>
        have H := HA.out
        clear HA
        simp only [spindlelaw1_WordForms.l0] at H
        by_cases c4 : x3_1 < (l0.length : Int)
        · rw [if_pos c4] at H
          have c4b0 : decide (x3_1 < (l0.length : Int)) = true := decide_eq_true c4
          clear c4
          by_cases c5 : 0 ≤ x3_1
          · rw [if_pos c5] at H
            have c5b0 : decide (0 ≤ x3_1) = true := decide_eq_true c5
            clear c5
            have HC6 := Aside0.mk H
            clear H
            have p173 : 0 ≤ (x3_1 : Int) := of_decide_eq_true (by first | (with_reducible assumption) | assumption)
            have q173 : x3_1 < (l0.length : Int) := of_decide_eq_true (by first | (with_reducible assumption) | assumption)
            obtain ⟨ad173, e173, hx173_0, hx173_1, hx173_2, hx173_3⟩ := at_T26 HR0.out x3_1 p173 q173
            cases e173
            replace p173 := eq_true p173
            replace q173 := eq_true q173
            have p174 : 0 ≤ (x3_1 : Int) := of_decide_eq_true (by first | (with_reducible assumption) | assumption)
            have q174 : x3_1 < (l0.length : Int) := of_decide_eq_true (by first | (with_reducible assumption) | assumption)
            obtain ⟨ad174, e174, hx174_0, hx174_1, hx174_2, hx174_3⟩ := at_T26 HR0.out x3_1 p174 q174
            obtain rfl : ad173 = ad174 := (by injection e174)
            replace p174 := eq_true p174
            replace q174 := eq_true q174
            have p175 : 0 ≤ (x3_1 : Int) := of_decide_eq_true (by first | (with_reducible assumption) | assumption)
            have q175 : x3_1 < (l0.length : Int) := of_decide_eq_true (by first | (with_reducible assumption) | assumption)
            obtain ⟨ad175, e175, hx175_0, hx175_1, hx175_2, hx175_3⟩ := at_T26 HR0.out x3_1 p175 q175
            obtain rfl : ad173 = ad175 := (by injection e175)
            replace p175 := eq_true p175
            replace q175 := eq_true q175
            go_upto_region 9 with (fail)
            go_cut [7] (fun v7 wc => ∃ (kq : Nat) (x7_5 : Bool), v7 = .bool x7_5 ∧ Aside0 (spindlelaw1_WordForms.j1 kq l0 x3_1 ((rd_T26 l0 x3_1).f0) ((rd_T26 l0 x3_1).f1) ((rd_T26 l0 x3_1).f3) x7_5 = some r) ∧ Aside0 (kq ≤ k1) ∧ Drawn0 w wc)
            case first =>
              have H := HC6.out
              clear HC6
              replace H := Option.bind_eq_some_iff.mp H
              obtain ⟨t176, A70, H⟩ := H
              replace H : ((spindleref1_Narrow.f k1 ((rd_T26 l0 x3_1).f0) ((rd_T26 l0 x3_1).f3)).bind fun t177 => (if t176 = t177 then ((word_Sign.f ((rd_T26 l0 x3_1).f0) ((rd_T26 l0 x3_1).f3)).bind fun t178 => ((spindleref1_Sign.f k1 ((rd_T26 l0 x3_1).f0) ((rd_T26 l0 x3_1).f3)).bind fun t179 => (if t178 = t179 then ((word_Swap.f k1 ((rd_T26 l0 x3_1).f0) ((rd_T26 l0 x3_1).f3)).bind fun t180 => ((spindleref1_Swap.f k1 ((rd_T26 l0 x3_1).f0) ((rd_T26 l0 x3_1).f3)).bind fun t181 => (spindlelaw1_WordForms.j1 k1 l0 x3_1 ((rd_T26 l0 x3_1).f0) ((rd_T26 l0 x3_1).f1) ((rd_T26 l0 x3_1).f3) (t180 == t181)))) else (spindlelaw1_WordForms.j1 k1 l0 x3_1 ((rd_T26 l0 x3_1).f0) ((rd_T26 l0 x3_1).f1) ((rd_T26 l0 x3_1).f3) false)))) else (spindlelaw1_WordForms.j1 k1 l0 x3_1 ((rd_T26 l0 x3_1).f0) ((rd_T26 l0 x3_1).f1) ((rd_T26 l0 x3_1).f3) false))) = some r := H
              have A7 := Aside0.mk A70
              clear A70
              replace H := Option.bind_eq_some_iff.mp H
              obtain ⟨t177, A80, H⟩ := H
              replace H : (if t176 = t177 then ((word_Sign.f ((rd_T26 l0 x3_1).f0) ((rd_T26 l0 x3_1).f3)).bind fun t178 => ((spindleref1_Sign.f k1 ((rd_T26 l0 x3_1).f0) ((rd_T26 l0 x3_1).f3)).bind fun t179 => (if t178 = t179 then ((word_Swap.f k1 ((rd_T26 l0 x3_1).f0) ((rd_T26 l0 x3_1).f3)).bind fun t180 => ((spindleref1_Swap.f k1 ((rd_T26 l0 x3_1).f0) ((rd_T26 l0 x3_1).f3)).bind fun t181 => (spindlelaw1_WordForms.j1 k1 l0 x3_1 ((rd_T26 l0 x3_1).f0) ((rd_T26 l0 x3_1).f1) ((rd_T26 l0 x3_1).f3) (t180 == t181)))) else (spindlelaw1_WordForms.j1 k1 l0 x3_1 ((rd_T26 l0 x3_1).f0) ((rd_T26 l0 x3_1).f1) ((rd_T26 l0 x3_1).f3) false)))) else (spindlelaw1_WordForms.j1 k1 l0 x3_1 ((rd_T26 l0 x3_1).f0) ((rd_T26 l0 x3_1).f1) ((rd_T26 l0 x3_1).f3) false)) = some r := H
              have A8 := Aside0.mk A80
              clear A80
              by_cases c9 : t176 = t177
              · rw [if_pos c9] at H
                have c9b0 : (t176 == t177) = true := beq_iff_eq.mpr c9
                have c9b1 : (t176 != t177) = false := bne_eq_false_iff_eq.mpr c9
                clear c9
                (first | rw [c9b0] | (simp only [i64_w, i32_w]; rw [c9b0]) | skip)
                replace H := Option.bind_eq_some_iff.mp H
                obtain ⟨t178, A100, H⟩ := H
                replace H : ((spindleref1_Sign.f k1 ((rd_T26 l0 x3_1).f0) ((rd_T26 l0 x3_1).f3)).bind fun t179 => (if t178 = t179 then ((word_Swap.f k1 ((rd_T26 l0 x3_1).f0) ((rd_T26 l0 x3_1).f3)).bind fun t180 => ((spindleref1_Swap.f k1 ((rd_T26 l0 x3_1).f0) ((rd_T26 l0 x3_1).f3)).bind fun t181 => (spindlelaw1_WordForms.j1 k1 l0 x3_1 ((rd_T26 l0 x3_1).f0) ((rd_T26 l0 x3_1).f1) ((rd_T26 l0 x3_1).f3) (t180 == t181)))) else (spindlelaw1_WordForms.j1 k1 l0 x3_1 ((rd_T26 l0 x3_1).f0) ((rd_T26 l0 x3_1).f1) ((rd_T26 l0 x3_1).f3) false))) = some r := H
                have A10 := Aside0.mk A100
                clear A100
                replace H := Option.bind_eq_some_iff.mp H
                obtain ⟨t179, A110, H⟩ := H
                replace H : (if t178 = t179 then ((word_Swap.f k1 ((rd_T26 l0 x3_1).f0) ((rd_T26 l0 x3_1).f3)).bind fun t180 => ((spindleref1_Swap.f k1 ((rd_T26 l0 x3_1).f0) ((rd_T26 l0 x3_1).f3)).bind fun t181 => (spindlelaw1_WordForms.j1 k1 l0 x3_1 ((rd_T26 l0 x3_1).f0) ((rd_T26 l0 x3_1).f1) ((rd_T26 l0 x3_1).f3) (t180 == t181)))) else (spindlelaw1_WordForms.j1 k1 l0 x3_1 ((rd_T26 l0 x3_1).f0) ((rd_T26 l0 x3_1).f1) ((rd_T26 l0 x3_1).f3) false)) = some r := H
                have A11 := Aside0.mk A110
                clear A110
                by_cases c12 : t178 = t179
                · rw [if_pos c12] at H
                  have c12b0 : (t178 == t179) = true := beq_iff_eq.mpr c12
                  have c12b1 : (t178 != t179) = false := bne_eq_false_iff_eq.mpr c12
                  clear c12
                  replace H := Option.bind_eq_some_iff.mp H
                  obtain ⟨t180, A130, H⟩ := H
                  replace H : ((spindleref1_Swap.f k1 ((rd_T26 l0 x3_1).f0) ((rd_T26 l0 x3_1).f3)).bind fun t181 => (spindlelaw1_WordForms.j1 k1 l0 x3_1 ((rd_T26 l0 x3_1).f0) ((rd_T26 l0 x3_1).f1) ((rd_T26 l0 x3_1).f3) (t180 == t181))) = some r := H
                  have A13 := Aside0.mk A130
                  clear A130
                  replace H := Option.bind_eq_some_iff.mp H
                  obtain ⟨t181, A140, H⟩ := H
                  replace H : (spindlelaw1_WordForms.j1 k1 l0 x3_1 ((rd_T26 l0 x3_1).f0) ((rd_T26 l0 x3_1).f1) ((rd_T26 l0 x3_1).f3) (t180 == t181)) = some r := H
                  have A14 := Aside0.mk A140
                  clear A140
                  have H' := Aside0.mk H
                  clear H
                  go_wp2_with (first | ((with_reducible refine gate_callee (f := 21) rfl ?_); refine goesL_ (some 33) rfl rfl Try.func21 (by kernel_rfl) rfl #[.int .u64 ((rd_T26 l0 x3_1).f0), .int .i64 ((rd_T26 l0 x3_1).f3)] rfl (by (try simp only [List.map_toArray, List.map_cons, List.map_nil]); first | done | rfl | (simp only [List.length_drop, List.length_take]; rfl)) ?_; (with_reducible refine (word_Narrow.calls ((rd_T26 l0 x3_1).f0) ((rd_T26 l0 x3_1).f3) t176 _ A7.out).mono ?_); rintro e w' ⟨rfl, ⟨nd, rfl⟩⟩; refine ⟨_, rfl, ?_⟩) | ((with_reducible refine gate_callee (f := 22) rfl ?_); refine goesL_ (some 36) rfl rfl Try.func22 (by kernel_rfl) rfl #[.int .u64 ((rd_T26 l0 x3_1).f0), .int .i64 ((rd_T26 l0 x3_1).f3)] rfl (by (try simp only [List.map_toArray, List.map_cons, List.map_nil]); first | done | rfl | (simp only [List.length_drop, List.length_take]; rfl)) ?_; (with_reducible refine (spindleref1_Narrow.calls k1 ((rd_T26 l0 x3_1).f0) ((rd_T26 l0 x3_1).f3) t177 _ A8.out).mono ?_); rintro e w' ⟨rfl, ⟨nd, rfl⟩⟩; refine ⟨_, rfl, ?_⟩) | (go_at_call 23; (with_reducible refine (word_Sign.calls ((rd_T26 l0 x3_1).f0) ((rd_T26 l0 x3_1).f3) t178 _ A10.out).mono ?_); rintro e w' ⟨rfl, ⟨nd, rfl⟩⟩) | (go_at_call 24; (with_reducible refine (spindleref1_Sign.calls k1 ((rd_T26 l0 x3_1).f0) ((rd_T26 l0 x3_1).f3) t179 _ A11.out).mono ?_); rintro e w' ⟨rfl, ⟨nd, rfl⟩⟩) | (go_at_call 25; (with_reducible refine (word_Swap.calls k1 ((rd_T26 l0 x3_1).f0) ((rd_T26 l0 x3_1).f3) t180 _ A13.out).mono ?_); rintro e w' ⟨rfl, ⟨nd, rfl⟩⟩) | (go_at_call 26; (with_reducible refine (spindleref1_Swap.calls k1 ((rd_T26 l0 x3_1).f0) ((rd_T26 l0 x3_1).f3) t181 _ A14.out).mono ?_); rintro e w' ⟨rfl, ⟨nd, rfl⟩⟩))
                  go_meet
                  case rel => exact ⟨_, ((t180 == t181)), (by first | rfl | (simp; done) | (simp [*]; done)), H', ⟨by have := HK1.out; first | omega | exact Nat.le_refl _⟩, by repeat (first | exact Drawn0.refl _ | apply Drawn0.step)⟩
                · rw [if_neg c12] at H
                  have c12b0 : (t178 == t179) = false := beq_eq_false_iff_ne.mpr c12
                  have c12b1 : (t178 != t179) = true := bne_iff_ne.mpr c12
                  have H' := Aside0.mk H
                  clear H
                  go_wp2_with (first | ((with_reducible refine gate_callee (f := 21) rfl ?_); refine goesL_ (some 33) rfl rfl Try.func21 (by kernel_rfl) rfl #[.int .u64 ((rd_T26 l0 x3_1).f0), .int .i64 ((rd_T26 l0 x3_1).f3)] rfl (by (try simp only [List.map_toArray, List.map_cons, List.map_nil]); first | done | rfl | (simp only [List.length_drop, List.length_take]; rfl)) ?_; (with_reducible refine (word_Narrow.calls ((rd_T26 l0 x3_1).f0) ((rd_T26 l0 x3_1).f3) t176 _ A7.out).mono ?_); rintro e w' ⟨rfl, ⟨nd, rfl⟩⟩; refine ⟨_, rfl, ?_⟩) | ((with_reducible refine gate_callee (f := 22) rfl ?_); refine goesL_ (some 36) rfl rfl Try.func22 (by kernel_rfl) rfl #[.int .u64 ((rd_T26 l0 x3_1).f0), .int .i64 ((rd_T26 l0 x3_1).f3)] rfl (by (try simp only [List.map_toArray, List.map_cons, List.map_nil]); first | done | rfl | (simp only [List.length_drop, List.length_take]; rfl)) ?_; (with_reducible refine (spindleref1_Narrow.calls k1 ((rd_T26 l0 x3_1).f0) ((rd_T26 l0 x3_1).f3) t177 _ A8.out).mono ?_); rintro e w' ⟨rfl, ⟨nd, rfl⟩⟩; refine ⟨_, rfl, ?_⟩) | (go_at_call 23; (with_reducible refine (word_Sign.calls ((rd_T26 l0 x3_1).f0) ((rd_T26 l0 x3_1).f3) t178 _ A10.out).mono ?_); rintro e w' ⟨rfl, ⟨nd, rfl⟩⟩) | (go_at_call 24; (with_reducible refine (spindleref1_Sign.calls k1 ((rd_T26 l0 x3_1).f0) ((rd_T26 l0 x3_1).f3) t179 _ A11.out).mono ?_); rintro e w' ⟨rfl, ⟨nd, rfl⟩⟩))
                  go_meet
                  case rel => exact ⟨_, (false), (by first | rfl | (simp; done) | (simp [*]; done)), H', ⟨by have := HK1.out; first | omega | exact Nat.le_refl _⟩, by repeat (first | exact Drawn0.refl _ | apply Drawn0.step)⟩
              · rw [if_neg c9] at H
                have c9b0 : (t176 == t177) = false := beq_eq_false_iff_ne.mpr c9
                have c9b1 : (t176 != t177) = true := bne_iff_ne.mpr c9
                (first | rw [c9b0] | (simp only [i64_w, i32_w]; rw [c9b0]) | skip)
                have H' := Aside0.mk H
                clear H
                go_wp2_with (first | ((with_reducible refine gate_callee (f := 21) rfl ?_); refine goesL_ (some 33) rfl rfl Try.func21 (by kernel_rfl) rfl #[.int .u64 ((rd_T26 l0 x3_1).f0), .int .i64 ((rd_T26 l0 x3_1).f3)] rfl (by (try simp only [List.map_toArray, List.map_cons, List.map_nil]); first | done | rfl | (simp only [List.length_drop, List.length_take]; rfl)) ?_; (with_reducible refine (word_Narrow.calls ((rd_T26 l0 x3_1).f0) ((rd_T26 l0 x3_1).f3) t176 _ A7.out).mono ?_); rintro e w' ⟨rfl, ⟨nd, rfl⟩⟩; refine ⟨_, rfl, ?_⟩) | ((with_reducible refine gate_callee (f := 22) rfl ?_); refine goesL_ (some 36) rfl rfl Try.func22 (by kernel_rfl) rfl #[.int .u64 ((rd_T26 l0 x3_1).f0), .int .i64 ((rd_T26 l0 x3_1).f3)] rfl (by (try simp only [List.map_toArray, List.map_cons, List.map_nil]); first | done | rfl | (simp only [List.length_drop, List.length_take]; rfl)) ?_; (with_reducible refine (spindleref1_Narrow.calls k1 ((rd_T26 l0 x3_1).f0) ((rd_T26 l0 x3_1).f3) t177 _ A8.out).mono ?_); rintro e w' ⟨rfl, ⟨nd, rfl⟩⟩; refine ⟨_, rfl, ?_⟩))
                go_meet
                case rel => exact ⟨_, (false), (by first | rfl | (simp; done) | (simp [*]; done)), H', ⟨by have := HK1.out; first | omega | exact Nat.le_refl _⟩, by repeat (first | exact Drawn0.refl _ | apply Drawn0.step)⟩
            case rest =>
              clear HC6
              try clear c1
              try clear p1
              try clear q1
              try clear hx1
              try clear c2
              try clear p2
              try clear c3
              try clear c4
              try clear c4b0
              try clear c5
              try clear c5b0
              try clear c9
              try clear c9b0
              try clear c9b1
              try clear c11
              try clear c12
              try clear c12b0
              try clear c12b1
              try clear hx173_0
              try clear hx173_1
              try clear hx173_2
              try clear hx173_3
              try clear hx174_0
              try clear hx174_1
              try clear hx174_2
              try clear hx174_3
              try clear hx175_0
              try clear hx175_1
              try clear hx175_2
              try clear hx175_3
              try clear p173
              try clear p174
              try clear p175
              try clear p2
              try clear q173
              try clear q174
              try clear q175
              obtain ⟨kq, x7_5, rfl, HA, HJ5, ⟨mc5, rfl⟩⟩ := hcut
              cases kq with
              | zero => exact absurd HA.out (by simp [spindlelaw1_WordForms.j1])
              | succ kj5 =>
                have H := HA.out
                clear HA
                simp only [spindlelaw1_WordForms.j1] at H
                by_cases c15 : x7_5 = true
                · subst c15
                  have H1 : ((word_Less.f ((rd_T26 l0 x3_1).f0) ((rd_T26 l0 x3_1).f1) ((rd_T26 l0 x3_1).f3)).bind fun t182 => ((spindleref1_Less.f kj5 ((rd_T26 l0 x3_1).f0) ((rd_T26 l0 x3_1).f1) ((rd_T26 l0 x3_1).f3)).bind fun t183 => (if (t182 != t183) = true then (some false) else ((word_SLess.f ((rd_T26 l0 x3_1).f0) ((rd_T26 l0 x3_1).f1) ((rd_T26 l0 x3_1).f3)).bind fun t184 => ((spindleref1_SLess.f kj5 ((rd_T26 l0 x3_1).f0) ((rd_T26 l0 x3_1).f1) ((rd_T26 l0 x3_1).f3)).bind fun t185 => (if (t184 != t185) = true then (some false) else (spindlelaw1_WordForms.l0 kj5 l0 (wrap64 (x3_1 + 1))))))))) = some r := by rw [if_pos rfl] at H; exact H
                  clear H
                  have H := H1
                  clear H1
                  replace H := Option.bind_eq_some_iff.mp H
                  obtain ⟨t182, A160, H⟩ := H
                  replace H : ((spindleref1_Less.f kj5 ((rd_T26 l0 x3_1).f0) ((rd_T26 l0 x3_1).f1) ((rd_T26 l0 x3_1).f3)).bind fun t183 => (if (t182 != t183) = true then (some false) else ((word_SLess.f ((rd_T26 l0 x3_1).f0) ((rd_T26 l0 x3_1).f1) ((rd_T26 l0 x3_1).f3)).bind fun t184 => ((spindleref1_SLess.f kj5 ((rd_T26 l0 x3_1).f0) ((rd_T26 l0 x3_1).f1) ((rd_T26 l0 x3_1).f3)).bind fun t185 => (if (t184 != t185) = true then (some false) else (spindlelaw1_WordForms.l0 kj5 l0 (wrap64 (x3_1 + 1)))))))) = some r := H
                  have A16 := Aside0.mk A160
                  clear A160
                  replace H := Option.bind_eq_some_iff.mp H
                  obtain ⟨t183, A170, H⟩ := H
                  replace H : (if (t182 != t183) = true then (some false) else ((word_SLess.f ((rd_T26 l0 x3_1).f0) ((rd_T26 l0 x3_1).f1) ((rd_T26 l0 x3_1).f3)).bind fun t184 => ((spindleref1_SLess.f kj5 ((rd_T26 l0 x3_1).f0) ((rd_T26 l0 x3_1).f1) ((rd_T26 l0 x3_1).f3)).bind fun t185 => (if (t184 != t185) = true then (some false) else (spindlelaw1_WordForms.l0 kj5 l0 (wrap64 (x3_1 + 1))))))) = some r := H
                  have A17 := Aside0.mk A170
                  clear A170
                  by_cases c18 : (t182 != t183) = true
                  · rw [if_pos c18] at H
                    have c18b0 : (t182 != t183) = true := c18
                    (try (have c18b1 : decide (t182 = t183) = false := by simpa using c18))
                    (try (have c18b2 : (t182 == t183) = false := by simpa using c18))
                    (try (have c18b3 : ¬ (t182 = t183) := by simpa using c18))
                    clear c18
                    obtain rfl := Option.some.inj H
                    go_wp2_with (first | (go_at_call 27; (with_reducible refine (word_Less.calls ((rd_T26 l0 x3_1).f0) ((rd_T26 l0 x3_1).f1) ((rd_T26 l0 x3_1).f3) t182 _ A16.out).mono ?_); rintro e w' ⟨rfl, ⟨nd, rfl⟩⟩) | (go_at_call 28; (with_reducible refine (spindleref1_Less.calls kj5 ((rd_T26 l0 x3_1).f0) ((rd_T26 l0 x3_1).f1) ((rd_T26 l0 x3_1).f3) t183 _ A17.out).mono ?_); rintro e w' ⟨rfl, ⟨nd, rfl⟩⟩))
                    go_ret
                    exact ⟨by first | rfl | (simp; done) | (simp [*]; done), by repeat (first | exact Drawn0.refl _ | apply Drawn0.step)⟩
                  · rw [if_neg c18] at H
                    have c18b0 : (t182 != t183) = false := by simpa using c18
                    (try (have c18b1 : decide (t182 = t183) = true := by simpa using c18))
                    (try (have c18b2 : (t182 == t183) = true := by simpa using c18))
                    clear c18
                    replace H := Option.bind_eq_some_iff.mp H
                    obtain ⟨t184, A190, H⟩ := H
                    replace H : ((spindleref1_SLess.f kj5 ((rd_T26 l0 x3_1).f0) ((rd_T26 l0 x3_1).f1) ((rd_T26 l0 x3_1).f3)).bind fun t185 => (if (t184 != t185) = true then (some false) else (spindlelaw1_WordForms.l0 kj5 l0 (wrap64 (x3_1 + 1))))) = some r := H
                    have A19 := Aside0.mk A190
                    clear A190
                    replace H := Option.bind_eq_some_iff.mp H
                    obtain ⟨t185, A200, H⟩ := H
                    replace H : (if (t184 != t185) = true then (some false) else (spindlelaw1_WordForms.l0 kj5 l0 (wrap64 (x3_1 + 1)))) = some r := H
                    have A20 := Aside0.mk A200
                    clear A200
                    by_cases c21 : (t184 != t185) = true
                    · rw [if_pos c21] at H
                      have c21b0 : (t184 != t185) = true := c21
                      (try (have c21b1 : decide (t184 = t185) = false := by simpa using c21))
                      (try (have c21b2 : (t184 == t185) = false := by simpa using c21))
                      (try (have c21b3 : ¬ (t184 = t185) := by simpa using c21))
                      clear c21
                      obtain rfl := Option.some.inj H
                      go_wp2_with (first | (go_at_call 27; (with_reducible refine (word_Less.calls ((rd_T26 l0 x3_1).f0) ((rd_T26 l0 x3_1).f1) ((rd_T26 l0 x3_1).f3) t182 _ A16.out).mono ?_); rintro e w' ⟨rfl, ⟨nd, rfl⟩⟩) | (go_at_call 28; (with_reducible refine (spindleref1_Less.calls kj5 ((rd_T26 l0 x3_1).f0) ((rd_T26 l0 x3_1).f1) ((rd_T26 l0 x3_1).f3) t183 _ A17.out).mono ?_); rintro e w' ⟨rfl, ⟨nd, rfl⟩⟩) | (go_at_call 29; (with_reducible refine (word_SLess.calls ((rd_T26 l0 x3_1).f0) ((rd_T26 l0 x3_1).f1) ((rd_T26 l0 x3_1).f3) t184 _ A19.out).mono ?_); rintro e w' ⟨rfl, ⟨nd, rfl⟩⟩) | (go_at_call 30; (with_reducible refine (spindleref1_SLess.calls kj5 ((rd_T26 l0 x3_1).f0) ((rd_T26 l0 x3_1).f1) ((rd_T26 l0 x3_1).f3) t185 _ A20.out).mono ?_); rintro e w' ⟨rfl, ⟨nd, rfl⟩⟩))
                      go_ret
                      exact ⟨by first | rfl | (simp; done) | (simp [*]; done), by repeat (first | exact Drawn0.refl _ | apply Drawn0.step)⟩
                    · rw [if_neg c21] at H
                      have c21b0 : (t184 != t185) = false := by simpa using c21
                      (try (have c21b1 : decide (t184 = t185) = true := by simpa using c21))
                      (try (have c21b2 : (t184 == t185) = true := by simpa using c21))
                      clear c21
                      have H' := Aside0.mk H
                      clear H
                      go_wp2_with (first | (go_at_call 27; (with_reducible refine (word_Less.calls ((rd_T26 l0 x3_1).f0) ((rd_T26 l0 x3_1).f1) ((rd_T26 l0 x3_1).f3) t182 _ A16.out).mono ?_); rintro e w' ⟨rfl, ⟨nd, rfl⟩⟩) | (go_at_call 28; (with_reducible refine (spindleref1_Less.calls kj5 ((rd_T26 l0 x3_1).f0) ((rd_T26 l0 x3_1).f1) ((rd_T26 l0 x3_1).f3) t183 _ A17.out).mono ?_); rintro e w' ⟨rfl, ⟨nd, rfl⟩⟩) | (go_at_call 29; (with_reducible refine (word_SLess.calls ((rd_T26 l0 x3_1).f0) ((rd_T26 l0 x3_1).f1) ((rd_T26 l0 x3_1).f3) t184 _ A19.out).mono ?_); rintro e w' ⟨rfl, ⟨nd, rfl⟩⟩) | (go_at_call 30; (with_reducible refine (spindleref1_SLess.calls kj5 ((rd_T26 l0 x3_1).f0) ((rd_T26 l0 x3_1).f1) ((rd_T26 l0 x3_1).f3) t185 _ A20.out).mono ?_); rintro e w' ⟨rfl, ⟨nd, rfl⟩⟩))
                      go_roundg kj5
                      case measure => have := HK1.out; have := HJ5.out; omega
                      case rel => exact ⟨(wrap64 (x3_1 + 1)), (by first | rfl | (simp; done) | (simp [*]; done)), H', ⟨by have := HK1.out; have := HJ5.out; omega⟩, by repeat (first | exact Drawn0.refl _ | apply Drawn0.step)⟩
                · replace c15 := Bool.eq_false_iff.mpr c15
                  subst c15
                  have H1 : (some false) = some r := by rw [if_neg (show ¬ (false = true) by decide)] at H; exact H
                  clear H
                  have H := H1
                  clear H1
                  obtain rfl := Option.some.inj H
                  go_wp2
                  go_ret
                  exact ⟨by first | rfl | (simp; done) | (simp [*]; done), by repeat (first | exact Drawn0.refl _ | apply Drawn0.step)⟩
          · rw [if_neg c5] at H
            exact absurd H (by simp)
        · rw [if_neg c4] at H
          have c4b0 : decide (x3_1 < (l0.length : Int)) = false := decide_eq_false c4
          clear c4
          obtain rfl := Option.some.inj H
          go_wp2
          go_ret
          exact ⟨by first | rfl | (simp; done) | (simp [*]; done), by repeat (first | exact Drawn0.refl _ | apply Drawn0.step)⟩
  · replace c3 := Bool.eq_false_iff.mpr c3
    subst c3
    have H1 : (some false) = some r := by rw [if_neg (show ¬ (false = true) by decide)] at H; exact H
    clear H
    have H := H1
    clear H1
    obtain rfl := Option.some.inj H
    go_enter Try.func4, Try.ntmps4
    go_wp2_with (first | ((with_reducible refine gate_callee (f := 11) rfl ?_); refine goesL_ (some 8) rfl rfl Try.func11 (by kernel_rfl) rfl #[] rfl (by (try simp only [List.map_toArray, List.map_cons, List.map_nil]); first | done | rfl | (simp only [List.length_drop, List.length_take]; rfl)) ?_; (with_reducible refine (spindlelaw1_awake.calls k  false _ A2.out).mono ?_); rintro e w' ⟨rfl, ⟨nd, rfl⟩⟩; refine ⟨_, rfl, ?_⟩))
    go_ret
    exact ⟨by first | rfl | (simp; done) | (simp [*]; done), by repeat (first | exact Drawn0.refl _ | apply Drawn0.step)⟩

/-! ### spindleref1_divide: function 62 -/
def spindleref1_divide.l0 : Nat → Int → Int → Int → Int → Int → Option (Int × Int)
  | 0, _, _, _, _, _ => none
  | k + 1, x0, x1, x6, x7, x8 => if x8 ≥ 0 then ((spindleref1_power.f k 63).bind fun t186 => ((spindleref1_power.f k x8).bind fun t187 => (if t187 = 0 then (none) else (if x7 ≥ t186 then (spindleref1_divide.l0 k x0 x1 (IntKind.u64.wrap ((IntKind.u64.wrap (x6 + x6)) + 1)) (IntKind.u64.wrap ((IntKind.u64.wrap ((IntKind.u64.wrap (x7 + x7)) + (Int.tmod (IntKind.u64.wrap (Int.tdiv x0 t187)) 2))) - x1)) (wrap64 (x8 - 1))) else (if (IntKind.u64.wrap ((IntKind.u64.wrap (x7 + x7)) + (Int.tmod (IntKind.u64.wrap (Int.tdiv x0 t187)) 2))) ≥ x1 then (spindleref1_divide.l0 k x0 x1 (IntKind.u64.wrap ((IntKind.u64.wrap (x6 + x6)) + 1)) (IntKind.u64.wrap ((IntKind.u64.wrap ((IntKind.u64.wrap (x7 + x7)) + (Int.tmod (IntKind.u64.wrap (Int.tdiv x0 t187)) 2))) - x1)) (wrap64 (x8 - 1))) else (spindleref1_divide.l0 k x0 x1 (IntKind.u64.wrap (x6 + x6)) (IntKind.u64.wrap ((IntKind.u64.wrap (x7 + x7)) + (Int.tmod (IntKind.u64.wrap (Int.tdiv x0 t187)) 2))) (wrap64 (x8 - 1)))))))) else (some (x6, x7))
def spindleref1_divide.f (k : Nat) (a0 : Int) (a1 : Int) : Option (Int × Int) := spindleref1_divide.l0 k a0 a1 0 0 63
theorem spindleref1_divide.mono_l : ∀ k, (∀ y0 y1 y2 y3 y4, LeO (spindleref1_divide.l0 k y0 y1 y2 y3 y4) (spindleref1_divide.l0 (k + 1) y0 y1 y2 y3 y4))
  | 0 => fun _ _ _ _ _ r h => by simp [spindleref1_divide.l0] at h
  | k + 1 => by
    have ih0 := spindleref1_divide.mono_l k
    · intro y0 y1 y2 y3 y4
      unfold spindleref1_divide.l0
      repeat' first
      | (with_reducible exact ih0 _ _ _ _ _)
      | (with_reducible exact spindleref1_power.mono _ _)
      | (with_reducible exact LeO.refl _)
      | (with_reducible exact LeO.none _)
      | (with_reducible refine LeO.ite ?_ ?_)
      | (with_reducible refine LeO.bind ?_ (fun _ => ?_))
      | exact ih0 _ _ _ _ _
      | exact spindleref1_power.mono _ _
      | exact LeO.none _
      | refine LeO.ite ?_ ?_
      | refine LeO.bind ?_ (fun _ => ?_)
theorem spindleref1_divide.mono : ∀ a0 a1 k, LeO (spindleref1_divide.f k a0 a1) (spindleref1_divide.f (k + 1) a0 a1) := by
  intro a0 a1 k
  have ih0 := spindleref1_divide.mono_l k
  unfold spindleref1_divide.f
  repeat' first
      | (with_reducible exact ih0 _ _ _ _ _)
      | (with_reducible exact spindleref1_power.mono _ _)
      | (with_reducible exact LeO.refl _)
      | (with_reducible exact LeO.none _)
      | (with_reducible refine LeO.ite ?_ ?_)
      | (with_reducible refine LeO.bind ?_ (fun _ => ?_))
      | exact ih0 _ _ _ _ _
      | exact spindleref1_power.mono _ _
      | exact LeO.none _
      | refine LeO.ite ?_ ?_
      | refine LeO.bind ?_ (fun _ => ?_)
set_option maxHeartbeats 8000000 in
set_option maxRecDepth 100000 in
theorem spindleref1_divide.calls (k : Nat) (a0 : Int) (a1 : Int) (r1 : Int) (r2 : Int) (w : World) (h : spindleref1_divide.f k a0 a1 = some (r1, r2)) :
    Calls Try.prog 62 #[.int .u64 a0, .int .u64 a1] w fun e w' => e = .returned (.tuple #[.int .u64 r1, .int .u64 r2]) ∧ Drawn0 w w' := by
  have H : (spindleref1_divide.l0 k a0 a1 0 0 63) = some (r1, r2) := h
  clear h
  have H' := Aside0.mk H
  clear H
  go_enter Try.func62, Try.ntmps62
  go_wp2
  go_loopg [6, 7, 8] k (fun kq v6 v7 v8 w' => ∃ (x6_1 : Int) (x7_1 : Int) (x8_1 : Int), v6 = .int .u64 x6_1 ∧ v7 = .int .u64 x7_1 ∧ v8 = .int .i64 x8_1 ∧ Aside0 (spindleref1_divide.l0 kq a0 a1 x6_1 x7_1 x8_1 = some (r1, r2)) ∧ Aside0 (kq ≤ k) ∧ Drawn0 w w')
  case atStart => exact ⟨(0), (0), (63), (by first | rfl | (simp; done) | (simp [*]; done)), (by first | rfl | (simp; done) | (simp [*]; done)), (by first | rfl | (simp; done) | (simp [*]; done)), H', ⟨Nat.le_refl _⟩, by repeat (first | exact Drawn0.refl _ | apply Drawn0.step)⟩
  case round =>
    clear H'
    try clear p2
    obtain ⟨x6_1, x7_1, x8_1, rfl, rfl, rfl, HA, HK1, ⟨m1, rfl⟩⟩ := hrel
    cases gk with
    | zero => exact absurd HA.out (by simp [spindleref1_divide.l0])
    | succ k1 =>
      have H := HA.out
      clear HA
      simp only [spindleref1_divide.l0] at H
      by_cases c3 : x8_1 ≥ 0
      · rw [if_pos c3] at H
        have c3b0 : decide (0 ≤ x8_1) = true := decide_eq_true c3
        clear c3
        replace H := Option.bind_eq_some_iff.mp H
        obtain ⟨t186, A40, H⟩ := H
        replace H : ((spindleref1_power.f k1 x8_1).bind fun t187 => (if t187 = 0 then (none) else (if x7_1 ≥ t186 then (spindleref1_divide.l0 k1 a0 a1 (IntKind.u64.wrap ((IntKind.u64.wrap (x6_1 + x6_1)) + 1)) (IntKind.u64.wrap ((IntKind.u64.wrap ((IntKind.u64.wrap (x7_1 + x7_1)) + (Int.tmod (IntKind.u64.wrap (Int.tdiv a0 t187)) 2))) - a1)) (wrap64 (x8_1 - 1))) else (if (IntKind.u64.wrap ((IntKind.u64.wrap (x7_1 + x7_1)) + (Int.tmod (IntKind.u64.wrap (Int.tdiv a0 t187)) 2))) ≥ a1 then (spindleref1_divide.l0 k1 a0 a1 (IntKind.u64.wrap ((IntKind.u64.wrap (x6_1 + x6_1)) + 1)) (IntKind.u64.wrap ((IntKind.u64.wrap ((IntKind.u64.wrap (x7_1 + x7_1)) + (Int.tmod (IntKind.u64.wrap (Int.tdiv a0 t187)) 2))) - a1)) (wrap64 (x8_1 - 1))) else (spindleref1_divide.l0 k1 a0 a1 (IntKind.u64.wrap (x6_1 + x6_1)) (IntKind.u64.wrap ((IntKind.u64.wrap (x7_1 + x7_1)) + (Int.tmod (IntKind.u64.wrap (Int.tdiv a0 t187)) 2))) (wrap64 (x8_1 - 1))))))) = some (r1, r2) := H
        have A4 := Aside0.mk A40
        clear A40
        replace H := Option.bind_eq_some_iff.mp H
        obtain ⟨t187, A50, H⟩ := H
        replace H : (if t187 = 0 then (none) else (if x7_1 ≥ t186 then (spindleref1_divide.l0 k1 a0 a1 (IntKind.u64.wrap ((IntKind.u64.wrap (x6_1 + x6_1)) + 1)) (IntKind.u64.wrap ((IntKind.u64.wrap ((IntKind.u64.wrap (x7_1 + x7_1)) + (Int.tmod (IntKind.u64.wrap (Int.tdiv a0 t187)) 2))) - a1)) (wrap64 (x8_1 - 1))) else (if (IntKind.u64.wrap ((IntKind.u64.wrap (x7_1 + x7_1)) + (Int.tmod (IntKind.u64.wrap (Int.tdiv a0 t187)) 2))) ≥ a1 then (spindleref1_divide.l0 k1 a0 a1 (IntKind.u64.wrap ((IntKind.u64.wrap (x6_1 + x6_1)) + 1)) (IntKind.u64.wrap ((IntKind.u64.wrap ((IntKind.u64.wrap (x7_1 + x7_1)) + (Int.tmod (IntKind.u64.wrap (Int.tdiv a0 t187)) 2))) - a1)) (wrap64 (x8_1 - 1))) else (spindleref1_divide.l0 k1 a0 a1 (IntKind.u64.wrap (x6_1 + x6_1)) (IntKind.u64.wrap ((IntKind.u64.wrap (x7_1 + x7_1)) + (Int.tmod (IntKind.u64.wrap (Int.tdiv a0 t187)) 2))) (wrap64 (x8_1 - 1)))))) = some (r1, r2) := H
        have A5 := Aside0.mk A50
        clear A50
        by_cases c6 : t187 = 0
        · rw [if_pos c6] at H
          exact absurd H (by simp)
        · rw [if_neg c6] at H
          have c6b0 : (t187 == 0) = false := beq_eq_false_iff_ne.mpr c6
          have c6b1 : (t187 != 0) = true := bne_iff_ne.mpr c6
          by_cases c7 : x7_1 ≥ t186
          · rw [if_pos c7] at H
            have c7b0 : decide (t186 ≤ x7_1) = true := decide_eq_true c7
            clear c7
            have H' := Aside0.mk H
            clear H
            go_wp2_with (first | ((with_reducible refine gate_callee (f := 46) rfl ?_); refine goesL_ (some 15) rfl rfl Try.func46 (by kernel_rfl) rfl #[.int .i64 63] rfl (by (try simp only [List.map_toArray, List.map_cons, List.map_nil]); first | done | rfl | (simp only [List.length_drop, List.length_take]; rfl)) ?_; (with_reducible refine (spindleref1_power.calls k1 63 t186 _ A4.out).mono ?_); rintro e w' ⟨rfl, ⟨nd, rfl⟩⟩; refine ⟨_, rfl, ?_⟩) | ((with_reducible refine gate_callee (f := 46) rfl ?_); refine goesL_ (some 22) rfl rfl Try.func46 (by kernel_rfl) rfl #[.int .i64 x8_1] rfl (by (try simp only [List.map_toArray, List.map_cons, List.map_nil]); first | done | rfl | (simp only [List.length_drop, List.length_take]; rfl)) ?_; (with_reducible refine (spindleref1_power.calls k1 x8_1 t187 _ A5.out).mono ?_); rintro e w' ⟨rfl, ⟨nd, rfl⟩⟩; refine ⟨_, rfl, ?_⟩))
            go_roundg k1
            case measure => have := HK1.out; omega
            case rel => exact ⟨(IntKind.u64.wrap ((IntKind.u64.wrap (x6_1 + x6_1)) + 1)), (IntKind.u64.wrap ((IntKind.u64.wrap ((IntKind.u64.wrap (x7_1 + x7_1)) + (Int.tmod (IntKind.u64.wrap (Int.tdiv a0 t187)) 2))) - a1)), (wrap64 (x8_1 - 1)), (by first | rfl | (simp; done) | (simp [*]; done)), (by first | rfl | (simp; done) | (simp [*]; done)), (by first | rfl | (simp; done) | (simp [*]; done)), H', ⟨by have := HK1.out; omega⟩, by repeat (first | exact Drawn0.refl _ | apply Drawn0.step)⟩
          · rw [if_neg c7] at H
            have c7b0 : decide (t186 ≤ x7_1) = false := decide_eq_false c7
            clear c7
            by_cases c8 : (IntKind.u64.wrap ((IntKind.u64.wrap (x7_1 + x7_1)) + (Int.tmod (IntKind.u64.wrap (Int.tdiv a0 t187)) 2))) ≥ a1
            · rw [if_pos c8] at H
              have c8b0 : decide (a1 ≤ (IntKind.u64.wrap ((IntKind.u64.wrap (x7_1 + x7_1)) + (Int.tmod (IntKind.u64.wrap (Int.tdiv a0 t187)) 2)))) = true := decide_eq_true c8
              clear c8
              have H' := Aside0.mk H
              clear H
              go_wp2_with (first | ((with_reducible refine gate_callee (f := 46) rfl ?_); refine goesL_ (some 15) rfl rfl Try.func46 (by kernel_rfl) rfl #[.int .i64 63] rfl (by (try simp only [List.map_toArray, List.map_cons, List.map_nil]); first | done | rfl | (simp only [List.length_drop, List.length_take]; rfl)) ?_; (with_reducible refine (spindleref1_power.calls k1 63 t186 _ A4.out).mono ?_); rintro e w' ⟨rfl, ⟨nd, rfl⟩⟩; refine ⟨_, rfl, ?_⟩) | ((with_reducible refine gate_callee (f := 46) rfl ?_); refine goesL_ (some 22) rfl rfl Try.func46 (by kernel_rfl) rfl #[.int .i64 x8_1] rfl (by (try simp only [List.map_toArray, List.map_cons, List.map_nil]); first | done | rfl | (simp only [List.length_drop, List.length_take]; rfl)) ?_; (with_reducible refine (spindleref1_power.calls k1 x8_1 t187 _ A5.out).mono ?_); rintro e w' ⟨rfl, ⟨nd, rfl⟩⟩; refine ⟨_, rfl, ?_⟩))
              go_roundg k1
              case measure => have := HK1.out; omega
              case rel => exact ⟨(IntKind.u64.wrap ((IntKind.u64.wrap (x6_1 + x6_1)) + 1)), (IntKind.u64.wrap ((IntKind.u64.wrap ((IntKind.u64.wrap (x7_1 + x7_1)) + (Int.tmod (IntKind.u64.wrap (Int.tdiv a0 t187)) 2))) - a1)), (wrap64 (x8_1 - 1)), (by first | rfl | (simp; done) | (simp [*]; done)), (by first | rfl | (simp; done) | (simp [*]; done)), (by first | rfl | (simp; done) | (simp [*]; done)), H', ⟨by have := HK1.out; omega⟩, by repeat (first | exact Drawn0.refl _ | apply Drawn0.step)⟩
            · rw [if_neg c8] at H
              have c8b0 : decide (a1 ≤ (IntKind.u64.wrap ((IntKind.u64.wrap (x7_1 + x7_1)) + (Int.tmod (IntKind.u64.wrap (Int.tdiv a0 t187)) 2)))) = false := decide_eq_false c8
              clear c8
              have H' := Aside0.mk H
              clear H
              go_wp2_with (first | ((with_reducible refine gate_callee (f := 46) rfl ?_); refine goesL_ (some 15) rfl rfl Try.func46 (by kernel_rfl) rfl #[.int .i64 63] rfl (by (try simp only [List.map_toArray, List.map_cons, List.map_nil]); first | done | rfl | (simp only [List.length_drop, List.length_take]; rfl)) ?_; (with_reducible refine (spindleref1_power.calls k1 63 t186 _ A4.out).mono ?_); rintro e w' ⟨rfl, ⟨nd, rfl⟩⟩; refine ⟨_, rfl, ?_⟩) | ((with_reducible refine gate_callee (f := 46) rfl ?_); refine goesL_ (some 22) rfl rfl Try.func46 (by kernel_rfl) rfl #[.int .i64 x8_1] rfl (by (try simp only [List.map_toArray, List.map_cons, List.map_nil]); first | done | rfl | (simp only [List.length_drop, List.length_take]; rfl)) ?_; (with_reducible refine (spindleref1_power.calls k1 x8_1 t187 _ A5.out).mono ?_); rintro e w' ⟨rfl, ⟨nd, rfl⟩⟩; refine ⟨_, rfl, ?_⟩))
              go_roundg k1
              case measure => have := HK1.out; omega
              case rel => exact ⟨(IntKind.u64.wrap (x6_1 + x6_1)), (IntKind.u64.wrap ((IntKind.u64.wrap (x7_1 + x7_1)) + (Int.tmod (IntKind.u64.wrap (Int.tdiv a0 t187)) 2))), (wrap64 (x8_1 - 1)), (by first | rfl | (simp; done) | (simp [*]; done)), (by first | rfl | (simp; done) | (simp [*]; done)), (by first | rfl | (simp; done) | (simp [*]; done)), H', ⟨by have := HK1.out; omega⟩, by repeat (first | exact Drawn0.refl _ | apply Drawn0.step)⟩
      · rw [if_neg c3] at H
        have c3b0 : decide (0 ≤ x8_1) = false := decide_eq_false c3
        clear c3
        simp only [Option.some.injEq, Prod.mk.injEq] at H
        obtain ⟨rfl, rfl⟩ := H
        go_wp2
        go_ret2
        exact ⟨by first | rfl | (simp; done) | (simp [*]; done), by repeat (first | exact Drawn0.refl _ | apply Drawn0.step)⟩

/-! ### spindleref1_Div: function 32 -/
def spindleref1_Div.f (k : Nat) (a0 : Int) (a1 : Int) (a2 : Int) : Option (Int) := (spindleref1_Narrow.f k a1 a2).bind fun t188 => (if t188 = 0 then (some 0) else ((spindleref1_Narrow.f k a0 a2).bind fun t189 => ((spindleref1_divide.f k t189 t188).bind fun bt190 => (some bt190.1))))
theorem spindleref1_Div.mono : ∀ a0 a1 a2 k, LeO (spindleref1_Div.f k a0 a1 a2) (spindleref1_Div.f (k + 1) a0 a1 a2) := by
  intro a0 a1 a2 k
  unfold spindleref1_Div.f
  repeat' first
      | (with_reducible exact spindleref1_Narrow.mono _ _ _)
      | (with_reducible exact spindleref1_divide.mono _ _ _)
      | (with_reducible exact LeO.refl _)
      | (with_reducible exact LeO.none _)
      | (with_reducible refine LeO.ite ?_ ?_)
      | (with_reducible refine LeO.bind ?_ (fun _ => ?_))
      | exact spindleref1_Narrow.mono _ _ _
      | exact spindleref1_divide.mono _ _ _
      | exact LeO.none _
      | refine LeO.ite ?_ ?_
      | refine LeO.bind ?_ (fun _ => ?_)
set_option maxHeartbeats 8000000 in
set_option maxRecDepth 100000 in
theorem spindleref1_Div.calls (k : Nat) (a0 : Int) (a1 : Int) (a2 : Int) (r : Int) (w : World) (h : spindleref1_Div.f k a0 a1 a2 = some r) :
    Calls Try.prog 32 #[.int .u64 a0, .int .u64 a1, .int .i64 a2] w fun e w' => e = .returned (.int .u64 r) ∧ Drawn0 w w' := by
  have H : ((spindleref1_Narrow.f k a1 a2).bind fun t188 => (if t188 = 0 then (some 0) else ((spindleref1_Narrow.f k a0 a2).bind fun t189 => ((spindleref1_divide.f k t189 t188).bind fun bt190 => (some bt190.1))))) = some r := h
  clear h
  replace H := Option.bind_eq_some_iff.mp H
  obtain ⟨t188, A40, H⟩ := H
  replace H : (if t188 = 0 then (some 0) else ((spindleref1_Narrow.f k a0 a2).bind fun t189 => ((spindleref1_divide.f k t189 t188).bind fun bt190 => (some bt190.1)))) = some r := H
  have A4 := Aside0.mk A40
  clear A40
  by_cases c5 : t188 = 0
  · rw [if_pos c5] at H
    have c5b0 : (t188 == 0) = true := beq_iff_eq.mpr c5
    have c5b1 : (t188 != 0) = false := bne_eq_false_iff_eq.mpr c5
    clear c5
    obtain rfl := Option.some.inj H
    go_enter Try.func32, Try.ntmps32
    go_wp2_with (first | ((with_reducible refine gate_callee (f := 22) rfl ?_); refine goesL_ (some 12) rfl rfl Try.func22 (by kernel_rfl) rfl #[.int .u64 a1, .int .i64 a2] rfl (by (try simp only [List.map_toArray, List.map_cons, List.map_nil]); first | done | rfl | (simp only [List.length_drop, List.length_take]; rfl)) ?_; (with_reducible refine (spindleref1_Narrow.calls k a1 a2 t188 _ A4.out).mono ?_); rintro e w' ⟨rfl, ⟨nd, rfl⟩⟩; refine ⟨_, rfl, ?_⟩))
    go_ret
    exact ⟨by first | rfl | (simp; done) | (simp [*]; done), by repeat (first | exact Drawn0.refl _ | apply Drawn0.step)⟩
  · rw [if_neg c5] at H
    have c5b0 : (t188 == 0) = false := beq_eq_false_iff_ne.mpr c5
    have c5b1 : (t188 != 0) = true := bne_iff_ne.mpr c5
    replace H := Option.bind_eq_some_iff.mp H
    obtain ⟨t189, A60, H⟩ := H
    replace H : ((spindleref1_divide.f k t189 t188).bind fun bt190 => (some bt190.1)) = some r := H
    have A6 := Aside0.mk A60
    clear A60
    replace H := Option.bind_eq_some_iff.mp H
    obtain ⟨⟨t190, t191⟩, A70, H⟩ := H
    replace H : (some t190) = some r := H
    have A7 := Aside0.mk A70
    clear A70
    obtain rfl := Option.some.inj H
    go_enter Try.func32, Try.ntmps32
    go_wp2_with (first | ((with_reducible refine gate_callee (f := 22) rfl ?_); refine goesL_ (some 12) rfl rfl Try.func22 (by kernel_rfl) rfl #[.int .u64 a1, .int .i64 a2] rfl (by (try simp only [List.map_toArray, List.map_cons, List.map_nil]); first | done | rfl | (simp only [List.length_drop, List.length_take]; rfl)) ?_; (with_reducible refine (spindleref1_Narrow.calls k a1 a2 t188 _ A4.out).mono ?_); rintro e w' ⟨rfl, ⟨nd, rfl⟩⟩; refine ⟨_, rfl, ?_⟩) | ((with_reducible refine gate_callee (f := 22) rfl ?_); refine goesL_ (some 18) rfl rfl Try.func22 (by kernel_rfl) rfl #[.int .u64 a0, .int .i64 a2] rfl (by (try simp only [List.map_toArray, List.map_cons, List.map_nil]); first | done | rfl | (simp only [List.length_drop, List.length_take]; rfl)) ?_; (with_reducible refine (spindleref1_Narrow.calls k a0 a2 t189 _ A6.out).mono ?_); rintro e w' ⟨rfl, ⟨nd, rfl⟩⟩; refine ⟨_, rfl, ?_⟩) | ((with_reducible refine gate_callee (f := 62) rfl ?_); refine goesL_ (some 20) rfl rfl Try.func62 (by kernel_rfl) rfl #[.int .u64 t189, .int .u64 t188] rfl (by (try simp only [List.map_toArray, List.map_cons, List.map_nil]); first | done | rfl | (simp only [List.length_drop, List.length_take]; rfl)) ?_; (with_reducible refine (spindleref1_divide.calls k t189 t188 t190 t191 _ A7.out).mono ?_); rintro e w' ⟨rfl, ⟨nd, rfl⟩⟩; refine ⟨_, rfl, ?_⟩))
    go_ret
    exact ⟨by first | rfl | (simp; done) | (simp [*]; done), by repeat (first | exact Drawn0.refl _ | apply Drawn0.step)⟩

/-! ### spindleref1_Mod: function 34 -/
def spindleref1_Mod.f (k : Nat) (a0 : Int) (a1 : Int) (a2 : Int) : Option (Int) := (spindleref1_Narrow.f k a0 a2).bind fun t192 => ((spindleref1_Narrow.f k a1 a2).bind fun t193 => (if t193 = 0 then (some t192) else ((spindleref1_divide.f k t192 t193).bind fun bt194 => (some bt194.2))))
theorem spindleref1_Mod.mono : ∀ a0 a1 a2 k, LeO (spindleref1_Mod.f k a0 a1 a2) (spindleref1_Mod.f (k + 1) a0 a1 a2) := by
  intro a0 a1 a2 k
  unfold spindleref1_Mod.f
  repeat' first
      | (with_reducible exact spindleref1_Narrow.mono _ _ _)
      | (with_reducible exact spindleref1_divide.mono _ _ _)
      | (with_reducible exact LeO.refl _)
      | (with_reducible exact LeO.none _)
      | (with_reducible refine LeO.ite ?_ ?_)
      | (with_reducible refine LeO.bind ?_ (fun _ => ?_))
      | exact spindleref1_Narrow.mono _ _ _
      | exact spindleref1_divide.mono _ _ _
      | exact LeO.none _
      | refine LeO.ite ?_ ?_
      | refine LeO.bind ?_ (fun _ => ?_)
set_option maxHeartbeats 8000000 in
set_option maxRecDepth 100000 in
theorem spindleref1_Mod.calls (k : Nat) (a0 : Int) (a1 : Int) (a2 : Int) (r : Int) (w : World) (h : spindleref1_Mod.f k a0 a1 a2 = some r) :
    Calls Try.prog 34 #[.int .u64 a0, .int .u64 a1, .int .i64 a2] w fun e w' => e = .returned (.int .u64 r) ∧ Drawn0 w w' := by
  have H : ((spindleref1_Narrow.f k a0 a2).bind fun t192 => ((spindleref1_Narrow.f k a1 a2).bind fun t193 => (if t193 = 0 then (some t192) else ((spindleref1_divide.f k t192 t193).bind fun bt194 => (some bt194.2))))) = some r := h
  clear h
  replace H := Option.bind_eq_some_iff.mp H
  obtain ⟨t192, A40, H⟩ := H
  replace H : ((spindleref1_Narrow.f k a1 a2).bind fun t193 => (if t193 = 0 then (some t192) else ((spindleref1_divide.f k t192 t193).bind fun bt194 => (some bt194.2)))) = some r := H
  have A4 := Aside0.mk A40
  clear A40
  replace H := Option.bind_eq_some_iff.mp H
  obtain ⟨t193, A50, H⟩ := H
  replace H : (if t193 = 0 then (some t192) else ((spindleref1_divide.f k t192 t193).bind fun bt194 => (some bt194.2))) = some r := H
  have A5 := Aside0.mk A50
  clear A50
  by_cases c6 : t193 = 0
  · rw [if_pos c6] at H
    have c6b0 : (t193 == 0) = true := beq_iff_eq.mpr c6
    have c6b1 : (t193 != 0) = false := bne_eq_false_iff_eq.mpr c6
    clear c6
    obtain rfl := Option.some.inj H
    go_enter Try.func34, Try.ntmps34
    go_wp2_with (first | ((with_reducible refine gate_callee (f := 22) rfl ?_); refine goesL_ (some 13) rfl rfl Try.func22 (by kernel_rfl) rfl #[.int .u64 a0, .int .i64 a2] rfl (by (try simp only [List.map_toArray, List.map_cons, List.map_nil]); first | done | rfl | (simp only [List.length_drop, List.length_take]; rfl)) ?_; (with_reducible refine (spindleref1_Narrow.calls k a0 a2 t192 _ A4.out).mono ?_); rintro e w' ⟨rfl, ⟨nd, rfl⟩⟩; refine ⟨_, rfl, ?_⟩) | ((with_reducible refine gate_callee (f := 22) rfl ?_); refine goesL_ (some 16) rfl rfl Try.func22 (by kernel_rfl) rfl #[.int .u64 a1, .int .i64 a2] rfl (by (try simp only [List.map_toArray, List.map_cons, List.map_nil]); first | done | rfl | (simp only [List.length_drop, List.length_take]; rfl)) ?_; (with_reducible refine (spindleref1_Narrow.calls k a1 a2 t193 _ A5.out).mono ?_); rintro e w' ⟨rfl, ⟨nd, rfl⟩⟩; refine ⟨_, rfl, ?_⟩))
    go_ret
    exact ⟨by first | rfl | (simp; done) | (simp [*]; done), by repeat (first | exact Drawn0.refl _ | apply Drawn0.step)⟩
  · rw [if_neg c6] at H
    have c6b0 : (t193 == 0) = false := beq_eq_false_iff_ne.mpr c6
    have c6b1 : (t193 != 0) = true := bne_iff_ne.mpr c6
    replace H := Option.bind_eq_some_iff.mp H
    obtain ⟨⟨t194, t195⟩, A70, H⟩ := H
    replace H : (some t195) = some r := H
    have A7 := Aside0.mk A70
    clear A70
    obtain rfl := Option.some.inj H
    go_enter Try.func34, Try.ntmps34
    go_wp2_with (first | ((with_reducible refine gate_callee (f := 22) rfl ?_); refine goesL_ (some 13) rfl rfl Try.func22 (by kernel_rfl) rfl #[.int .u64 a0, .int .i64 a2] rfl (by (try simp only [List.map_toArray, List.map_cons, List.map_nil]); first | done | rfl | (simp only [List.length_drop, List.length_take]; rfl)) ?_; (with_reducible refine (spindleref1_Narrow.calls k a0 a2 t192 _ A4.out).mono ?_); rintro e w' ⟨rfl, ⟨nd, rfl⟩⟩; refine ⟨_, rfl, ?_⟩) | ((with_reducible refine gate_callee (f := 22) rfl ?_); refine goesL_ (some 16) rfl rfl Try.func22 (by kernel_rfl) rfl #[.int .u64 a1, .int .i64 a2] rfl (by (try simp only [List.map_toArray, List.map_cons, List.map_nil]); first | done | rfl | (simp only [List.length_drop, List.length_take]; rfl)) ?_; (with_reducible refine (spindleref1_Narrow.calls k a1 a2 t193 _ A5.out).mono ?_); rintro e w' ⟨rfl, ⟨nd, rfl⟩⟩; refine ⟨_, rfl, ?_⟩) | ((with_reducible refine gate_callee (f := 62) rfl ?_); refine goesL_ (some 23) rfl rfl Try.func62 (by kernel_rfl) rfl #[.int .u64 t192, .int .u64 t193] rfl (by (try simp only [List.map_toArray, List.map_cons, List.map_nil]); first | done | rfl | (simp only [List.length_drop, List.length_take]; rfl)) ?_; (with_reducible refine (spindleref1_divide.calls k t192 t193 t194 t195 _ A7.out).mono ?_); rintro e w' ⟨rfl, ⟨nd, rfl⟩⟩; refine ⟨_, rfl, ?_⟩))
    go_ret
    exact ⟨by first | rfl | (simp; done) | (simp [*]; done), by repeat (first | exact Drawn0.refl _ | apply Drawn0.step)⟩

/-! ### spindleref1_size: function 71 -/
def spindleref1_size.f (k : Nat) (a0 : Int) (a1 : Int) : Option (Int) := (spindleref1_minus.f k a0 a1).bind fun t196 => (if t196 = true then ((spindleref1_Narrow.f k (IntKind.u64.wrap (-a0)) a1).bind fun t197 => (some t197)) else (some a0))
theorem spindleref1_size.mono : ∀ a0 a1 k, LeO (spindleref1_size.f k a0 a1) (spindleref1_size.f (k + 1) a0 a1) := by
  intro a0 a1 k
  unfold spindleref1_size.f
  repeat' first
      | (with_reducible exact spindleref1_Narrow.mono _ _ _)
      | (with_reducible exact spindleref1_minus.mono _ _ _)
      | (with_reducible exact LeO.refl _)
      | (with_reducible exact LeO.none _)
      | (with_reducible refine LeO.ite ?_ ?_)
      | (with_reducible refine LeO.bind ?_ (fun _ => ?_))
      | exact spindleref1_Narrow.mono _ _ _
      | exact spindleref1_minus.mono _ _ _
      | exact LeO.none _
      | refine LeO.ite ?_ ?_
      | refine LeO.bind ?_ (fun _ => ?_)
set_option maxHeartbeats 8000000 in
set_option maxRecDepth 100000 in
theorem spindleref1_size.calls (k : Nat) (a0 : Int) (a1 : Int) (r : Int) (w : World) (h : spindleref1_size.f k a0 a1 = some r) :
    Calls Try.prog 71 #[.int .u64 a0, .int .i64 a1] w fun e w' => e = .returned (.int .u64 r) ∧ Drawn0 w w' := by
  have H : ((spindleref1_minus.f k a0 a1).bind fun t196 => (if t196 = true then ((spindleref1_Narrow.f k (IntKind.u64.wrap (-a0)) a1).bind fun t197 => (some t197)) else (some a0))) = some r := h
  clear h
  replace H := Option.bind_eq_some_iff.mp H
  obtain ⟨t196, A30, H⟩ := H
  replace H : (if t196 = true then ((spindleref1_Narrow.f k (IntKind.u64.wrap (-a0)) a1).bind fun t197 => (some t197)) else (some a0)) = some r := H
  have A3 := Aside0.mk A30
  clear A30
  by_cases c4 : t196 = true
  · subst c4
    have H1 : ((spindleref1_Narrow.f k (IntKind.u64.wrap (-a0)) a1).bind fun t197 => (some t197)) = some r := by rw [if_pos rfl] at H; exact H
    clear H
    have H := H1
    clear H1
    replace H := Option.bind_eq_some_iff.mp H
    obtain ⟨t197, A50, H⟩ := H
    replace H : (some t197) = some r := H
    have A5 := Aside0.mk A50
    clear A50
    obtain rfl := Option.some.inj H
    go_enter Try.func71, Try.ntmps71
    go_wp2_with (first | ((with_reducible refine gate_callee (f := 52) rfl ?_); refine goesL_ (some 7) rfl rfl Try.func52 (by kernel_rfl) rfl #[.int .u64 a0, .int .i64 a1] rfl (by (try simp only [List.map_toArray, List.map_cons, List.map_nil]); first | done | rfl | (simp only [List.length_drop, List.length_take]; rfl)) ?_; (with_reducible refine (spindleref1_minus.calls k a0 a1 true _ A3.out).mono ?_); rintro e w' ⟨rfl, ⟨nd, rfl⟩⟩; refine ⟨_, rfl, ?_⟩) | ((with_reducible refine gate_callee (f := 22) rfl ?_); refine goesL_ (some 11) rfl rfl Try.func22 (by kernel_rfl) rfl #[.int .u64 (IntKind.u64.wrap (-a0)), .int .i64 a1] rfl (by (try simp only [List.map_toArray, List.map_cons, List.map_nil]); first | done | rfl | (simp only [List.length_drop, List.length_take]; rfl)) ?_; (with_reducible refine (spindleref1_Narrow.calls k (IntKind.u64.wrap (-a0)) a1 t197 _ A5.out).mono ?_); rintro e w' ⟨rfl, ⟨nd, rfl⟩⟩; refine ⟨_, rfl, ?_⟩))
    go_ret
    exact ⟨by first | rfl | (simp; done) | (simp [*]; done), by repeat (first | exact Drawn0.refl _ | apply Drawn0.step)⟩
  · replace c4 := Bool.eq_false_iff.mpr c4
    subst c4
    have H1 : (some a0) = some r := by rw [if_neg (show ¬ (false = true) by decide)] at H; exact H
    clear H
    have H := H1
    clear H1
    obtain rfl := Option.some.inj H
    go_enter Try.func71, Try.ntmps71
    go_wp2_with (first | ((with_reducible refine gate_callee (f := 52) rfl ?_); refine goesL_ (some 7) rfl rfl Try.func52 (by kernel_rfl) rfl #[.int .u64 a0, .int .i64 a1] rfl (by (try simp only [List.map_toArray, List.map_cons, List.map_nil]); first | done | rfl | (simp only [List.length_drop, List.length_take]; rfl)) ?_; (with_reducible refine (spindleref1_minus.calls k a0 a1 false _ A3.out).mono ?_); rintro e w' ⟨rfl, ⟨nd, rfl⟩⟩; refine ⟨_, rfl, ?_⟩))
    go_ret
    exact ⟨by first | rfl | (simp; done) | (simp [*]; done), by repeat (first | exact Drawn0.refl _ | apply Drawn0.step)⟩

/-! ### spindleref1_SDiv: function 36 -/
def spindleref1_SDiv.f (k : Nat) (a0 : Int) (a1 : Int) (a2 : Int) : Option (Int) := (spindleref1_Wide.f a2).bind fun t198 => ((spindleref1_Narrow.f k a0 t198).bind fun t199 => ((spindleref1_Narrow.f k a1 t198).bind fun t200 => (if t200 = 0 then (some 0) else ((spindleref1_size.f k t199 t198).bind fun t201 => ((spindleref1_size.f k t200 t198).bind fun t202 => ((spindleref1_divide.f k t201 t202).bind fun bt203 => ((spindleref1_minus.f k t199 t198).bind fun t205 => ((spindleref1_minus.f k t200 t198).bind fun t206 => (if (t205 != t206) = true then ((spindleref1_Narrow.f k (IntKind.u64.wrap (-bt203.1)) t198).bind fun t207 => (some t207)) else ((spindleref1_Narrow.f k bt203.1 t198).bind fun t208 => (some t208)))))))))))
theorem spindleref1_SDiv.mono : ∀ a0 a1 a2 k, LeO (spindleref1_SDiv.f k a0 a1 a2) (spindleref1_SDiv.f (k + 1) a0 a1 a2) := by
  intro a0 a1 a2 k
  unfold spindleref1_SDiv.f
  repeat' first
      | (with_reducible exact spindleref1_Narrow.mono _ _ _)
      | (with_reducible exact spindleref1_divide.mono _ _ _)
      | (with_reducible exact spindleref1_minus.mono _ _ _)
      | (with_reducible exact spindleref1_size.mono _ _ _)
      | (with_reducible exact LeO.refl _)
      | (with_reducible exact LeO.none _)
      | (with_reducible refine LeO.ite ?_ ?_)
      | (with_reducible refine LeO.bind ?_ (fun _ => ?_))
      | exact spindleref1_Narrow.mono _ _ _
      | exact spindleref1_divide.mono _ _ _
      | exact spindleref1_minus.mono _ _ _
      | exact spindleref1_size.mono _ _ _
      | exact LeO.none _
      | refine LeO.ite ?_ ?_
      | refine LeO.bind ?_ (fun _ => ?_)
set_option maxHeartbeats 8000000 in
set_option maxRecDepth 100000 in
theorem spindleref1_SDiv.calls (k : Nat) (a0 : Int) (a1 : Int) (a2 : Int) (r : Int) (w : World) (h : spindleref1_SDiv.f k a0 a1 a2 = some r) :
    Calls Try.prog 36 #[.int .u64 a0, .int .u64 a1, .int .i64 a2] w fun e w' => e = .returned (.int .u64 r) ∧ Drawn0 w w' := by
  have H : ((spindleref1_Wide.f a2).bind fun t198 => ((spindleref1_Narrow.f k a0 t198).bind fun t199 => ((spindleref1_Narrow.f k a1 t198).bind fun t200 => (if t200 = 0 then (some 0) else ((spindleref1_size.f k t199 t198).bind fun t201 => ((spindleref1_size.f k t200 t198).bind fun t202 => ((spindleref1_divide.f k t201 t202).bind fun bt203 => ((spindleref1_minus.f k t199 t198).bind fun t205 => ((spindleref1_minus.f k t200 t198).bind fun t206 => (if (t205 != t206) = true then ((spindleref1_Narrow.f k (IntKind.u64.wrap (-bt203.1)) t198).bind fun t207 => (some t207)) else ((spindleref1_Narrow.f k bt203.1 t198).bind fun t208 => (some t208)))))))))))) = some r := h
  clear h
  replace H := Option.bind_eq_some_iff.mp H
  obtain ⟨t198, A40, H⟩ := H
  replace H : ((spindleref1_Narrow.f k a0 t198).bind fun t199 => ((spindleref1_Narrow.f k a1 t198).bind fun t200 => (if t200 = 0 then (some 0) else ((spindleref1_size.f k t199 t198).bind fun t201 => ((spindleref1_size.f k t200 t198).bind fun t202 => ((spindleref1_divide.f k t201 t202).bind fun bt203 => ((spindleref1_minus.f k t199 t198).bind fun t205 => ((spindleref1_minus.f k t200 t198).bind fun t206 => (if (t205 != t206) = true then ((spindleref1_Narrow.f k (IntKind.u64.wrap (-bt203.1)) t198).bind fun t207 => (some t207)) else ((spindleref1_Narrow.f k bt203.1 t198).bind fun t208 => (some t208))))))))))) = some r := H
  have A4 := Aside0.mk A40
  clear A40
  replace H := Option.bind_eq_some_iff.mp H
  obtain ⟨t199, A50, H⟩ := H
  replace H : ((spindleref1_Narrow.f k a1 t198).bind fun t200 => (if t200 = 0 then (some 0) else ((spindleref1_size.f k t199 t198).bind fun t201 => ((spindleref1_size.f k t200 t198).bind fun t202 => ((spindleref1_divide.f k t201 t202).bind fun bt203 => ((spindleref1_minus.f k t199 t198).bind fun t205 => ((spindleref1_minus.f k t200 t198).bind fun t206 => (if (t205 != t206) = true then ((spindleref1_Narrow.f k (IntKind.u64.wrap (-bt203.1)) t198).bind fun t207 => (some t207)) else ((spindleref1_Narrow.f k bt203.1 t198).bind fun t208 => (some t208)))))))))) = some r := H
  have A5 := Aside0.mk A50
  clear A50
  replace H := Option.bind_eq_some_iff.mp H
  obtain ⟨t200, A60, H⟩ := H
  replace H : (if t200 = 0 then (some 0) else ((spindleref1_size.f k t199 t198).bind fun t201 => ((spindleref1_size.f k t200 t198).bind fun t202 => ((spindleref1_divide.f k t201 t202).bind fun bt203 => ((spindleref1_minus.f k t199 t198).bind fun t205 => ((spindleref1_minus.f k t200 t198).bind fun t206 => (if (t205 != t206) = true then ((spindleref1_Narrow.f k (IntKind.u64.wrap (-bt203.1)) t198).bind fun t207 => (some t207)) else ((spindleref1_Narrow.f k bt203.1 t198).bind fun t208 => (some t208))))))))) = some r := H
  have A6 := Aside0.mk A60
  clear A60
  by_cases c7 : t200 = 0
  · rw [if_pos c7] at H
    have c7b0 : (t200 == 0) = true := beq_iff_eq.mpr c7
    have c7b1 : (t200 != 0) = false := bne_eq_false_iff_eq.mpr c7
    clear c7
    obtain rfl := Option.some.inj H
    go_enter Try.func36, Try.ntmps36
    go_wp2_with (first | ((with_reducible refine gate_callee (f := 45) rfl ?_); refine goesL_ (some 13) rfl rfl Try.func45 (by kernel_rfl) rfl #[.int .i64 a2] rfl (by (try simp only [List.map_toArray, List.map_cons, List.map_nil]); first | done | rfl | (simp only [List.length_drop, List.length_take]; rfl)) ?_; (with_reducible refine (spindleref1_Wide.calls a2 t198 _ A4.out).mono ?_); rintro e w' ⟨rfl, ⟨nd, rfl⟩⟩; refine ⟨_, rfl, ?_⟩) | ((with_reducible refine gate_callee (f := 22) rfl ?_); refine goesL_ (some 16) rfl rfl Try.func22 (by kernel_rfl) rfl #[.int .u64 a0, .int .i64 t198] rfl (by (try simp only [List.map_toArray, List.map_cons, List.map_nil]); first | done | rfl | (simp only [List.length_drop, List.length_take]; rfl)) ?_; (with_reducible refine (spindleref1_Narrow.calls k a0 t198 t199 _ A5.out).mono ?_); rintro e w' ⟨rfl, ⟨nd, rfl⟩⟩; refine ⟨_, rfl, ?_⟩) | ((with_reducible refine gate_callee (f := 22) rfl ?_); refine goesL_ (some 19) rfl rfl Try.func22 (by kernel_rfl) rfl #[.int .u64 a1, .int .i64 t198] rfl (by (try simp only [List.map_toArray, List.map_cons, List.map_nil]); first | done | rfl | (simp only [List.length_drop, List.length_take]; rfl)) ?_; (with_reducible refine (spindleref1_Narrow.calls k a1 t198 t200 _ A6.out).mono ?_); rintro e w' ⟨rfl, ⟨nd, rfl⟩⟩; refine ⟨_, rfl, ?_⟩))
    go_ret
    exact ⟨by first | rfl | (simp; done) | (simp [*]; done), by repeat (first | exact Drawn0.refl _ | apply Drawn0.step)⟩
  · rw [if_neg c7] at H
    have c7b0 : (t200 == 0) = false := beq_eq_false_iff_ne.mpr c7
    have c7b1 : (t200 != 0) = true := bne_iff_ne.mpr c7
    replace H := Option.bind_eq_some_iff.mp H
    obtain ⟨t201, A80, H⟩ := H
    replace H : ((spindleref1_size.f k t200 t198).bind fun t202 => ((spindleref1_divide.f k t201 t202).bind fun bt203 => ((spindleref1_minus.f k t199 t198).bind fun t205 => ((spindleref1_minus.f k t200 t198).bind fun t206 => (if (t205 != t206) = true then ((spindleref1_Narrow.f k (IntKind.u64.wrap (-bt203.1)) t198).bind fun t207 => (some t207)) else ((spindleref1_Narrow.f k bt203.1 t198).bind fun t208 => (some t208))))))) = some r := H
    have A8 := Aside0.mk A80
    clear A80
    replace H := Option.bind_eq_some_iff.mp H
    obtain ⟨t202, A90, H⟩ := H
    replace H : ((spindleref1_divide.f k t201 t202).bind fun bt203 => ((spindleref1_minus.f k t199 t198).bind fun t205 => ((spindleref1_minus.f k t200 t198).bind fun t206 => (if (t205 != t206) = true then ((spindleref1_Narrow.f k (IntKind.u64.wrap (-bt203.1)) t198).bind fun t207 => (some t207)) else ((spindleref1_Narrow.f k bt203.1 t198).bind fun t208 => (some t208)))))) = some r := H
    have A9 := Aside0.mk A90
    clear A90
    replace H := Option.bind_eq_some_iff.mp H
    obtain ⟨⟨t203, t204⟩, A100, H⟩ := H
    replace H : ((spindleref1_minus.f k t199 t198).bind fun t205 => ((spindleref1_minus.f k t200 t198).bind fun t206 => (if (t205 != t206) = true then ((spindleref1_Narrow.f k (IntKind.u64.wrap (-t203)) t198).bind fun t207 => (some t207)) else ((spindleref1_Narrow.f k t203 t198).bind fun t208 => (some t208))))) = some r := H
    have A10 := Aside0.mk A100
    clear A100
    replace H := Option.bind_eq_some_iff.mp H
    obtain ⟨t205, A110, H⟩ := H
    replace H : ((spindleref1_minus.f k t200 t198).bind fun t206 => (if (t205 != t206) = true then ((spindleref1_Narrow.f k (IntKind.u64.wrap (-t203)) t198).bind fun t207 => (some t207)) else ((spindleref1_Narrow.f k t203 t198).bind fun t208 => (some t208)))) = some r := H
    have A11 := Aside0.mk A110
    clear A110
    replace H := Option.bind_eq_some_iff.mp H
    obtain ⟨t206, A120, H⟩ := H
    replace H : (if (t205 != t206) = true then ((spindleref1_Narrow.f k (IntKind.u64.wrap (-t203)) t198).bind fun t207 => (some t207)) else ((spindleref1_Narrow.f k t203 t198).bind fun t208 => (some t208))) = some r := H
    have A12 := Aside0.mk A120
    clear A120
    by_cases c13 : (t205 != t206) = true
    · rw [if_pos c13] at H
      have c13b0 : (t205 != t206) = true := c13
      (try (have c13b1 : decide (t205 = t206) = false := by simpa using c13))
      (try (have c13b2 : (t205 == t206) = false := by simpa using c13))
      (try (have c13b3 : ¬ (t205 = t206) := by simpa using c13))
      clear c13
      replace H := Option.bind_eq_some_iff.mp H
      obtain ⟨t207, A140, H⟩ := H
      replace H : (some t207) = some r := H
      have A14 := Aside0.mk A140
      clear A140
      obtain rfl := Option.some.inj H
      go_enter Try.func36, Try.ntmps36
      go_wp2_with (first | ((with_reducible refine gate_callee (f := 45) rfl ?_); refine goesL_ (some 13) rfl rfl Try.func45 (by kernel_rfl) rfl #[.int .i64 a2] rfl (by (try simp only [List.map_toArray, List.map_cons, List.map_nil]); first | done | rfl | (simp only [List.length_drop, List.length_take]; rfl)) ?_; (with_reducible refine (spindleref1_Wide.calls a2 t198 _ A4.out).mono ?_); rintro e w' ⟨rfl, ⟨nd, rfl⟩⟩; refine ⟨_, rfl, ?_⟩) | ((with_reducible refine gate_callee (f := 22) rfl ?_); refine goesL_ (some 16) rfl rfl Try.func22 (by kernel_rfl) rfl #[.int .u64 a0, .int .i64 t198] rfl (by (try simp only [List.map_toArray, List.map_cons, List.map_nil]); first | done | rfl | (simp only [List.length_drop, List.length_take]; rfl)) ?_; (with_reducible refine (spindleref1_Narrow.calls k a0 t198 t199 _ A5.out).mono ?_); rintro e w' ⟨rfl, ⟨nd, rfl⟩⟩; refine ⟨_, rfl, ?_⟩) | ((with_reducible refine gate_callee (f := 22) rfl ?_); refine goesL_ (some 19) rfl rfl Try.func22 (by kernel_rfl) rfl #[.int .u64 a1, .int .i64 t198] rfl (by (try simp only [List.map_toArray, List.map_cons, List.map_nil]); first | done | rfl | (simp only [List.length_drop, List.length_take]; rfl)) ?_; (with_reducible refine (spindleref1_Narrow.calls k a1 t198 t200 _ A6.out).mono ?_); rintro e w' ⟨rfl, ⟨nd, rfl⟩⟩; refine ⟨_, rfl, ?_⟩) | ((with_reducible refine gate_callee (f := 71) rfl ?_); refine goesL_ (some 25) rfl rfl Try.func71 (by kernel_rfl) rfl #[.int .u64 t199, .int .i64 t198] rfl (by (try simp only [List.map_toArray, List.map_cons, List.map_nil]); first | done | rfl | (simp only [List.length_drop, List.length_take]; rfl)) ?_; (with_reducible refine (spindleref1_size.calls k t199 t198 t201 _ A8.out).mono ?_); rintro e w' ⟨rfl, ⟨nd, rfl⟩⟩; refine ⟨_, rfl, ?_⟩) | ((with_reducible refine gate_callee (f := 71) rfl ?_); refine goesL_ (some 28) rfl rfl Try.func71 (by kernel_rfl) rfl #[.int .u64 t200, .int .i64 t198] rfl (by (try simp only [List.map_toArray, List.map_cons, List.map_nil]); first | done | rfl | (simp only [List.length_drop, List.length_take]; rfl)) ?_; (with_reducible refine (spindleref1_size.calls k t200 t198 t202 _ A9.out).mono ?_); rintro e w' ⟨rfl, ⟨nd, rfl⟩⟩; refine ⟨_, rfl, ?_⟩) | ((with_reducible refine gate_callee (f := 62) rfl ?_); refine goesL_ (some 29) rfl rfl Try.func62 (by kernel_rfl) rfl #[.int .u64 t201, .int .u64 t202] rfl (by (try simp only [List.map_toArray, List.map_cons, List.map_nil]); first | done | rfl | (simp only [List.length_drop, List.length_take]; rfl)) ?_; (with_reducible refine (spindleref1_divide.calls k t201 t202 t203 t204 _ A10.out).mono ?_); rintro e w' ⟨rfl, ⟨nd, rfl⟩⟩; refine ⟨_, rfl, ?_⟩) | ((with_reducible refine gate_callee (f := 52) rfl ?_); refine goesL_ (some 34) rfl rfl Try.func52 (by kernel_rfl) rfl #[.int .u64 t199, .int .i64 t198] rfl (by (try simp only [List.map_toArray, List.map_cons, List.map_nil]); first | done | rfl | (simp only [List.length_drop, List.length_take]; rfl)) ?_; (with_reducible refine (spindleref1_minus.calls k t199 t198 t205 _ A11.out).mono ?_); rintro e w' ⟨rfl, ⟨nd, rfl⟩⟩; refine ⟨_, rfl, ?_⟩) | ((with_reducible refine gate_callee (f := 52) rfl ?_); refine goesL_ (some 37) rfl rfl Try.func52 (by kernel_rfl) rfl #[.int .u64 t200, .int .i64 t198] rfl (by (try simp only [List.map_toArray, List.map_cons, List.map_nil]); first | done | rfl | (simp only [List.length_drop, List.length_take]; rfl)) ?_; (with_reducible refine (spindleref1_minus.calls k t200 t198 t206 _ A12.out).mono ?_); rintro e w' ⟨rfl, ⟨nd, rfl⟩⟩; refine ⟨_, rfl, ?_⟩) | ((with_reducible refine gate_callee (f := 22) rfl ?_); refine goesL_ (some 43) rfl rfl Try.func22 (by kernel_rfl) rfl #[.int .u64 (IntKind.u64.wrap (-t203)), .int .i64 t198] rfl (by (try simp only [List.map_toArray, List.map_cons, List.map_nil]); first | done | rfl | (simp only [List.length_drop, List.length_take]; rfl)) ?_; (with_reducible refine (spindleref1_Narrow.calls k (IntKind.u64.wrap (-t203)) t198 t207 _ A14.out).mono ?_); rintro e w' ⟨rfl, ⟨nd, rfl⟩⟩; refine ⟨_, rfl, ?_⟩))
      go_ret
      exact ⟨by first | rfl | (simp; done) | (simp [*]; done), by repeat (first | exact Drawn0.refl _ | apply Drawn0.step)⟩
    · rw [if_neg c13] at H
      have c13b0 : (t205 != t206) = false := by simpa using c13
      (try (have c13b1 : decide (t205 = t206) = true := by simpa using c13))
      (try (have c13b2 : (t205 == t206) = true := by simpa using c13))
      clear c13
      replace H := Option.bind_eq_some_iff.mp H
      obtain ⟨t208, A150, H⟩ := H
      replace H : (some t208) = some r := H
      have A15 := Aside0.mk A150
      clear A150
      obtain rfl := Option.some.inj H
      go_enter Try.func36, Try.ntmps36
      go_wp2_with (first | ((with_reducible refine gate_callee (f := 45) rfl ?_); refine goesL_ (some 13) rfl rfl Try.func45 (by kernel_rfl) rfl #[.int .i64 a2] rfl (by (try simp only [List.map_toArray, List.map_cons, List.map_nil]); first | done | rfl | (simp only [List.length_drop, List.length_take]; rfl)) ?_; (with_reducible refine (spindleref1_Wide.calls a2 t198 _ A4.out).mono ?_); rintro e w' ⟨rfl, ⟨nd, rfl⟩⟩; refine ⟨_, rfl, ?_⟩) | ((with_reducible refine gate_callee (f := 22) rfl ?_); refine goesL_ (some 16) rfl rfl Try.func22 (by kernel_rfl) rfl #[.int .u64 a0, .int .i64 t198] rfl (by (try simp only [List.map_toArray, List.map_cons, List.map_nil]); first | done | rfl | (simp only [List.length_drop, List.length_take]; rfl)) ?_; (with_reducible refine (spindleref1_Narrow.calls k a0 t198 t199 _ A5.out).mono ?_); rintro e w' ⟨rfl, ⟨nd, rfl⟩⟩; refine ⟨_, rfl, ?_⟩) | ((with_reducible refine gate_callee (f := 22) rfl ?_); refine goesL_ (some 19) rfl rfl Try.func22 (by kernel_rfl) rfl #[.int .u64 a1, .int .i64 t198] rfl (by (try simp only [List.map_toArray, List.map_cons, List.map_nil]); first | done | rfl | (simp only [List.length_drop, List.length_take]; rfl)) ?_; (with_reducible refine (spindleref1_Narrow.calls k a1 t198 t200 _ A6.out).mono ?_); rintro e w' ⟨rfl, ⟨nd, rfl⟩⟩; refine ⟨_, rfl, ?_⟩) | ((with_reducible refine gate_callee (f := 71) rfl ?_); refine goesL_ (some 25) rfl rfl Try.func71 (by kernel_rfl) rfl #[.int .u64 t199, .int .i64 t198] rfl (by (try simp only [List.map_toArray, List.map_cons, List.map_nil]); first | done | rfl | (simp only [List.length_drop, List.length_take]; rfl)) ?_; (with_reducible refine (spindleref1_size.calls k t199 t198 t201 _ A8.out).mono ?_); rintro e w' ⟨rfl, ⟨nd, rfl⟩⟩; refine ⟨_, rfl, ?_⟩) | ((with_reducible refine gate_callee (f := 71) rfl ?_); refine goesL_ (some 28) rfl rfl Try.func71 (by kernel_rfl) rfl #[.int .u64 t200, .int .i64 t198] rfl (by (try simp only [List.map_toArray, List.map_cons, List.map_nil]); first | done | rfl | (simp only [List.length_drop, List.length_take]; rfl)) ?_; (with_reducible refine (spindleref1_size.calls k t200 t198 t202 _ A9.out).mono ?_); rintro e w' ⟨rfl, ⟨nd, rfl⟩⟩; refine ⟨_, rfl, ?_⟩) | ((with_reducible refine gate_callee (f := 62) rfl ?_); refine goesL_ (some 29) rfl rfl Try.func62 (by kernel_rfl) rfl #[.int .u64 t201, .int .u64 t202] rfl (by (try simp only [List.map_toArray, List.map_cons, List.map_nil]); first | done | rfl | (simp only [List.length_drop, List.length_take]; rfl)) ?_; (with_reducible refine (spindleref1_divide.calls k t201 t202 t203 t204 _ A10.out).mono ?_); rintro e w' ⟨rfl, ⟨nd, rfl⟩⟩; refine ⟨_, rfl, ?_⟩) | ((with_reducible refine gate_callee (f := 52) rfl ?_); refine goesL_ (some 34) rfl rfl Try.func52 (by kernel_rfl) rfl #[.int .u64 t199, .int .i64 t198] rfl (by (try simp only [List.map_toArray, List.map_cons, List.map_nil]); first | done | rfl | (simp only [List.length_drop, List.length_take]; rfl)) ?_; (with_reducible refine (spindleref1_minus.calls k t199 t198 t205 _ A11.out).mono ?_); rintro e w' ⟨rfl, ⟨nd, rfl⟩⟩; refine ⟨_, rfl, ?_⟩) | ((with_reducible refine gate_callee (f := 52) rfl ?_); refine goesL_ (some 37) rfl rfl Try.func52 (by kernel_rfl) rfl #[.int .u64 t200, .int .i64 t198] rfl (by (try simp only [List.map_toArray, List.map_cons, List.map_nil]); first | done | rfl | (simp only [List.length_drop, List.length_take]; rfl)) ?_; (with_reducible refine (spindleref1_minus.calls k t200 t198 t206 _ A12.out).mono ?_); rintro e w' ⟨rfl, ⟨nd, rfl⟩⟩; refine ⟨_, rfl, ?_⟩) | ((with_reducible refine gate_callee (f := 22) rfl ?_); refine goesL_ (some 43) rfl rfl Try.func22 (by kernel_rfl) rfl #[.int .u64 t203, .int .i64 t198] rfl (by (try simp only [List.map_toArray, List.map_cons, List.map_nil]); first | done | rfl | (simp only [List.length_drop, List.length_take]; rfl)) ?_; (with_reducible refine (spindleref1_Narrow.calls k t203 t198 t208 _ A15.out).mono ?_); rintro e w' ⟨rfl, ⟨nd, rfl⟩⟩; refine ⟨_, rfl, ?_⟩))
      go_ret
      exact ⟨by first | rfl | (simp; done) | (simp [*]; done), by repeat (first | exact Drawn0.refl _ | apply Drawn0.step)⟩

end Go.Proofs.Ytliijfogmendmaa.PW
