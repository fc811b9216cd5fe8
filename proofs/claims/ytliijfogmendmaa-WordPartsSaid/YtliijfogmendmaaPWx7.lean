-- Printed by this session's own program (wip/tools/myprint.py) over the kit's print; the parts that are marked 'by hand' are this session's.
import Derived.Test.YtliijfogmendmaaPWx0
import Derived.Test.YtliijfogmendmaaPWx2
import Derived.Test.YtliijfogmendmaaPWx3
import Derived.Test.YtliijfogmendmaaPWx4
import Derived.Test.YtliijfogmendmaaPWx5
import Derived.Test.YtliijfogmendmaaPWx6
namespace Go.Proofs.Ytliijfogmendmaa.PW
open Go.RowKit Go.Proofs.YtliijfogmendmaaW.PrintWords Go.Proofs.YtliijfogmendmaaW.PrintLast Go.Proofs.YtliijfogmendmaaW.PrintMore
attribute [local go_sem] max2_int min2_int max_two min_two max_three min_three max_four min_four   -- for this text's walks alone
set_option linter.unusedVariables false
set_option linter.unusedSimpArgs false

/-! ### spindleref1_SMod: function 38 -/
def spindleref1_SMod.f (k : Nat) (a0 : Int) (a1 : Int) (a2 : Int) : Option (Int) := (spindleref1_Wide.f a2).bind fun t209 => ((spindleref1_Narrow.f k a0 t209).bind fun t210 => ((spindleref1_Narrow.f k a1 t209).bind fun t211 => (if t211 = 0 then (some t210) else ((spindleref1_size.f k t210 t209).bind fun t212 => ((spindleref1_size.f k t211 t209).bind fun t213 => ((spindleref1_divide.f k t212 t213).bind fun bt214 => ((spindleref1_minus.f k t210 t209).bind fun t216 => (if t216 = true then ((spindleref1_Narrow.f k (IntKind.u64.wrap (-bt214.2)) t209).bind fun t217 => (some t217)) else ((spindleref1_Narrow.f k bt214.2 t209).bind fun t218 => (some t218))))))))))
theorem spindleref1_SMod.mono : ∀ a0 a1 a2 k, LeO (spindleref1_SMod.f k a0 a1 a2) (spindleref1_SMod.f (k + 1) a0 a1 a2) := by
  intro a0 a1 a2 k
  unfold spindleref1_SMod.f
  repeat' first
      | (with_reducible exact spindleref1_Narrow.mono _ _ _)
      | (with_reducible exact spindleref1_divide.mono _ _ _)
      | (with_reducible exact spindleref1_minus.mono _ _ _)
      | (with_reducible exact spindleref1_size.mono _ _ _)
      | (with_reducible exact LeO.refl _)
      | (with_reducible exact LeO.none _)
      | (with_reducible refine LeO.ite ?_ ?_)
      | (with_reducible refine LeO.bind ?_ (fun _ => ?_))
      | exact spindleref1_Narrow.mono _ _ _
      | exact spindleref1_divide.mono _ _ _
      | exact spindleref1_minus.mono _ _ _
      | exact spindleref1_size.mono _ _ _
      | exact LeO.none _
      | refine LeO.ite ?_ ?_
      | refine LeO.bind ?_ (fun _ => ?_)
set_option maxHeartbeats 8000000 in
set_option maxRecDepth 100000 in
theorem spindleref1_SMod.calls (k : Nat) (a0 : Int) (a1 : Int) (a2 : Int) (r : Int) (w : World) (h : spindleref1_SMod.f k a0 a1 a2 = some r) :
    Calls Try.prog 38 #[.int .u64 a0, .int .u64 a1, .int .i64 a2] w fun e w' => e = .returned (.int .u64 r) ∧ Drawn0 w w' := by
  have H : ((spindleref1_Wide.f a2).bind fun t209 => ((spindleref1_Narrow.f k a0 t209).bind fun t210 => ((spindleref1_Narrow.f k a1 t209).bind fun t211 => (if t211 = 0 then (some t210) else ((spindleref1_size.f k t210 t209).bind fun t212 => ((spindleref1_size.f k t211 t209).bind fun t213 => ((spindleref1_divide.f k t212 t213).bind fun bt214 => ((spindleref1_minus.f k t210 t209).bind fun t216 => (if t216 = true then ((spindleref1_Narrow.f k (IntKind.u64.wrap (-bt214.2)) t209).bind fun t217 => (some t217)) else ((spindleref1_Narrow.f k bt214.2 t209).bind fun t218 => (some t218))))))))))) = some r := h
  clear h
  replace H := Option.bind_eq_some_iff.mp H
  obtain ⟨t209, A40, H⟩ := H
  replace H : ((spindleref1_Narrow.f k a0 t209).bind fun t210 => ((spindleref1_Narrow.f k a1 t209).bind fun t211 => (if t211 = 0 then (some t210) else ((spindleref1_size.f k t210 t209).bind fun t212 => ((spindleref1_size.f k t211 t209).bind fun t213 => ((spindleref1_divide.f k t212 t213).bind fun bt214 => ((spindleref1_minus.f k t210 t209).bind fun t216 => (if t216 = true then ((spindleref1_Narrow.f k (IntKind.u64.wrap (-bt214.2)) t209).bind fun t217 => (some t217)) else ((spindleref1_Narrow.f k bt214.2 t209).bind fun t218 => (some t218)))))))))) = some r := H
  have A4 := Aside0.mk A40
  clear A40
  replace H := Option.bind_eq_some_iff.mp H
  obtain ⟨t210, A50, H⟩ := H
  replace H : ((spindleref1_Narrow.f k a1 t209).bind fun t211 => (if t211 = 0 then (some t210) else ((spindleref1_size.f k t210 t209).bind fun t212 => ((spindleref1_size.f k t211 t209).bind fun t213 => ((spindleref1_divide.f k t212 t213).bind fun bt214 => ((spindleref1_minus.f k t210 t209).bind fun t216 => (if t216 = true then ((spindleref1_Narrow.f k (IntKind.u64.wrap (-bt214.2)) t209).bind fun t217 => (some t217)) else ((spindleref1_Narrow.f k bt214.2 t209).bind fun t218 => (some t218))))))))) = some r := H
  have A5 := Aside0.mk A50
  clear A50
  replace H := Option.bind_eq_some_iff.mp H
  obtain ⟨t211, A60, H⟩ := H
  replace H : (if t211 = 0 then (some t210) else ((spindleref1_size.f k t210 t209).bind fun t212 => ((spindleref1_size.f k t211 t209).bind fun t213 => ((spindleref1_divide.f k t212 t213).bind fun bt214 => ((spindleref1_minus.f k t210 t209).bind fun t216 => (if t216 = true then ((spindleref1_Narrow.f k (IntKind.u64.wrap (-bt214.2)) t209).bind fun t217 => (some t217)) else ((spindleref1_Narrow.f k bt214.2 t209).bind fun t218 => (some t218)))))))) = some r := H
  have A6 := Aside0.mk A60
  clear A60
  by_cases c7 : t211 = 0
  · rw [if_pos c7] at H
    have c7b0 : (t211 == 0) = true := beq_iff_eq.mpr c7
    have c7b1 : (t211 != 0) = false := bne_eq_false_iff_eq.mpr c7
    clear c7
    obtain rfl := Option.some.inj H
    go_enter Try.func38, Try.ntmps38
    go_wp2_with (first | ((with_reducible refine gate_callee (f := 45) rfl ?_); refine goesL_ (some 13) rfl rfl Try.func45 (by kernel_rfl) rfl #[.int .i64 a2] rfl (by (try simp only [List.map_toArray, List.map_cons, List.map_nil]); first | done | rfl | (simp only [List.length_drop, List.length_take]; rfl)) ?_; (with_reducible refine (spindleref1_Wide.calls a2 t209 _ A4.out).mono ?_); rintro e w' ⟨rfl, ⟨nd, rfl⟩⟩; refine ⟨_, rfl, ?_⟩) | ((with_reducible refine gate_callee (f := 22) rfl ?_); refine goesL_ (some 16) rfl rfl Try.func22 (by kernel_rfl) rfl #[.int .u64 a0, .int .i64 t209] rfl (by (try simp only [List.map_toArray, List.map_cons, List.map_nil]); first | done | rfl | (simp only [List.length_drop, List.length_take]; rfl)) ?_; (with_reducible refine (spindleref1_Narrow.calls k a0 t209 t210 _ A5.out).mono ?_); rintro e w' ⟨rfl, ⟨nd, rfl⟩⟩; refine ⟨_, rfl, ?_⟩) | ((with_reducible refine gate_callee (f := 22) rfl ?_); refine goesL_ (some 19) rfl rfl Try.func22 (by kernel_rfl) rfl #[.int .u64 a1, .int .i64 t209] rfl (by (try simp only [List.map_toArray, List.map_cons, List.map_nil]); first | done | rfl | (simp only [List.length_drop, List.length_take]; rfl)) ?_; (with_reducible refine (spindleref1_Narrow.calls k a1 t209 t211 _ A6.out).mono ?_); rintro e w' ⟨rfl, ⟨nd, rfl⟩⟩; refine ⟨_, rfl, ?_⟩))
    go_ret
    exact ⟨by first | rfl | (simp; done) | (simp [*]; done), by repeat (first | exact Drawn0.refl _ | apply Drawn0.step)⟩
  · rw [if_neg c7] at H
    have c7b0 : (t211 == 0) = false := beq_eq_false_iff_ne.mpr c7
    have c7b1 : (t211 != 0) = true := bne_iff_ne.mpr c7
    replace H := Option.bind_eq_some_iff.mp H
    obtain ⟨t212, A80, H⟩ := H
    replace H : ((spindleref1_size.f k t211 t209).bind fun t213 => ((spindleref1_divide.f k t212 t213).bind fun bt214 => ((spindleref1_minus.f k t210 t209).bind fun t216 => (if t216 = true then ((spindleref1_Narrow.f k (IntKind.u64.wrap (-bt214.2)) t209).bind fun t217 => (some t217)) else ((spindleref1_Narrow.f k bt214.2 t209).bind fun t218 => (some t218)))))) = some r := H
    have A8 := Aside0.mk A80
    clear A80
    replace H := Option.bind_eq_some_iff.mp H
    obtain ⟨t213, A90, H⟩ := H
    replace H : ((spindleref1_divide.f k t212 t213).bind fun bt214 => ((spindleref1_minus.f k t210 t209).bind fun t216 => (if t216 = true then ((spindleref1_Narrow.f k (IntKind.u64.wrap (-bt214.2)) t209).bind fun t217 => (some t217)) else ((spindleref1_Narrow.f k bt214.2 t209).bind fun t218 => (some t218))))) = some r := H
    have A9 := Aside0.mk A90
    clear A90
    replace H := Option.bind_eq_some_iff.mp H
    obtain ⟨⟨t214, t215⟩, A100, H⟩ := H
    replace H : ((spindleref1_minus.f k t210 t209).bind fun t216 => (if t216 = true then ((spindleref1_Narrow.f k (IntKind.u64.wrap (-t215)) t209).bind fun t217 => (some t217)) else ((spindleref1_Narrow.f k t215 t209).bind fun t218 => (some t218)))) = some r := H
    have A10 := Aside0.mk A100
    clear A100
    replace H := Option.bind_eq_some_iff.mp H
    obtain ⟨t216, A110, H⟩ := H
    replace H : (if t216 = true then ((spindleref1_Narrow.f k (IntKind.u64.wrap (-t215)) t209).bind fun t217 => (some t217)) else ((spindleref1_Narrow.f k t215 t209).bind fun t218 => (some t218))) = some r := H
    have A11 := Aside0.mk A110
    clear A110
    by_cases c12 : t216 = true
    · subst c12
      have H1 : ((spindleref1_Narrow.f k (IntKind.u64.wrap (-t215)) t209).bind fun t217 => (some t217)) = some r := by rw [if_pos rfl] at H; exact H
      clear H
      have H := H1
      clear H1
      replace H := Option.bind_eq_some_iff.mp H
      obtain ⟨t217, A130, H⟩ := H
      replace H : (some t217) = some r := H
      have A13 := Aside0.mk A130
      clear A130
      obtain rfl := Option.some.inj H
      go_enter Try.func38, Try.ntmps38
      go_wp2_with (first | ((with_reducible refine gate_callee (f := 45) rfl ?_); refine goesL_ (some 13) rfl rfl Try.func45 (by kernel_rfl) rfl #[.int .i64 a2] rfl (by (try simp only [List.map_toArray, List.map_cons, List.map_nil]); first | done | rfl | (simp only [List.length_drop, List.length_take]; rfl)) ?_; (with_reducible refine (spindleref1_Wide.calls a2 t209 _ A4.out).mono ?_); rintro e w' ⟨rfl, ⟨nd, rfl⟩⟩; refine ⟨_, rfl, ?_⟩) | ((with_reducible refine gate_callee (f := 22) rfl ?_); refine goesL_ (some 16) rfl rfl Try.func22 (by kernel_rfl) rfl #[.int .u64 a0, .int .i64 t209] rfl (by (try simp only [List.map_toArray, List.map_cons, List.map_nil]); first | done | rfl | (simp only [List.length_drop, List.length_take]; rfl)) ?_; (with_reducible refine (spindleref1_Narrow.calls k a0 t209 t210 _ A5.out).mono ?_); rintro e w' ⟨rfl, ⟨nd, rfl⟩⟩; refine ⟨_, rfl, ?_⟩) | ((with_reducible refine gate_callee (f := 22) rfl ?_); refine goesL_ (some 19) rfl rfl Try.func22 (by kernel_rfl) rfl #[.int .u64 a1, .int .i64 t209] rfl (by (try simp only [List.map_toArray, List.map_cons, List.map_nil]); first | done | rfl | (simp only [List.length_drop, List.length_take]; rfl)) ?_; (with_reducible refine (spindleref1_Narrow.calls k a1 t209 t211 _ A6.out).mono ?_); rintro e w' ⟨rfl, ⟨nd, rfl⟩⟩; refine ⟨_, rfl, ?_⟩) | ((with_reducible refine gate_callee (f := 71) rfl ?_); refine goesL_ (some 26) rfl rfl Try.func71 (by kernel_rfl) rfl #[.int .u64 t210, .int .i64 t209] rfl (by (try simp only [List.map_toArray, List.map_cons, List.map_nil]); first | done | rfl | (simp only [List.length_drop, List.length_take]; rfl)) ?_; (with_reducible refine (spindleref1_size.calls k t210 t209 t212 _ A8.out).mono ?_); rintro e w' ⟨rfl, ⟨nd, rfl⟩⟩; refine ⟨_, rfl, ?_⟩) | ((with_reducible refine gate_callee (f := 71) rfl ?_); refine goesL_ (some 29) rfl rfl Try.func71 (by kernel_rfl) rfl #[.int .u64 t211, .int .i64 t209] rfl (by (try simp only [List.map_toArray, List.map_cons, List.map_nil]); first | done | rfl | (simp only [List.length_drop, List.length_take]; rfl)) ?_; (with_reducible refine (spindleref1_size.calls k t211 t209 t213 _ A9.out).mono ?_); rintro e w' ⟨rfl, ⟨nd, rfl⟩⟩; refine ⟨_, rfl, ?_⟩) | ((with_reducible refine gate_callee (f := 62) rfl ?_); refine goesL_ (some 30) rfl rfl Try.func62 (by kernel_rfl) rfl #[.int .u64 t212, .int .u64 t213] rfl (by (try simp only [List.map_toArray, List.map_cons, List.map_nil]); first | done | rfl | (simp only [List.length_drop, List.length_take]; rfl)) ?_; (with_reducible refine (spindleref1_divide.calls k t212 t213 t214 t215 _ A10.out).mono ?_); rintro e w' ⟨rfl, ⟨nd, rfl⟩⟩; refine ⟨_, rfl, ?_⟩) | ((with_reducible refine gate_callee (f := 52) rfl ?_); refine goesL_ (some 35) rfl rfl Try.func52 (by kernel_rfl) rfl #[.int .u64 t210, .int .i64 t209] rfl (by (try simp only [List.map_toArray, List.map_cons, List.map_nil]); first | done | rfl | (simp only [List.length_drop, List.length_take]; rfl)) ?_; (with_reducible refine (spindleref1_minus.calls k t210 t209 true _ A11.out).mono ?_); rintro e w' ⟨rfl, ⟨nd, rfl⟩⟩; refine ⟨_, rfl, ?_⟩) | ((with_reducible refine gate_callee (f := 22) rfl ?_); refine goesL_ (some 40) rfl rfl Try.func22 (by kernel_rfl) rfl #[.int .u64 (IntKind.u64.wrap (-t215)), .int .i64 t209] rfl (by (try simp only [List.map_toArray, List.map_cons, List.map_nil]); first | done | rfl | (simp only [List.length_drop, List.length_take]; rfl)) ?_; (with_reducible refine (spindleref1_Narrow.calls k (IntKind.u64.wrap (-t215)) t209 t217 _ A13.out).mono ?_); rintro e w' ⟨rfl, ⟨nd, rfl⟩⟩; refine ⟨_, rfl, ?_⟩))
      go_ret
      exact ⟨by first | rfl | (simp; done) | (simp [*]; done), by repeat (first | exact Drawn0.refl _ | apply Drawn0.step)⟩
    · replace c12 := Bool.eq_false_iff.mpr c12
      subst c12
      have H1 : ((spindleref1_Narrow.f k t215 t209).bind fun t218 => (some t218)) = some r := by rw [if_neg (show ¬ (false = true) by decide)] at H; exact H
      clear H
      have H := H1
      clear H1
      replace H := Option.bind_eq_some_iff.mp H
      obtain ⟨t218, A140, H⟩ := H
      replace H : (some t218) = some r := H
      have A14 := Aside0.mk A140
      clear A140
      obtain rfl := Option.some.inj H
      go_enter Try.func38, Try.ntmps38
      go_wp2_with (first | ((with_reducible refine gate_callee (f := 45) rfl ?_); refine goesL_ (some 13) rfl rfl Try.func45 (by kernel_rfl) rfl #[.int .i64 a2] rfl (by (try simp only [List.map_toArray, List.map_cons, List.map_nil]); first | done | rfl | (simp only [List.length_drop, List.length_take]; rfl)) ?_; (with_reducible refine (spindleref1_Wide.calls a2 t209 _ A4.out).mono ?_); rintro e w' ⟨rfl, ⟨nd, rfl⟩⟩; refine ⟨_, rfl, ?_⟩) | ((with_reducible refine gate_callee (f := 22) rfl ?_); refine goesL_ (some 16) rfl rfl Try.func22 (by kernel_rfl) rfl #[.int .u64 a0, .int .i64 t209] rfl (by (try simp only [List.map_toArray, List.map_cons, List.map_nil]); first | done | rfl | (simp only [List.length_drop, List.length_take]; rfl)) ?_; (with_reducible refine (spindleref1_Narrow.calls k a0 t209 t210 _ A5.out).mono ?_); rintro e w' ⟨rfl, ⟨nd, rfl⟩⟩; refine ⟨_, rfl, ?_⟩) | ((with_reducible refine gate_callee (f := 22) rfl ?_); refine goesL_ (some 19) rfl rfl Try.func22 (by kernel_rfl) rfl #[.int .u64 a1, .int .i64 t209] rfl (by (try simp only [List.map_toArray, List.map_cons, List.map_nil]); first | done | rfl | (simp only [List.length_drop, List.length_take]; rfl)) ?_; (with_reducible refine (spindleref1_Narrow.calls k a1 t209 t211 _ A6.out).mono ?_); rintro e w' ⟨rfl, ⟨nd, rfl⟩⟩; refine ⟨_, rfl, ?_⟩) | ((with_reducible refine gate_callee (f := 71) rfl ?_); refine goesL_ (some 26) rfl rfl Try.func71 (by kernel_rfl) rfl #[.int .u64 t210, .int .i64 t209] rfl (by (try simp only [List.map_toArray, List.map_cons, List.map_nil]); first | done | rfl | (simp only [List.length_drop, List.length_take]; rfl)) ?_; (with_reducible refine (spindleref1_size.calls k t210 t209 t212 _ A8.out).mono ?_); rintro e w' ⟨rfl, ⟨nd, rfl⟩⟩; refine ⟨_, rfl, ?_⟩) | ((with_reducible refine gate_callee (f := 71) rfl ?_); refine goesL_ (some 29) rfl rfl Try.func71 (by kernel_rfl) rfl #[.int .u64 t211, .int .i64 t209] rfl (by (try simp only [List.map_toArray, List.map_cons, List.map_nil]); first | done | rfl | (simp only [List.length_drop, List.length_take]; rfl)) ?_; (with_reducible refine (spindleref1_size.calls k t211 t209 t213 _ A9.out).mono ?_); rintro e w' ⟨rfl, ⟨nd, rfl⟩⟩; refine ⟨_, rfl, ?_⟩) | ((with_reducible refine gate_callee (f := 62) rfl ?_); refine goesL_ (some 30) rfl rfl Try.func62 (by kernel_rfl) rfl #[.int .u64 t212, .int .u64 t213] rfl (by (try simp only [List.map_toArray, List.map_cons, List.map_nil]); first | done | rfl | (simp only [List.length_drop, List.length_take]; rfl)) ?_; (with_reducible refine (spindleref1_divide.calls k t212 t213 t214 t215 _ A10.out).mono ?_); rintro e w' ⟨rfl, ⟨nd, rfl⟩⟩; refine ⟨_, rfl, ?_⟩) | ((with_reducible refine gate_callee (f := 52) rfl ?_); refine goesL_ (some 35) rfl rfl Try.func52 (by kernel_rfl) rfl #[.int .u64 t210, .int .i64 t209] rfl (by (try simp only [List.map_toArray, List.map_cons, List.map_nil]); first | done | rfl | (simp only [List.length_drop, List.length_take]; rfl)) ?_; (with_reducible refine (spindleref1_minus.calls k t210 t209 false _ A11.out).mono ?_); rintro e w' ⟨rfl, ⟨nd, rfl⟩⟩; refine ⟨_, rfl, ?_⟩) | ((with_reducible refine gate_callee (f := 22) rfl ?_); refine goesL_ (some 40) rfl rfl Try.func22 (by kernel_rfl) rfl #[.int .u64 t215, .int .i64 t209] rfl (by (try simp only [List.map_toArray, List.map_cons, List.map_nil]); first | done | rfl | (simp only [List.length_drop, List.length_take]; rfl)) ?_; (with_reducible refine (spindleref1_Narrow.calls k t215 t209 t218 _ A14.out).mono ?_); rintro e w' ⟨rfl, ⟨nd, rfl⟩⟩; refine ⟨_, rfl, ?_⟩))
      go_ret
      exact ⟨by first | rfl | (simp; done) | (simp [*]; done), by repeat (first | exact Drawn0.refl _ | apply Drawn0.step)⟩

/-! ### spindleref1_Shl: function 40 -/
def spindleref1_Shl.l0 : Nat → Int → Int → Int → Option (Int)
  | 0, _, _, _ => none
  | k + 1, x7, x8, x9 => if x9 > 0 then ((spindleref1_Narrow.f k (IntKind.u64.wrap (x8 + x8)) x7).bind fun t221 => (spindleref1_Shl.l0 k x7 t221 (IntKind.u64.wrap (x9 - 1)))) else (some x8)
def spindleref1_Shl.f (k : Nat) (a0 : Int) (a1 : Int) (a2 : Int) : Option (Int) := (spindleref1_Wide.f a2).bind fun t219 => ((spindleref1_Narrow.f k a0 t219).bind fun t220 => (if (IntKind.u64.wrap (t219)) = 0 then (none) else (spindleref1_Shl.l0 k t219 t220 (Int.tmod a1 (IntKind.u64.wrap (t219))))))
theorem spindleref1_Shl.mono_l : ∀ k, (∀ y0 y1 y2, LeO (spindleref1_Shl.l0 k y0 y1 y2) (spindleref1_Shl.l0 (k + 1) y0 y1 y2))
  | 0 => fun _ _ _ r h => by simp [spindleref1_Shl.l0] at h
  | k + 1 => by
    have ih0 := spindleref1_Shl.mono_l k
    · intro y0 y1 y2
      unfold spindleref1_Shl.l0
      repeat' first
      | (with_reducible exact ih0 _ _ _)
      | (with_reducible exact spindleref1_Narrow.mono _ _ _)
      | (with_reducible exact LeO.refl _)
      | (with_reducible exact LeO.none _)
      | (with_reducible refine LeO.ite ?_ ?_)
      | (with_reducible refine LeO.bind ?_ (fun _ => ?_))
      | exact ih0 _ _ _
      | exact spindleref1_Narrow.mono _ _ _
      | exact LeO.none _
      | refine LeO.ite ?_ ?_
      | refine LeO.bind ?_ (fun _ => ?_)
theorem spindleref1_Shl.mono : ∀ a0 a1 a2 k, LeO (spindleref1_Shl.f k a0 a1 a2) (spindleref1_Shl.f (k + 1) a0 a1 a2) := by
  intro a0 a1 a2 k
  have ih0 := spindleref1_Shl.mono_l k
  unfold spindleref1_Shl.f
  repeat' first
      | (with_reducible exact ih0 _ _ _)
      | (with_reducible exact spindleref1_Narrow.mono _ _ _)
      | (with_reducible exact LeO.refl _)
      | (with_reducible exact LeO.none _)
      | (with_reducible refine LeO.ite ?_ ?_)
      | (with_reducible refine LeO.bind ?_ (fun _ => ?_))
      | exact ih0 _ _ _
      | exact spindleref1_Narrow.mono _ _ _
      | exact LeO.none _
      | refine LeO.ite ?_ ?_
      | refine LeO.bind ?_ (fun _ => ?_)
set_option maxHeartbeats 8000000 in
set_option maxRecDepth 100000 in
theorem spindleref1_Shl.calls (k : Nat) (a0 : Int) (a1 : Int) (a2 : Int) (r : Int) (w : World) (h : spindleref1_Shl.f k a0 a1 a2 = some r) :
    Calls Try.prog 40 #[.int .u64 a0, .int .u64 a1, .int .i64 a2] w fun e w' => e = .returned (.int .u64 r) ∧ Drawn0 w w' := by
  have H : ((spindleref1_Wide.f a2).bind fun t219 => ((spindleref1_Narrow.f k a0 t219).bind fun t220 => (if (IntKind.u64.wrap (t219)) = 0 then (none) else (spindleref1_Shl.l0 k t219 t220 (Int.tmod a1 (IntKind.u64.wrap (t219))))))) = some r := h
  clear h
  replace H := Option.bind_eq_some_iff.mp H
  obtain ⟨t219, A40, H⟩ := H
  replace H : ((spindleref1_Narrow.f k a0 t219).bind fun t220 => (if (IntKind.u64.wrap (t219)) = 0 then (none) else (spindleref1_Shl.l0 k t219 t220 (Int.tmod a1 (IntKind.u64.wrap (t219)))))) = some r := H
  have A4 := Aside0.mk A40
  clear A40
  replace H := Option.bind_eq_some_iff.mp H
  obtain ⟨t220, A50, H⟩ := H
  replace H : (if (IntKind.u64.wrap (t219)) = 0 then (none) else (spindleref1_Shl.l0 k t219 t220 (Int.tmod a1 (IntKind.u64.wrap (t219))))) = some r := H
  have A5 := Aside0.mk A50
  clear A50
  by_cases c6 : (IntKind.u64.wrap (t219)) = 0
  · rw [if_pos c6] at H
    exact absurd H (by simp)
  · rw [if_neg c6] at H
    have c6b0 : ((IntKind.u64.wrap (t219)) == 0) = false := beq_eq_false_iff_ne.mpr c6
    have c6b1 : ((IntKind.u64.wrap (t219)) != 0) = true := bne_iff_ne.mpr c6
    have H' := Aside0.mk H
    clear H
    go_enter Try.func40, Try.ntmps40
    go_wp2_with (first | ((with_reducible refine gate_callee (f := 45) rfl ?_); refine goesL_ (some 11) rfl rfl Try.func45 (by kernel_rfl) rfl #[.int .i64 a2] rfl (by (try simp only [List.map_toArray, List.map_cons, List.map_nil]); first | done | rfl | (simp only [List.length_drop, List.length_take]; rfl)) ?_; (with_reducible refine (spindleref1_Wide.calls a2 t219 _ A4.out).mono ?_); rintro e w' ⟨rfl, ⟨nd, rfl⟩⟩; refine ⟨_, rfl, ?_⟩) | ((with_reducible refine gate_callee (f := 22) rfl ?_); refine goesL_ (some 14) rfl rfl Try.func22 (by kernel_rfl) rfl #[.int .u64 a0, .int .i64 t219] rfl (by (try simp only [List.map_toArray, List.map_cons, List.map_nil]); first | done | rfl | (simp only [List.length_drop, List.length_take]; rfl)) ?_; (with_reducible refine (spindleref1_Narrow.calls k a0 t219 t220 _ A5.out).mono ?_); rintro e w' ⟨rfl, ⟨nd, rfl⟩⟩; refine ⟨_, rfl, ?_⟩))
    go_loopg [8, 9] k (fun kq v8 v9 w' => ∃ (x8_1 : Int) (x9_1 : Int), v8 = .int .u64 x8_1 ∧ v9 = .int .u64 x9_1 ∧ Aside0 (spindleref1_Shl.l0 kq t219 x8_1 x9_1 = some r) ∧ Aside0 (kq ≤ k) ∧ Drawn0 w w')
    case atStart => exact ⟨(t220), (Int.tmod a1 (IntKind.u64.wrap (t219))), (by first | rfl | (simp; done) | (simp [*]; done)), (by first | rfl | (simp; done) | (simp [*]; done)), H', ⟨Nat.le_refl _⟩, by repeat (first | exact Drawn0.refl _ | apply Drawn0.step)⟩
    case round =>
      clear H'
      try clear c2
      try clear p2
      try clear c4
      try clear c6
      try clear c6b0
      try clear c6b1
      obtain ⟨x8_1, x9_1, rfl, rfl, HA, HK1, ⟨m1, rfl⟩⟩ := hrel
      cases gk with
      | zero => exact absurd HA.out (by simp [spindleref1_Shl.l0])
      | succ k1 =>
        have H := HA.out
        clear HA
        simp only [spindleref1_Shl.l0] at H
        by_cases c7 : x9_1 > 0
        · rw [if_pos c7] at H
          have c7b0 : decide (0 < x9_1) = true := decide_eq_true c7
          clear c7
          replace H := Option.bind_eq_some_iff.mp H
          obtain ⟨t221, A80, H⟩ := H
          replace H : (spindleref1_Shl.l0 k1 t219 t221 (IntKind.u64.wrap (x9_1 - 1))) = some r := H
          have A8 := Aside0.mk A80
          clear A80
          have H' := Aside0.mk H
          clear H
          go_wp2_with (first | ((with_reducible refine gate_callee (f := 22) rfl ?_); refine goesL_ (some 27) rfl rfl Try.func22 (by kernel_rfl) rfl #[.int .u64 (IntKind.u64.wrap (x8_1 + x8_1)), .int .i64 t219] rfl (by (try simp only [List.map_toArray, List.map_cons, List.map_nil]); first | done | rfl | (simp only [List.length_drop, List.length_take]; rfl)) ?_; (with_reducible refine (spindleref1_Narrow.calls k1 (IntKind.u64.wrap (x8_1 + x8_1)) t219 t221 _ A8.out).mono ?_); rintro e w' ⟨rfl, ⟨nd, rfl⟩⟩; refine ⟨_, rfl, ?_⟩))
          go_roundg k1
          case measure => have := HK1.out; omega
          case rel => exact ⟨(t221), (IntKind.u64.wrap (x9_1 - 1)), (by first | rfl | (simp; done) | (simp [*]; done)), (by first | rfl | (simp; done) | (simp [*]; done)), H', ⟨by have := HK1.out; omega⟩, by repeat (first | exact Drawn0.refl _ | apply Drawn0.step)⟩
        · rw [if_neg c7] at H
          have c7b0 : decide (0 < x9_1) = false := decide_eq_false c7
          clear c7
          obtain rfl := Option.some.inj H
          go_wp2
          go_ret
          exact ⟨by first | rfl | (simp; done) | (simp [*]; done), by repeat (first | exact Drawn0.refl _ | apply Drawn0.step)⟩

/-! ### spindleref1_Shr: function 42 -/
def spindleref1_Shr.l0 : Nat → Int → Int → Option (Int)
  | 0, _, _ => none
  | k + 1, x8, x9 => if x9 > 0 then (spindleref1_Shr.l0 k (IntKind.u64.wrap (Int.tdiv x8 2)) (IntKind.u64.wrap (x9 - 1))) else (some x8)
def spindleref1_Shr.f (k : Nat) (a0 : Int) (a1 : Int) (a2 : Int) : Option (Int) := (spindleref1_Wide.f a2).bind fun t222 => ((spindleref1_Narrow.f k a0 t222).bind fun t223 => (if (IntKind.u64.wrap (t222)) = 0 then (none) else (spindleref1_Shr.l0 k t223 (Int.tmod a1 (IntKind.u64.wrap (t222))))))
theorem spindleref1_Shr.mono_l : ∀ k, (∀ y0 y1, LeO (spindleref1_Shr.l0 k y0 y1) (spindleref1_Shr.l0 (k + 1) y0 y1))
  | 0 => fun _ _ r h => by simp [spindleref1_Shr.l0] at h
  | k + 1 => by
    have ih0 := spindleref1_Shr.mono_l k
    · intro y0 y1
      unfold spindleref1_Shr.l0
      repeat' first
      | (with_reducible exact ih0 _ _)
      | (with_reducible exact spindleref1_Narrow.mono _ _ _)
      | (with_reducible exact LeO.refl _)
      | (with_reducible exact LeO.none _)
      | (with_reducible refine LeO.ite ?_ ?_)
      | (with_reducible refine LeO.bind ?_ (fun _ => ?_))
      | exact ih0 _ _
      | exact spindleref1_Narrow.mono _ _ _
      | exact LeO.none _
      | refine LeO.ite ?_ ?_
      | refine LeO.bind ?_ (fun _ => ?_)
theorem spindleref1_Shr.mono : ∀ a0 a1 a2 k, LeO (spindleref1_Shr.f k a0 a1 a2) (spindleref1_Shr.f (k + 1) a0 a1 a2) := by
  intro a0 a1 a2 k
  have ih0 := spindleref1_Shr.mono_l k
  unfold spindleref1_Shr.f
  repeat' first
      | (with_reducible exact ih0 _ _)
      | (with_reducible exact spindleref1_Narrow.mono _ _ _)
      | (with_reducible exact LeO.refl _)
      | (with_reducible exact LeO.none _)
      | (with_reducible refine LeO.ite ?_ ?_)
      | (with_reducible refine LeO.bind ?_ (fun _ => ?_))
      | exact ih0 _ _
      | exact spindleref1_Narrow.mono _ _ _
      | exact LeO.none _
      | refine LeO.ite ?_ ?_
      | refine LeO.bind ?_ (fun _ => ?_)
set_option maxHeartbeats 8000000 in
set_option maxRecDepth 100000 in
theorem spindleref1_Shr.calls (k : Nat) (a0 : Int) (a1 : Int) (a2 : Int) (r : Int) (w : World) (h : spindleref1_Shr.f k a0 a1 a2 = some r) :
    Calls Try.prog 42 #[.int .u64 a0, .int .u64 a1, .int .i64 a2] w fun e w' => e = .returned (.int .u64 r) ∧ Drawn0 w w' := by
  have H : ((spindleref1_Wide.f a2).bind fun t222 => ((spindleref1_Narrow.f k a0 t222).bind fun t223 => (if (IntKind.u64.wrap (t222)) = 0 then (none) else (spindleref1_Shr.l0 k t223 (Int.tmod a1 (IntKind.u64.wrap (t222))))))) = some r := h
  clear h
  replace H := Option.bind_eq_some_iff.mp H
  obtain ⟨t222, A40, H⟩ := H
  replace H : ((spindleref1_Narrow.f k a0 t222).bind fun t223 => (if (IntKind.u64.wrap (t222)) = 0 then (none) else (spindleref1_Shr.l0 k t223 (Int.tmod a1 (IntKind.u64.wrap (t222)))))) = some r := H
  have A4 := Aside0.mk A40
  clear A40
  replace H := Option.bind_eq_some_iff.mp H
  obtain ⟨t223, A50, H⟩ := H
  replace H : (if (IntKind.u64.wrap (t222)) = 0 then (none) else (spindleref1_Shr.l0 k t223 (Int.tmod a1 (IntKind.u64.wrap (t222))))) = some r := H
  have A5 := Aside0.mk A50
  clear A50
  by_cases c6 : (IntKind.u64.wrap (t222)) = 0
  · rw [if_pos c6] at H
    exact absurd H (by simp)
  · rw [if_neg c6] at H
    have c6b0 : ((IntKind.u64.wrap (t222)) == 0) = false := beq_eq_false_iff_ne.mpr c6
    have c6b1 : ((IntKind.u64.wrap (t222)) != 0) = true := bne_iff_ne.mpr c6
    have H' := Aside0.mk H
    clear H
    go_enter Try.func42, Try.ntmps42
    go_wp2_with (first | ((with_reducible refine gate_callee (f := 45) rfl ?_); refine goesL_ (some 11) rfl rfl Try.func45 (by kernel_rfl) rfl #[.int .i64 a2] rfl (by (try simp only [List.map_toArray, List.map_cons, List.map_nil]); first | done | rfl | (simp only [List.length_drop, List.length_take]; rfl)) ?_; (with_reducible refine (spindleref1_Wide.calls a2 t222 _ A4.out).mono ?_); rintro e w' ⟨rfl, ⟨nd, rfl⟩⟩; refine ⟨_, rfl, ?_⟩) | ((with_reducible refine gate_callee (f := 22) rfl ?_); refine goesL_ (some 14) rfl rfl Try.func22 (by kernel_rfl) rfl #[.int .u64 a0, .int .i64 t222] rfl (by (try simp only [List.map_toArray, List.map_cons, List.map_nil]); first | done | rfl | (simp only [List.length_drop, List.length_take]; rfl)) ?_; (with_reducible refine (spindleref1_Narrow.calls k a0 t222 t223 _ A5.out).mono ?_); rintro e w' ⟨rfl, ⟨nd, rfl⟩⟩; refine ⟨_, rfl, ?_⟩))
    go_loopg [8, 9] k (fun kq v8 v9 w' => ∃ (x8_1 : Int) (x9_1 : Int), v8 = .int .u64 x8_1 ∧ v9 = .int .u64 x9_1 ∧ Aside0 (spindleref1_Shr.l0 kq x8_1 x9_1 = some r) ∧ Aside0 (kq ≤ k) ∧ Drawn0 w w')
    case atStart => exact ⟨(t223), (Int.tmod a1 (IntKind.u64.wrap (t222))), (by first | rfl | (simp; done) | (simp [*]; done)), (by first | rfl | (simp; done) | (simp [*]; done)), H', ⟨Nat.le_refl _⟩, by repeat (first | exact Drawn0.refl _ | apply Drawn0.step)⟩
    case round =>
      clear H'
      try clear c2
      try clear p2
      try clear c4
      try clear c6
      try clear c6b0
      try clear c6b1
      obtain ⟨x8_1, x9_1, rfl, rfl, HA, HK1, ⟨m1, rfl⟩⟩ := hrel
      cases gk with
      | zero => exact absurd HA.out (by simp [spindleref1_Shr.l0])
      | succ k1 =>
        have H := HA.out
        clear HA
        simp only [spindleref1_Shr.l0] at H
        by_cases c7 : x9_1 > 0
        · rw [if_pos c7] at H
          have c7b0 : decide (0 < x9_1) = true := decide_eq_true c7
          clear c7
          have H' := Aside0.mk H
          clear H
          go_wp2
          go_roundg k1
          case measure => have := HK1.out; omega
          case rel => exact ⟨(IntKind.u64.wrap (Int.tdiv x8_1 2)), (IntKind.u64.wrap (x9_1 - 1)), (by first | rfl | (simp; done) | (simp [*]; done)), (by first | rfl | (simp; done) | (simp [*]; done)), H', ⟨by have := HK1.out; omega⟩, by repeat (first | exact Drawn0.refl _ | apply Drawn0.step)⟩
        · rw [if_neg c7] at H
          have c7b0 : decide (0 < x9_1) = false := decide_eq_false c7
          clear c7
          obtain rfl := Option.some.inj H
          go_wp2
          go_ret
          exact ⟨by first | rfl | (simp; done) | (simp [*]; done), by repeat (first | exact Drawn0.refl _ | apply Drawn0.step)⟩

/-! ### spindleref1_Sar: function 44 -/
def spindleref1_Sar.l0 : Nat → Int → Int → Int → Option (Int)
  | 0, _, _, _ => none
  | k + 1, x7, x8, x9 => if x9 > 0 then ((spindleref1_minus.f k x8 x7).bind fun t226 => (if t226 = true then ((spindleref1_power.f k (wrap64 (x7 - 1))).bind fun t227 => (spindleref1_Sar.l0 k x7 (IntKind.u64.wrap ((IntKind.u64.wrap (Int.tdiv x8 2)) + t227)) (IntKind.u64.wrap (x9 - 1)))) else (spindleref1_Sar.l0 k x7 (IntKind.u64.wrap (Int.tdiv x8 2)) (IntKind.u64.wrap (x9 - 1))))) else (some x8)
def spindleref1_Sar.f (k : Nat) (a0 : Int) (a1 : Int) (a2 : Int) : Option (Int) := (spindleref1_Wide.f a2).bind fun t224 => ((spindleref1_Narrow.f k a0 t224).bind fun t225 => (if (IntKind.u64.wrap (t224)) = 0 then (none) else (spindleref1_Sar.l0 k t224 t225 (Int.tmod a1 (IntKind.u64.wrap (t224))))))
theorem spindleref1_Sar.mono_l : ∀ k, (∀ y0 y1 y2, LeO (spindleref1_Sar.l0 k y0 y1 y2) (spindleref1_Sar.l0 (k + 1) y0 y1 y2))
  | 0 => fun _ _ _ r h => by simp [spindleref1_Sar.l0] at h
  | k + 1 => by
    have ih0 := spindleref1_Sar.mono_l k
    · intro y0 y1 y2
      unfold spindleref1_Sar.l0
      repeat' first
      | (with_reducible exact ih0 _ _ _)
      | (with_reducible exact spindleref1_Narrow.mono _ _ _)
      | (with_reducible exact spindleref1_minus.mono _ _ _)
      | (with_reducible exact spindleref1_power.mono _ _)
      | (with_reducible exact LeO.refl _)
      | (with_reducible exact LeO.none _)
      | (with_reducible refine LeO.ite ?_ ?_)
      | (with_reducible refine LeO.bind ?_ (fun _ => ?_))
      | exact ih0 _ _ _
      | exact spindleref1_Narrow.mono _ _ _
      | exact spindleref1_minus.mono _ _ _
      | exact spindleref1_power.mono _ _
      | exact LeO.none _
      | refine LeO.ite ?_ ?_
      | refine LeO.bind ?_ (fun _ => ?_)
theorem spindleref1_Sar.mono : ∀ a0 a1 a2 k, LeO (spindleref1_Sar.f k a0 a1 a2) (spindleref1_Sar.f (k + 1) a0 a1 a2) := by
  intro a0 a1 a2 k
  have ih0 := spindleref1_Sar.mono_l k
  unfold spindleref1_Sar.f
  repeat' first
      | (with_reducible exact ih0 _ _ _)
      | (with_reducible exact spindleref1_Narrow.mono _ _ _)
      | (with_reducible exact spindleref1_minus.mono _ _ _)
      | (with_reducible exact spindleref1_power.mono _ _)
      | (with_reducible exact LeO.refl _)
      | (with_reducible exact LeO.none _)
      | (with_reducible refine LeO.ite ?_ ?_)
      | (with_reducible refine LeO.bind ?_ (fun _ => ?_))
      | exact ih0 _ _ _
      | exact spindleref1_Narrow.mono _ _ _
      | exact spindleref1_minus.mono _ _ _
      | exact spindleref1_power.mono _ _
      | exact LeO.none _
      | refine LeO.ite ?_ ?_
      | refine LeO.bind ?_ (fun _ => ?_)
set_option maxHeartbeats 8000000 in
set_option maxRecDepth 100000 in
theorem spindleref1_Sar.calls (k : Nat) (a0 : Int) (a1 : Int) (a2 : Int) (r : Int) (w : World) (h : spindleref1_Sar.f k a0 a1 a2 = some r) :
    Calls Try.prog 44 #[.int .u64 a0, .int .u64 a1, .int .i64 a2] w fun e w' => e = .returned (.int .u64 r) ∧ Drawn0 w w' := by
  have H : ((spindleref1_Wide.f a2).bind fun t224 => ((spindleref1_Narrow.f k a0 t224).bind fun t225 => (if (IntKind.u64.wrap (t224)) = 0 then (none) else (spindleref1_Sar.l0 k t224 t225 (Int.tmod a1 (IntKind.u64.wrap (t224))))))) = some r := h
  clear h
  replace H := Option.bind_eq_some_iff.mp H
  obtain ⟨t224, A40, H⟩ := H
  replace H : ((spindleref1_Narrow.f k a0 t224).bind fun t225 => (if (IntKind.u64.wrap (t224)) = 0 then (none) else (spindleref1_Sar.l0 k t224 t225 (Int.tmod a1 (IntKind.u64.wrap (t224)))))) = some r := H
  have A4 := Aside0.mk A40
  clear A40
  replace H := Option.bind_eq_some_iff.mp H
  obtain ⟨t225, A50, H⟩ := H
  replace H : (if (IntKind.u64.wrap (t224)) = 0 then (none) else (spindleref1_Sar.l0 k t224 t225 (Int.tmod a1 (IntKind.u64.wrap (t224))))) = some r := H
  have A5 := Aside0.mk A50
  clear A50
  by_cases c6 : (IntKind.u64.wrap (t224)) = 0
  · rw [if_pos c6] at H
    exact absurd H (by simp)
  · rw [if_neg c6] at H
    have c6b0 : ((IntKind.u64.wrap (t224)) == 0) = false := beq_eq_false_iff_ne.mpr c6
    have c6b1 : ((IntKind.u64.wrap (t224)) != 0) = true := bne_iff_ne.mpr c6
    have H' := Aside0.mk H
    clear H
    go_enter Try.func44, Try.ntmps44
    go_wp2_with (first | ((with_reducible refine gate_callee (f := 45) rfl ?_); refine goesL_ (some 11) rfl rfl Try.func45 (by kernel_rfl) rfl #[.int .i64 a2] rfl (by (try simp only [List.map_toArray, List.map_cons, List.map_nil]); first | done | rfl | (simp only [List.length_drop, List.length_take]; rfl)) ?_; (with_reducible refine (spindleref1_Wide.calls a2 t224 _ A4.out).mono ?_); rintro e w' ⟨rfl, ⟨nd, rfl⟩⟩; refine ⟨_, rfl, ?_⟩) | ((with_reducible refine gate_callee (f := 22) rfl ?_); refine goesL_ (some 14) rfl rfl Try.func22 (by kernel_rfl) rfl #[.int .u64 a0, .int .i64 t224] rfl (by (try simp only [List.map_toArray, List.map_cons, List.map_nil]); first | done | rfl | (simp only [List.length_drop, List.length_take]; rfl)) ?_; (with_reducible refine (spindleref1_Narrow.calls k a0 t224 t225 _ A5.out).mono ?_); rintro e w' ⟨rfl, ⟨nd, rfl⟩⟩; refine ⟨_, rfl, ?_⟩))
    go_loopg [8, 9] k (fun kq v8 v9 w' => ∃ (x8_1 : Int) (x9_1 : Int), v8 = .int .u64 x8_1 ∧ v9 = .int .u64 x9_1 ∧ Aside0 (spindleref1_Sar.l0 kq t224 x8_1 x9_1 = some r) ∧ Aside0 (kq ≤ k) ∧ Drawn0 w w')
    case atStart => exact ⟨(t225), (Int.tmod a1 (IntKind.u64.wrap (t224))), (by first | rfl | (simp; done) | (simp [*]; done)), (by first | rfl | (simp; done) | (simp [*]; done)), H', ⟨Nat.le_refl _⟩, by repeat (first | exact Drawn0.refl _ | apply Drawn0.step)⟩
    case round =>
      clear H'
      try clear c2
      try clear p2
      try clear c4
      try clear c6
      try clear c6b0
      try clear c6b1
      obtain ⟨x8_1, x9_1, rfl, rfl, HA, HK1, ⟨m1, rfl⟩⟩ := hrel
      cases gk with
      | zero => exact absurd HA.out (by simp [spindleref1_Sar.l0])
      | succ k1 =>
        have H := HA.out
        clear HA
        simp only [spindleref1_Sar.l0] at H
        by_cases c7 : x9_1 > 0
        · rw [if_pos c7] at H
          have c7b0 : decide (0 < x9_1) = true := decide_eq_true c7
          clear c7
          replace H := Option.bind_eq_some_iff.mp H
          obtain ⟨t226, A80, H⟩ := H
          replace H : (if t226 = true then ((spindleref1_power.f k1 (wrap64 (t224 - 1))).bind fun t227 => (spindleref1_Sar.l0 k1 t224 (IntKind.u64.wrap ((IntKind.u64.wrap (Int.tdiv x8_1 2)) + t227)) (IntKind.u64.wrap (x9_1 - 1)))) else (spindleref1_Sar.l0 k1 t224 (IntKind.u64.wrap (Int.tdiv x8_1 2)) (IntKind.u64.wrap (x9_1 - 1)))) = some r := H
          have A8 := Aside0.mk A80
          clear A80
          by_cases c9 : t226 = true
          · subst c9
            have H1 : ((spindleref1_power.f k1 (wrap64 (t224 - 1))).bind fun t227 => (spindleref1_Sar.l0 k1 t224 (IntKind.u64.wrap ((IntKind.u64.wrap (Int.tdiv x8_1 2)) + t227)) (IntKind.u64.wrap (x9_1 - 1)))) = some r := by rw [if_pos rfl] at H; exact H
            clear H
            have H := H1
            clear H1
            replace H := Option.bind_eq_some_iff.mp H
            obtain ⟨t227, A100, H⟩ := H
            replace H : (spindleref1_Sar.l0 k1 t224 (IntKind.u64.wrap ((IntKind.u64.wrap (Int.tdiv x8_1 2)) + t227)) (IntKind.u64.wrap (x9_1 - 1))) = some r := H
            have A10 := Aside0.mk A100
            clear A100
            have H' := Aside0.mk H
            clear H
            go_wp2_with (first | ((with_reducible refine gate_callee (f := 52) rfl ?_); refine goesL_ (some 25) rfl rfl Try.func52 (by kernel_rfl) rfl #[.int .u64 x8_1, .int .i64 t224] rfl (by (try simp only [List.map_toArray, List.map_cons, List.map_nil]); first | done | rfl | (simp only [List.length_drop, List.length_take]; rfl)) ?_; (with_reducible refine (spindleref1_minus.calls k1 x8_1 t224 true _ A8.out).mono ?_); rintro e w' ⟨rfl, ⟨nd, rfl⟩⟩; refine ⟨_, rfl, ?_⟩) | ((with_reducible refine gate_callee (f := 46) rfl ?_); refine goesL_ (some 30) rfl rfl Try.func46 (by kernel_rfl) rfl #[.int .i64 (wrap64 (t224 - 1))] rfl (by (try simp only [List.map_toArray, List.map_cons, List.map_nil]); first | done | rfl | (simp only [List.length_drop, List.length_take]; rfl)) ?_; (with_reducible refine (spindleref1_power.calls k1 (wrap64 (t224 - 1)) t227 _ A10.out).mono ?_); rintro e w' ⟨rfl, ⟨nd, rfl⟩⟩; refine ⟨_, rfl, ?_⟩))
            go_roundg k1
            case measure => have := HK1.out; omega
            case rel => exact ⟨(IntKind.u64.wrap ((IntKind.u64.wrap (Int.tdiv x8_1 2)) + t227)), (IntKind.u64.wrap (x9_1 - 1)), (by first | rfl | (simp; done) | (simp [*]; done)), (by first | rfl | (simp; done) | (simp [*]; done)), H', ⟨by have := HK1.out; omega⟩, by repeat (first | exact Drawn0.refl _ | apply Drawn0.step)⟩
          · replace c9 := Bool.eq_false_iff.mpr c9
            subst c9
            have H1 : (spindleref1_Sar.l0 k1 t224 (IntKind.u64.wrap (Int.tdiv x8_1 2)) (IntKind.u64.wrap (x9_1 - 1))) = some r := by rw [if_neg (show ¬ (false = true) by decide)] at H; exact H
            clear H
            have H := H1
            clear H1
            have H' := Aside0.mk H
            clear H
            go_wp2_with (first | ((with_reducible refine gate_callee (f := 52) rfl ?_); refine goesL_ (some 25) rfl rfl Try.func52 (by kernel_rfl) rfl #[.int .u64 x8_1, .int .i64 t224] rfl (by (try simp only [List.map_toArray, List.map_cons, List.map_nil]); first | done | rfl | (simp only [List.length_drop, List.length_take]; rfl)) ?_; (with_reducible refine (spindleref1_minus.calls k1 x8_1 t224 false _ A8.out).mono ?_); rintro e w' ⟨rfl, ⟨nd, rfl⟩⟩; refine ⟨_, rfl, ?_⟩))
            go_roundg k1
            case measure => have := HK1.out; omega
            case rel => exact ⟨(IntKind.u64.wrap (Int.tdiv x8_1 2)), (IntKind.u64.wrap (x9_1 - 1)), (by first | rfl | (simp; done) | (simp [*]; done)), (by first | rfl | (simp; done) | (simp [*]; done)), H', ⟨by have := HK1.out; omega⟩, by repeat (first | exact Drawn0.refl _ | apply Drawn0.step)⟩
        · rw [if_neg c7] at H
          have c7b0 : decide (0 < x9_1) = false := decide_eq_false c7
          clear c7
          obtain rfl := Option.some.inj H
          go_wp2
          go_ret
          exact ⟨by first | rfl | (simp; done) | (simp [*]; done), by repeat (first | exact Drawn0.refl _ | apply Drawn0.step)⟩

/-! ### spindlelaw1_WordParts: function 5 -/
mutual
def spindlelaw1_WordParts.l0 : Nat → List (S26) → Int → Option (Bool)
  | 0, _, _ => none
  | k + 1, x0, x3 => if x3 < (x0.length : Int) then (if 0 ≤ x3 then ((word_Div.f ((rd_T26 x0 x3).f0) ((rd_T26 x0 x3).f1) ((rd_T26 x0 x3).f3)).bind fun t233 => ((spindleref1_Div.f k ((rd_T26 x0 x3).f0) ((rd_T26 x0 x3).f1) ((rd_T26 x0 x3).f3)).bind fun t234 => (if t233 = t234 then ((word_Mod.f ((rd_T26 x0 x3).f0) ((rd_T26 x0 x3).f1) ((rd_T26 x0 x3).f3)).bind fun t235 => ((spindleref1_Mod.f k ((rd_T26 x0 x3).f0) ((rd_T26 x0 x3).f1) ((rd_T26 x0 x3).f3)).bind fun t236 => (if t235 = t236 then ((word_SDiv.f ((rd_T26 x0 x3).f0) ((rd_T26 x0 x3).f1) ((rd_T26 x0 x3).f3)).bind fun t237 => ((spindleref1_SDiv.f k ((rd_T26 x0 x3).f0) ((rd_T26 x0 x3).f1) ((rd_T26 x0 x3).f3)).bind fun t238 => (if t237 = t238 then ((word_SMod.f ((rd_T26 x0 x3).f0) ((rd_T26 x0 x3).f1) ((rd_T26 x0 x3).f3)).bind fun t239 => ((spindleref1_SMod.f k ((rd_T26 x0 x3).f0) ((rd_T26 x0 x3).f1) ((rd_T26 x0 x3).f3)).bind fun t240 => (spindlelaw1_WordParts.j1 k x0 x3 ((rd_T26 x0 x3).f0) ((rd_T26 x0 x3).f2) ((rd_T26 x0 x3).f3) (t239 == t240)))) else (spindlelaw1_WordParts.j1 k x0 x3 ((rd_T26 x0 x3).f0) ((rd_T26 x0 x3).f2) ((rd_T26 x0 x3).f3) false)))) else (spindlelaw1_WordParts.j1 k x0 x3 ((rd_T26 x0 x3).f0) ((rd_T26 x0 x3).f2) ((rd_T26 x0 x3).f3) false)))) else (spindlelaw1_WordParts.j1 k x0 x3 ((rd_T26 x0 x3).f0) ((rd_T26 x0 x3).f2) ((rd_T26 x0 x3).f3) false)))) else (none)) else (some true)
def spindlelaw1_WordParts.j1 : Nat → List (S26) → Int → Int → Int → Int → Bool → Option (Bool)
  | 0, _, _, _, _, _, _ => none
  | k + 1, x0, x3, x4, x6, x7, x8 => if x8 = true then ((word_Shl.f x4 x6 x7).bind fun t241 => ((spindleref1_Shl.f k x4 x6 x7).bind fun t242 => (if t241 = t242 then ((word_Shr.f x4 x6 x7).bind fun t243 => ((spindleref1_Shr.f k x4 x6 x7).bind fun t244 => (if t243 = t244 then ((word_Sar.f x4 x6 x7).bind fun t245 => ((spindleref1_Sar.f k x4 x6 x7).bind fun t246 => (if t245 = t246 then (spindlelaw1_WordParts.l0 k x0 (wrap64 (x3 + 1))) else (some false)))) else (some false)))) else (some false)))) else (some false)
end
def spindlelaw1_WordParts.f (k : Nat) (l0 : List (S26)) : Option (Bool) := (spindlelaw1_awake.f k).bind fun t228 => (if t228 = true then (spindlelaw1_WordParts.l0 k l0 0) else (some false))
theorem spindlelaw1_WordParts.mono_l : ∀ k, (∀ y0 y1, LeO (spindlelaw1_WordParts.l0 k y0 y1) (spindlelaw1_WordParts.l0 (k + 1) y0 y1)) ∧ (∀ y0 y1 y2 y3 y4 y5, LeO (spindlelaw1_WordParts.j1 k y0 y1 y2 y3 y4 y5) (spindlelaw1_WordParts.j1 (k + 1) y0 y1 y2 y3 y4 y5))
  | 0 => ⟨fun _ _ r h => by simp [spindlelaw1_WordParts.l0] at h, fun _ _ _ _ _ _ r h => by simp [spindlelaw1_WordParts.j1] at h⟩
  | k + 1 => by
    obtain ⟨ih0, ih1⟩ := spindlelaw1_WordParts.mono_l k
    refine ⟨?_, ?_⟩
    · intro y0 y1
      unfold spindlelaw1_WordParts.l0
      repeat' first
      | (with_reducible exact ih0 _ _)
      | (with_reducible exact ih1 _ _ _ _ _ _)
      | (with_reducible exact spindlelaw1_awake.mono _)
      | (with_reducible exact spindleref1_Div.mono _ _ _ _)
      | (with_reducible exact spindleref1_Mod.mono _ _ _ _)
      | (with_reducible exact spindleref1_SDiv.mono _ _ _ _)
      | (with_reducible exact spindleref1_SMod.mono _ _ _ _)
      | (with_reducible exact spindleref1_Sar.mono _ _ _ _)
      | (with_reducible exact spindleref1_Shl.mono _ _ _ _)
      | (with_reducible exact spindleref1_Shr.mono _ _ _ _)
      | (with_reducible exact LeO.refl _)
      | (with_reducible exact LeO.none _)
      | (with_reducible refine LeO.ite ?_ ?_)
      | (with_reducible refine LeO.bind ?_ (fun _ => ?_))
      | exact ih0 _ _
      | exact ih1 _ _ _ _ _ _
      | exact spindlelaw1_awake.mono _
      | exact spindleref1_Div.mono _ _ _ _
      | exact spindleref1_Mod.mono _ _ _ _
      | exact spindleref1_SDiv.mono _ _ _ _
      | exact spindleref1_SMod.mono _ _ _ _
      | exact spindleref1_Sar.mono _ _ _ _
      | exact spindleref1_Shl.mono _ _ _ _
      | exact spindleref1_Shr.mono _ _ _ _
      | exact LeO.none _
      | refine LeO.ite ?_ ?_
      | refine LeO.bind ?_ (fun _ => ?_)
    · intro y0 y1 y2 y3 y4 y5
      unfold spindlelaw1_WordParts.j1
      repeat' first
      | (with_reducible exact ih0 _ _)
      | (with_reducible exact ih1 _ _ _ _ _ _)
      | (with_reducible exact spindlelaw1_awake.mono _)
      | (with_reducible exact spindleref1_Div.mono _ _ _ _)
      | (with_reducible exact spindleref1_Mod.mono _ _ _ _)
      | (with_reducible exact spindleref1_SDiv.mono _ _ _ _)
      | (with_reducible exact spindleref1_SMod.mono _ _ _ _)
      | (with_reducible exact spindleref1_Sar.mono _ _ _ _)
      | (with_reducible exact spindleref1_Shl.mono _ _ _ _)
      | (with_reducible exact spindleref1_Shr.mono _ _ _ _)
      | (with_reducible exact LeO.refl _)
      | (with_reducible exact LeO.none _)
      | (with_reducible refine LeO.ite ?_ ?_)
      | (with_reducible refine LeO.bind ?_ (fun _ => ?_))
      | exact ih0 _ _
      | exact ih1 _ _ _ _ _ _
      | exact spindlelaw1_awake.mono _
      | exact spindleref1_Div.mono _ _ _ _
      | exact spindleref1_Mod.mono _ _ _ _
      | exact spindleref1_SDiv.mono _ _ _ _
      | exact spindleref1_SMod.mono _ _ _ _
      | exact spindleref1_Sar.mono _ _ _ _
      | exact spindleref1_Shl.mono _ _ _ _
      | exact spindleref1_Shr.mono _ _ _ _
      | exact LeO.none _
      | refine LeO.ite ?_ ?_
      | refine LeO.bind ?_ (fun _ => ?_)
theorem spindlelaw1_WordParts.mono : ∀ a0 k, LeO (spindlelaw1_WordParts.f k a0) (spindlelaw1_WordParts.f (k + 1) a0) := by
  intro a0 k
  obtain ⟨ih0, ih1⟩ := spindlelaw1_WordParts.mono_l k
  unfold spindlelaw1_WordParts.f
  repeat' first
      | (with_reducible exact ih0 _ _)
      | (with_reducible exact ih1 _ _ _ _ _ _)
      | (with_reducible exact spindlelaw1_awake.mono _)
      | (with_reducible exact spindleref1_Div.mono _ _ _ _)
      | (with_reducible exact spindleref1_Mod.mono _ _ _ _)
      | (with_reducible exact spindleref1_SDiv.mono _ _ _ _)
      | (with_reducible exact spindleref1_SMod.mono _ _ _ _)
      | (with_reducible exact spindleref1_Sar.mono _ _ _ _)
      | (with_reducible exact spindleref1_Shl.mono _ _ _ _)
      | (with_reducible exact spindleref1_Shr.mono _ _ _ _)
      | (with_reducible exact LeO.refl _)
      | (with_reducible exact LeO.none _)
      | (with_reducible refine LeO.ite ?_ ?_)
      | (with_reducible refine LeO.bind ?_ (fun _ => ?_))
      | exact ih0 _ _
      | exact ih1 _ _ _ _ _ _
      | exact spindlelaw1_awake.mono _
      | exact spindleref1_Div.mono _ _ _ _
      | exact spindleref1_Mod.mono _ _ _ _
      | exact spindleref1_SDiv.mono _ _ _ _
      | exact spindleref1_SMod.mono _ _ _ _
      | exact spindleref1_Sar.mono _ _ _ _
      | exact spindleref1_Shl.mono _ _ _ _
      | exact spindleref1_Shr.mono _ _ _ _
      | exact LeO.none _
      | refine LeO.ite ?_ ?_
      | refine LeO.bind ?_ (fun _ => ?_)
set_option maxHeartbeats 8000000 in
set_option maxRecDepth 100000 in
theorem spindlelaw1_WordParts.calls (k : Nat) (A0 : Option Addr) (c0 : Nat) (l0 : List (S26)) (r : Bool) (w : World) (hr0 : Kd.C k26 w A0 l0.length l0) (hc0 : l0.length ≤ c0) (h : spindlelaw1_WordParts.f k l0 = some r) :
    Calls Try.prog 5 #[.slice A0 l0.length c0] w fun e w' => e = .returned (.bool r) ∧ Drawn0 w w' := by
  have HR0 := Aside0.mk hr0
  have HC0 := Aside0.mk hc0
  clear hr0 hc0
  have H : ((spindlelaw1_awake.f k).bind fun t228 => (if t228 = true then (spindlelaw1_WordParts.l0 k l0 0) else (some false))) = some r := h
  clear h
  replace H := Option.bind_eq_some_iff.mp H
  obtain ⟨t228, A20, H⟩ := H
  replace H : (if t228 = true then (spindlelaw1_WordParts.l0 k l0 0) else (some false)) = some r := H
  have A2 := Aside0.mk A20
  clear A20
  by_cases c3 : t228 = true
  · subst c3
    have H1 : (spindlelaw1_WordParts.l0 k l0 0) = some r := by rw [if_pos rfl] at H; exact H
    clear H
    have H := H1
    clear H1
    have H' := Aside0.mk H
    clear H
    go_enter Try.func5, Try.ntmps5
    go_wp2_with (first | ((with_reducible refine gate_callee (f := 11) rfl ?_); refine goesL_ (some 9) rfl rfl Try.func11 (by kernel_rfl) rfl #[] rfl (by (try simp only [List.map_toArray, List.map_cons, List.map_nil]); first | done | rfl | (simp only [List.length_drop, List.length_take]; rfl)) ?_; (with_reducible refine (spindlelaw1_awake.calls k  true _ A2.out).mono ?_); rintro e w' ⟨rfl, ⟨nd, rfl⟩⟩; refine ⟨_, rfl, ?_⟩))
    go_loopg [3] k (fun kq v3 w' => ∃ (x3_1 : Int), v3 = .int .i64 x3_1 ∧ Aside0 (spindlelaw1_WordParts.l0 kq l0 x3_1 = some r) ∧ Aside0 (kq ≤ k) ∧ Drawn0 w w')
    case atStart => exact ⟨(0), (by first | rfl | (simp; done) | (simp [*]; done)), H', ⟨Nat.le_refl _⟩, by repeat (first | exact Drawn0.refl _ | apply Drawn0.step)⟩
    case round =>
      clear H'
      try clear c1
      try clear p2
      try clear c3
      obtain ⟨x3_1, rfl, HA, HK1, ⟨m1, rfl⟩⟩ := hrel
      cases gk with
      | zero => exact absurd HA.out (by simp [spindlelaw1_WordParts.l0])
      | succ k1 =>
        have H := HA.out
        clear HA
        simp only [spindlelaw1_WordParts.l0] at H
        by_cases c4 : x3_1 < (l0.length : Int)
        · rw [if_pos c4] at H
          have c4b0 : decide (x3_1 < (l0.length : Int)) = true := decide_eq_true c4
          clear c4
          by_cases c5 : 0 ≤ x3_1
          · rw [if_pos c5] at H
            have c5b0 : decide (0 ≤ x3_1) = true := decide_eq_true c5
            clear c5
            have HC6 := Aside0.mk H
            clear H
            have p229 : 0 ≤ (x3_1 : Int) := of_decide_eq_true (by first | (with_reducible assumption) | assumption)
            have q229 : x3_1 < (l0.length : Int) := of_decide_eq_true (by first | (with_reducible assumption) | assumption)
            obtain ⟨ad229, e229, hx229_0, hx229_1, hx229_2, hx229_3⟩ := at_T26 HR0.out x3_1 p229 q229
            cases e229
            replace p229 := eq_true p229
            replace q229 := eq_true q229
            have p230 : 0 ≤ (x3_1 : Int) := of_decide_eq_true (by first | (with_reducible assumption) | assumption)
            have q230 : x3_1 < (l0.length : Int) := of_decide_eq_true (by first | (with_reducible assumption) | assumption)
            obtain ⟨ad230, e230, hx230_0, hx230_1, hx230_2, hx230_3⟩ := at_T26 HR0.out x3_1 p230 q230
            obtain rfl : ad229 = ad230 := (by injection e230)
            replace p230 := eq_true p230
            replace q230 := eq_true q230
            have p231 : 0 ≤ (x3_1 : Int) := of_decide_eq_true (by first | (with_reducible assumption) | assumption)
            have q231 : x3_1 < (l0.length : Int) := of_decide_eq_true (by first | (with_reducible assumption) | assumption)
            obtain ⟨ad231, e231, hx231_0, hx231_1, hx231_2, hx231_3⟩ := at_T26 HR0.out x3_1 p231 q231
            obtain rfl : ad229 = ad231 := (by injection e231)
            replace p231 := eq_true p231
            replace q231 := eq_true q231
            have p232 : 0 ≤ (x3_1 : Int) := of_decide_eq_true (by first | (with_reducible assumption) | assumption)
            have q232 : x3_1 < (l0.length : Int) := of_decide_eq_true (by first | (with_reducible assumption) | assumption)
            obtain ⟨ad232, e232, hx232_0, hx232_1, hx232_2, hx232_3⟩ := at_T26 HR0.out x3_1 p232 q232
            obtain rfl : ad229 = ad232 := (by injection e232)
            replace p232 := eq_true p232
            replace q232 := eq_true q232
            go_upto_region 10 with (fail)
            go_cut [8] (fun v8 wc => ∃ (kq : Nat) (x8_5 : Bool), v8 = .bool x8_5 ∧ Aside0 (spindlelaw1_WordParts.j1 kq l0 x3_1 ((rd_T26 l0 x3_1).f0) ((rd_T26 l0 x3_1).f2) ((rd_T26 l0 x3_1).f3) x8_5 = some r) ∧ Aside0 (kq ≤ k1) ∧ Drawn0 w wc)
            case first =>
              have H := HC6.out
              clear HC6
              replace H := Option.bind_eq_some_iff.mp H
              obtain ⟨t233, A70, H⟩ := H
              replace H : ((spindleref1_Div.f k1 ((rd_T26 l0 x3_1).f0) ((rd_T26 l0 x3_1).f1) ((rd_T26 l0 x3_1).f3)).bind fun t234 => (if t233 = t234 then ((word_Mod.f ((rd_T26 l0 x3_1).f0) ((rd_T26 l0 x3_1).f1) ((rd_T26 l0 x3_1).f3)).bind fun t235 => ((spindleref1_Mod.f k1 ((rd_T26 l0 x3_1).f0) ((rd_T26 l0 x3_1).f1) ((rd_T26 l0 x3_1).f3)).bind fun t236 => (if t235 = t236 then ((word_SDiv.f ((rd_T26 l0 x3_1).f0) ((rd_T26 l0 x3_1).f1) ((rd_T26 l0 x3_1).f3)).bind fun t237 => ((spindleref1_SDiv.f k1 ((rd_T26 l0 x3_1).f0) ((rd_T26 l0 x3_1).f1) ((rd_T26 l0 x3_1).f3)).bind fun t238 => (if t237 = t238 then ((word_SMod.f ((rd_T26 l0 x3_1).f0) ((rd_T26 l0 x3_1).f1) ((rd_T26 l0 x3_1).f3)).bind fun t239 => ((spindleref1_SMod.f k1 ((rd_T26 l0 x3_1).f0) ((rd_T26 l0 x3_1).f1) ((rd_T26 l0 x3_1).f3)).bind fun t240 => (spindlelaw1_WordParts.j1 k1 l0 x3_1 ((rd_T26 l0 x3_1).f0) ((rd_T26 l0 x3_1).f2) ((rd_T26 l0 x3_1).f3) (t239 == t240)))) else (spindlelaw1_WordParts.j1 k1 l0 x3_1 ((rd_T26 l0 x3_1).f0) ((rd_T26 l0 x3_1).f2) ((rd_T26 l0 x3_1).f3) false)))) else (spindlelaw1_WordParts.j1 k1 l0 x3_1 ((rd_T26 l0 x3_1).f0) ((rd_T26 l0 x3_1).f2) ((rd_T26 l0 x3_1).f3) false)))) else (spindlelaw1_WordParts.j1 k1 l0 x3_1 ((rd_T26 l0 x3_1).f0) ((rd_T26 l0 x3_1).f2) ((rd_T26 l0 x3_1).f3) false))) = some r := H
              have A7 := Aside0.mk A70
              clear A70
              replace H := Option.bind_eq_some_iff.mp H
              obtain ⟨t234, A80, H⟩ := H
              replace H : (if t233 = t234 then ((word_Mod.f ((rd_T26 l0 x3_1).f0) ((rd_T26 l0 x3_1).f1) ((rd_T26 l0 x3_1).f3)).bind fun t235 => ((spindleref1_Mod.f k1 ((rd_T26 l0 x3_1).f0) ((rd_T26 l0 x3_1).f1) ((rd_T26 l0 x3_1).f3)).bind fun t236 => (if t235 = t236 then ((word_SDiv.f ((rd_T26 l0 x3_1).f0) ((rd_T26 l0 x3_1).f1) ((rd_T26 l0 x3_1).f3)).bind fun t237 => ((spindleref1_SDiv.f k1 ((rd_T26 l0 x3_1).f0) ((rd_T26 l0 x3_1).f1) ((rd_T26 l0 x3_1).f3)).bind fun t238 => (if t237 = t238 then ((word_SMod.f ((rd_T26 l0 x3_1).f0) ((rd_T26 l0 x3_1).f1) ((rd_T26 l0 x3_1).f3)).bind fun t239 => ((spindleref1_SMod.f k1 ((rd_T26 l0 x3_1).f0) ((rd_T26 l0 x3_1).f1) ((rd_T26 l0 x3_1).f3)).bind fun t240 => (spindlelaw1_WordParts.j1 k1 l0 x3_1 ((rd_T26 l0 x3_1).f0) ((rd_T26 l0 x3_1).f2) ((rd_T26 l0 x3_1).f3) (t239 == t240)))) else (spindlelaw1_WordParts.j1 k1 l0 x3_1 ((rd_T26 l0 x3_1).f0) ((rd_T26 l0 x3_1).f2) ((rd_T26 l0 x3_1).f3) false)))) else (spindlelaw1_WordParts.j1 k1 l0 x3_1 ((rd_T26 l0 x3_1).f0) ((rd_T26 l0 x3_1).f2) ((rd_T26 l0 x3_1).f3) false)))) else (spindlelaw1_WordParts.j1 k1 l0 x3_1 ((rd_T26 l0 x3_1).f0) ((rd_T26 l0 x3_1).f2) ((rd_T26 l0 x3_1).f3) false)) = some r := H
              have A8 := Aside0.mk A80
              clear A80
              by_cases c9 : t233 = t234
              · rw [if_pos c9] at H
                have c9b0 : (t233 == t234) = true := beq_iff_eq.mpr c9
                have c9b1 : (t233 != t234) = false := bne_eq_false_iff_eq.mpr c9
                clear c9
                (first | rw [c9b0] | (simp only [i64_w, i32_w]; rw [c9b0]) | skip)
                replace H := Option.bind_eq_some_iff.mp H
                obtain ⟨t235, A100, H⟩ := H
                replace H : ((spindleref1_Mod.f k1 ((rd_T26 l0 x3_1).f0) ((rd_T26 l0 x3_1).f1) ((rd_T26 l0 x3_1).f3)).bind fun t236 => (if t235 = t236 then ((word_SDiv.f ((rd_T26 l0 x3_1).f0) ((rd_T26 l0 x3_1).f1) ((rd_T26 l0 x3_1).f3)).bind fun t237 => ((spindleref1_SDiv.f k1 ((rd_T26 l0 x3_1).f0) ((rd_T26 l0 x3_1).f1) ((rd_T26 l0 x3_1).f3)).bind fun t238 => (if t237 = t238 then ((word_SMod.f ((rd_T26 l0 x3_1).f0) ((rd_T26 l0 x3_1).f1) ((rd_T26 l0 x3_1).f3)).bind fun t239 => ((spindleref1_SMod.f k1 ((rd_T26 l0 x3_1).f0) ((rd_T26 l0 x3_1).f1) ((rd_T26 l0 x3_1).f3)).bind fun t240 => (spindlelaw1_WordParts.j1 k1 l0 x3_1 ((rd_T26 l0 x3_1).f0) ((rd_T26 l0 x3_1).f2) ((rd_T26 l0 x3_1).f3) (t239 == t240)))) else (spindlelaw1_WordParts.j1 k1 l0 x3_1 ((rd_T26 l0 x3_1).f0) ((rd_T26 l0 x3_1).f2) ((rd_T26 l0 x3_1).f3) false)))) else (spindlelaw1_WordParts.j1 k1 l0 x3_1 ((rd_T26 l0 x3_1).f0) ((rd_T26 l0 x3_1).f2) ((rd_T26 l0 x3_1).f3) false))) = some r := H
                have A10 := Aside0.mk A100
                clear A100
                replace H := Option.bind_eq_some_iff.mp H
                obtain ⟨t236, A110, H⟩ := H
                replace H : (if t235 = t236 then ((word_SDiv.f ((rd_T26 l0 x3_1).f0) ((rd_T26 l0 x3_1).f1) ((rd_T26 l0 x3_1).f3)).bind fun t237 => ((spindleref1_SDiv.f k1 ((rd_T26 l0 x3_1).f0) ((rd_T26 l0 x3_1).f1) ((rd_T26 l0 x3_1).f3)).bind fun t238 => (if t237 = t238 then ((word_SMod.f ((rd_T26 l0 x3_1).f0) ((rd_T26 l0 x3_1).f1) ((rd_T26 l0 x3_1).f3)).bind fun t239 => ((spindleref1_SMod.f k1 ((rd_T26 l0 x3_1).f0) ((rd_T26 l0 x3_1).f1) ((rd_T26 l0 x3_1).f3)).bind fun t240 => (spindlelaw1_WordParts.j1 k1 l0 x3_1 ((rd_T26 l0 x3_1).f0) ((rd_T26 l0 x3_1).f2) ((rd_T26 l0 x3_1).f3) (t239 == t240)))) else (spindlelaw1_WordParts.j1 k1 l0 x3_1 ((rd_T26 l0 x3_1).f0) ((rd_T26 l0 x3_1).f2) ((rd_T26 l0 x3_1).f3) false)))) else (spindlelaw1_WordParts.j1 k1 l0 x3_1 ((rd_T26 l0 x3_1).f0) ((rd_T26 l0 x3_1).f2) ((rd_T26 l0 x3_1).f3) false)) = some r := H
                have A11 := Aside0.mk A110
                clear A110
                by_cases c12 : t235 = t236
                · rw [if_pos c12] at H
                  have c12b0 : (t235 == t236) = true := beq_iff_eq.mpr c12
                  have c12b1 : (t235 != t236) = false := bne_eq_false_iff_eq.mpr c12
                  clear c12
                  replace H := Option.bind_eq_some_iff.mp H
                  obtain ⟨t237, A130, H⟩ := H
                  replace H : ((spindleref1_SDiv.f k1 ((rd_T26 l0 x3_1).f0) ((rd_T26 l0 x3_1).f1) ((rd_T26 l0 x3_1).f3)).bind fun t238 => (if t237 = t238 then ((word_SMod.f ((rd_T26 l0 x3_1).f0) ((rd_T26 l0 x3_1).f1) ((rd_T26 l0 x3_1).f3)).bind fun t239 => ((spindleref1_SMod.f k1 ((rd_T26 l0 x3_1).f0) ((rd_T26 l0 x3_1).f1) ((rd_T26 l0 x3_1).f3)).bind fun t240 => (spindlelaw1_WordParts.j1 k1 l0 x3_1 ((rd_T26 l0 x3_1).f0) ((rd_T26 l0 x3_1).f2) ((rd_T26 l0 x3_1).f3) (t239 == t240)))) else (spindlelaw1_WordParts.j1 k1 l0 x3_1 ((rd_T26 l0 x3_1).f0) ((rd_T26 l0 x3_1).f2) ((rd_T26 l0 x3_1).f3) false))) = some r := H
                  have A13 := Aside0.mk A130
                  clear A130
                  replace H := Option.bind_eq_some_iff.mp H
                  obtain ⟨t238, A140, H⟩ := H
                  replace H : (if t237 = t238 then ((word_SMod.f ((rd_T26 l0 x3_1).f0) ((rd_T26 l0 x3_1).f1) ((rd_T26 l0 x3_1).f3)).bind fun t239 => ((spindleref1_SMod.f k1 ((rd_T26 l0 x3_1).f0) ((rd_T26 l0 x3_1).f1) ((rd_T26 l0 x3_1).f3)).bind fun t240 => (spindlelaw1_WordParts.j1 k1 l0 x3_1 ((rd_T26 l0 x3_1).f0) ((rd_T26 l0 x3_1).f2) ((rd_T26 l0 x3_1).f3) (t239 == t240)))) else (spindlelaw1_WordParts.j1 k1 l0 x3_1 ((rd_T26 l0 x3_1).f0) ((rd_T26 l0 x3_1).f2) ((rd_T26 l0 x3_1).f3) false)) = some r := H
                  have A14 := Aside0.mk A140
                  clear A140
                  by_cases c15 : t237 = t238
                  · rw [if_pos c15] at H
                    have c15b0 : (t237 == t238) = true := beq_iff_eq.mpr c15
                    have c15b1 : (t237 != t238) = false := bne_eq_false_iff_eq.mpr c15
                    clear c15
                    replace H := Option.bind_eq_some_iff.mp H
                    obtain ⟨t239, A160, H⟩ := H
                    replace H : ((spindleref1_SMod.f k1 ((rd_T26 l0 x3_1).f0) ((rd_T26 l0 x3_1).f1) ((rd_T26 l0 x3_1).f3)).bind fun t240 => (spindlelaw1_WordParts.j1 k1 l0 x3_1 ((rd_T26 l0 x3_1).f0) ((rd_T26 l0 x3_1).f2) ((rd_T26 l0 x3_1).f3) (t239 == t240))) = some r := H
                    have A16 := Aside0.mk A160
                    clear A160
                    replace H := Option.bind_eq_some_iff.mp H
                    obtain ⟨t240, A170, H⟩ := H
                    replace H : (spindlelaw1_WordParts.j1 k1 l0 x3_1 ((rd_T26 l0 x3_1).f0) ((rd_T26 l0 x3_1).f2) ((rd_T26 l0 x3_1).f3) (t239 == t240)) = some r := H
                    have A17 := Aside0.mk A170
                    clear A170
                    have H' := Aside0.mk H
                    clear H
                    go_wp2_with (first | ((with_reducible refine gate_callee (f := 31) rfl ?_); refine goesL_ (some 40) rfl rfl Try.func31 (by kernel_rfl) rfl #[.int .u64 ((rd_T26 l0 x3_1).f0), .int .u64 ((rd_T26 l0 x3_1).f1), .int .i64 ((rd_T26 l0 x3_1).f3)] rfl (by (try simp only [List.map_toArray, List.map_cons, List.map_nil]); first | done | rfl | (simp only [List.length_drop, List.length_take]; rfl)) ?_; (with_reducible refine (word_Div.calls ((rd_T26 l0 x3_1).f0) ((rd_T26 l0 x3_1).f1) ((rd_T26 l0 x3_1).f3) t233 _ A7.out).mono ?_); rintro e w' ⟨rfl, ⟨nd, rfl⟩⟩; refine ⟨_, rfl, ?_⟩) | ((with_reducible refine gate_callee (f := 32) rfl ?_); refine goesL_ (some 44) rfl rfl Try.func32 (by kernel_rfl) rfl #[.int .u64 ((rd_T26 l0 x3_1).f0), .int .u64 ((rd_T26 l0 x3_1).f1), .int .i64 ((rd_T26 l0 x3_1).f3)] rfl (by (try simp only [List.map_toArray, List.map_cons, List.map_nil]); first | done | rfl | (simp only [List.length_drop, List.length_take]; rfl)) ?_; (with_reducible refine (spindleref1_Div.calls k1 ((rd_T26 l0 x3_1).f0) ((rd_T26 l0 x3_1).f1) ((rd_T26 l0 x3_1).f3) t234 _ A8.out).mono ?_); rintro e w' ⟨rfl, ⟨nd, rfl⟩⟩; refine ⟨_, rfl, ?_⟩) | (go_at_call 33; (with_reducible refine (word_Mod.calls ((rd_T26 l0 x3_1).f0) ((rd_T26 l0 x3_1).f1) ((rd_T26 l0 x3_1).f3) t235 _ A10.out).mono ?_); rintro e w' ⟨rfl, ⟨nd, rfl⟩⟩) | (go_at_call 34; (with_reducible refine (spindleref1_Mod.calls k1 ((rd_T26 l0 x3_1).f0) ((rd_T26 l0 x3_1).f1) ((rd_T26 l0 x3_1).f3) t236 _ A11.out).mono ?_); rintro e w' ⟨rfl, ⟨nd, rfl⟩⟩) | (go_at_call 35; (with_reducible refine (word_SDiv.calls ((rd_T26 l0 x3_1).f0) ((rd_T26 l0 x3_1).f1) ((rd_T26 l0 x3_1).f3) t237 _ A13.out).mono ?_); rintro e w' ⟨rfl, ⟨nd, rfl⟩⟩) | (go_at_call 36; (with_reducible refine (spindleref1_SDiv.calls k1 ((rd_T26 l0 x3_1).f0) ((rd_T26 l0 x3_1).f1) ((rd_T26 l0 x3_1).f3) t238 _ A14.out).mono ?_); rintro e w' ⟨rfl, ⟨nd, rfl⟩⟩) | (go_at_call 37; (with_reducible refine (word_SMod.calls ((rd_T26 l0 x3_1).f0) ((rd_T26 l0 x3_1).f1) ((rd_T26 l0 x3_1).f3) t239 _ A16.out).mono ?_); rintro e w' ⟨rfl, ⟨nd, rfl⟩⟩) | (go_at_call 38; (with_reducible refine (spindleref1_SMod.calls k1 ((rd_T26 l0 x3_1).f0) ((rd_T26 l0 x3_1).f1) ((rd_T26 l0 x3_1).f3) t240 _ A17.out).mono ?_); rintro e w' ⟨rfl, ⟨nd, rfl⟩⟩))
                    go_meet
                    case rel => exact ⟨_, ((t239 == t240)), (by first | rfl | (simp; done) | (simp [*]; done)), H', ⟨by have := HK1.out; first | omega | exact Nat.le_refl _⟩, by repeat (first | exact Drawn0.refl _ | apply Drawn0.step)⟩
                  · rw [if_neg c15] at H
                    have c15b0 : (t237 == t238) = false := beq_eq_false_iff_ne.mpr c15
                    have c15b1 : (t237 != t238) = true := bne_iff_ne.mpr c15
                    have H' := Aside0.mk H
                    clear H
                    go_wp2_with (first | ((with_reducible refine gate_callee (f := 31) rfl ?_); refine goesL_ (some 40) rfl rfl Try.func31 (by kernel_rfl) rfl #[.int .u64 ((rd_T26 l0 x3_1).f0), .int .u64 ((rd_T26 l0 x3_1).f1), .int .i64 ((rd_T26 l0 x3_1).f3)] rfl (by (try simp only [List.map_toArray, List.map_cons, List.map_nil]); first | done | rfl | (simp only [List.length_drop, List.length_take]; rfl)) ?_; (with_reducible refine (word_Div.calls ((rd_T26 l0 x3_1).f0) ((rd_T26 l0 x3_1).f1) ((rd_T26 l0 x3_1).f3) t233 _ A7.out).mono ?_); rintro e w' ⟨rfl, ⟨nd, rfl⟩⟩; refine ⟨_, rfl, ?_⟩) | ((with_reducible refine gate_callee (f := 32) rfl ?_); refine goesL_ (some 44) rfl rfl Try.func32 (by kernel_rfl) rfl #[.int .u64 ((rd_T26 l0 x3_1).f0), .int .u64 ((rd_T26 l0 x3_1).f1), .int .i64 ((rd_T26 l0 x3_1).f3)] rfl (by (try simp only [List.map_toArray, List.map_cons, List.map_nil]); first | done | rfl | (simp only [List.length_drop, List.length_take]; rfl)) ?_; (with_reducible refine (spindleref1_Div.calls k1 ((rd_T26 l0 x3_1).f0) ((rd_T26 l0 x3_1).f1) ((rd_T26 l0 x3_1).f3) t234 _ A8.out).mono ?_); rintro e w' ⟨rfl, ⟨nd, rfl⟩⟩; refine ⟨_, rfl, ?_⟩) | (go_at_call 33; (with_reducible refine (word_Mod.calls ((rd_T26 l0 x3_1).f0) ((rd_T26 l0 x3_1).f1) ((rd_T26 l0 x3_1).f3) t235 _ A10.out).mono ?_); rintro e w' ⟨rfl, ⟨nd, rfl⟩⟩) | (go_at_call 34; (with_reducible refine (spindleref1_Mod.calls k1 ((rd_T26 l0 x3_1).f0) ((rd_T26 l0 x3_1).f1) ((rd_T26 l0 x3_1).f3) t236 _ A11.out).mono ?_); rintro e w' ⟨rfl, ⟨nd, rfl⟩⟩) | (go_at_call 35; (with_reducible refine (word_SDiv.calls ((rd_T26 l0 x3_1).f0) ((rd_T26 l0 x3_1).f1) ((rd_T26 l0 x3_1).f3) t237 _ A13.out).mono ?_); rintro e w' ⟨rfl, ⟨nd, rfl⟩⟩) | (go_at_call 36; (with_reducible refine (spindleref1_SDiv.calls k1 ((rd_T26 l0 x3_1).f0) ((rd_T26 l0 x3_1).f1) ((rd_T26 l0 x3_1).f3) t238 _ A14.out).mono ?_); rintro e w' ⟨rfl, ⟨nd, rfl⟩⟩))
                    go_meet
                    case rel => exact ⟨_, (false), (by first | rfl | (simp; done) | (simp [*]; done)), H', ⟨by have := HK1.out; first | omega | exact Nat.le_refl _⟩, by repeat (first | exact Drawn0.refl _ | apply Drawn0.step)⟩
                · rw [if_neg c12] at H
                  have c12b0 : (t235 == t236) = false := beq_eq_false_iff_ne.mpr c12
                  have c12b1 : (t235 != t236) = true := bne_iff_ne.mpr c12
                  have H' := Aside0.mk H
                  clear H
                  go_wp2_with (first | ((with_reducible refine gate_callee (f := 31) rfl ?_); refine goesL_ (some 40) rfl rfl Try.func31 (by kernel_rfl) rfl #[.int .u64 ((rd_T26 l0 x3_1).f0), .int .u64 ((rd_T26 l0 x3_1).f1), .int .i64 ((rd_T26 l0 x3_1).f3)] rfl (by (try simp only [List.map_toArray, List.map_cons, List.map_nil]); first | done | rfl | (simp only [List.length_drop, List.length_take]; rfl)) ?_; (with_reducible refine (word_Div.calls ((rd_T26 l0 x3_1).f0) ((rd_T26 l0 x3_1).f1) ((rd_T26 l0 x3_1).f3) t233 _ A7.out).mono ?_); rintro e w' ⟨rfl, ⟨nd, rfl⟩⟩; refine ⟨_, rfl, ?_⟩) | ((with_reducible refine gate_callee (f := 32) rfl ?_); refine goesL_ (some 44) rfl rfl Try.func32 (by kernel_rfl) rfl #[.int .u64 ((rd_T26 l0 x3_1).f0), .int .u64 ((rd_T26 l0 x3_1).f1), .int .i64 ((rd_T26 l0 x3_1).f3)] rfl (by (try simp only [List.map_toArray, List.map_cons, List.map_nil]); first | done | rfl | (simp only [List.length_drop, List.length_take]; rfl)) ?_; (with_reducible refine (spindleref1_Div.calls k1 ((rd_T26 l0 x3_1).f0) ((rd_T26 l0 x3_1).f1) ((rd_T26 l0 x3_1).f3) t234 _ A8.out).mono ?_); rintro e w' ⟨rfl, ⟨nd, rfl⟩⟩; refine ⟨_, rfl, ?_⟩) | (go_at_call 33; (with_reducible refine (word_Mod.calls ((rd_T26 l0 x3_1).f0) ((rd_T26 l0 x3_1).f1) ((rd_T26 l0 x3_1).f3) t235 _ A10.out).mono ?_); rintro e w' ⟨rfl, ⟨nd, rfl⟩⟩) | (go_at_call 34; (with_reducible refine (spindleref1_Mod.calls k1 ((rd_T26 l0 x3_1).f0) ((rd_T26 l0 x3_1).f1) ((rd_T26 l0 x3_1).f3) t236 _ A11.out).mono ?_); rintro e w' ⟨rfl, ⟨nd, rfl⟩⟩))
                  go_meet
                  case rel => exact ⟨_, (false), (by first | rfl | (simp; done) | (simp [*]; done)), H', ⟨by have := HK1.out; first | omega | exact Nat.le_refl _⟩, by repeat (first | exact Drawn0.refl _ | apply Drawn0.step)⟩
              · rw [if_neg c9] at H
                have c9b0 : (t233 == t234) = false := beq_eq_false_iff_ne.mpr c9
                have c9b1 : (t233 != t234) = true := bne_iff_ne.mpr c9
                (first | rw [c9b0] | (simp only [i64_w, i32_w]; rw [c9b0]) | skip)
                have H' := Aside0.mk H
                clear H
                go_wp2_with (first | ((with_reducible refine gate_callee (f := 31) rfl ?_); refine goesL_ (some 40) rfl rfl Try.func31 (by kernel_rfl) rfl #[.int .u64 ((rd_T26 l0 x3_1).f0), .int .u64 ((rd_T26 l0 x3_1).f1), .int .i64 ((rd_T26 l0 x3_1).f3)] rfl (by (try simp only [List.map_toArray, List.map_cons, List.map_nil]); first | done | rfl | (simp only [List.length_drop, List.length_take]; rfl)) ?_; (with_reducible refine (word_Div.calls ((rd_T26 l0 x3_1).f0) ((rd_T26 l0 x3_1).f1) ((rd_T26 l0 x3_1).f3) t233 _ A7.out).mono ?_); rintro e w' ⟨rfl, ⟨nd, rfl⟩⟩; refine ⟨_, rfl, ?_⟩) | ((with_reducible refine gate_callee (f := 32) rfl ?_); refine goesL_ (some 44) rfl rfl Try.func32 (by kernel_rfl) rfl #[.int .u64 ((rd_T26 l0 x3_1).f0), .int .u64 ((rd_T26 l0 x3_1).f1), .int .i64 ((rd_T26 l0 x3_1).f3)] rfl (by (try simp only [List.map_toArray, List.map_cons, List.map_nil]); first | done | rfl | (simp only [List.length_drop, List.length_take]; rfl)) ?_; (with_reducible refine (spindleref1_Div.calls k1 ((rd_T26 l0 x3_1).f0) ((rd_T26 l0 x3_1).f1) ((rd_T26 l0 x3_1).f3) t234 _ A8.out).mono ?_); rintro e w' ⟨rfl, ⟨nd, rfl⟩⟩; refine ⟨_, rfl, ?_⟩))
                go_meet
                case rel => exact ⟨_, (false), (by first | rfl | (simp; done) | (simp [*]; done)), H', ⟨by have := HK1.out; first | omega | exact Nat.le_refl _⟩, by repeat (first | exact Drawn0.refl _ | apply Drawn0.step)⟩
            case rest =>
              clear HC6
              try clear c1
              try clear p2
              try clear q2
              try clear hx2
              try clear c3
              try clear c4
              try clear c4b0
              try clear c5
              try clear c5b0
              try clear c9
              try clear c9b0
              try clear c9b1
              try clear c11
              try clear c12
              try clear c12b0
              try clear c12b1
              try clear c15
              try clear c15b0
              try clear c15b1
              try clear hx229_0
              try clear hx229_1
              try clear hx229_2
              try clear hx229_3
              try clear hx230_0
              try clear hx230_1
              try clear hx230_2
              try clear hx230_3
              try clear hx231_0
              try clear hx231_1
              try clear hx231_2
              try clear hx231_3
              try clear hx232_0
              try clear hx232_1
              try clear hx232_2
              try clear hx232_3
              try clear p2
              try clear p229
              try clear p230
              try clear p231
              try clear p232
              try clear q229
              try clear q230
              try clear q231
              try clear q232
              obtain ⟨kq, x8_5, rfl, HA, HJ5, ⟨mc5, rfl⟩⟩ := hcut
              cases kq with
              | zero => exact absurd HA.out (by simp [spindlelaw1_WordParts.j1])
              | succ kj5 =>
                have H := HA.out
                clear HA
                simp only [spindlelaw1_WordParts.j1] at H
                by_cases c18 : x8_5 = true
                · subst c18
                  have H1 : ((word_Shl.f ((rd_T26 l0 x3_1).f0) ((rd_T26 l0 x3_1).f2) ((rd_T26 l0 x3_1).f3)).bind fun t241 => ((spindleref1_Shl.f kj5 ((rd_T26 l0 x3_1).f0) ((rd_T26 l0 x3_1).f2) ((rd_T26 l0 x3_1).f3)).bind fun t242 => (if t241 = t242 then ((word_Shr.f ((rd_T26 l0 x3_1).f0) ((rd_T26 l0 x3_1).f2) ((rd_T26 l0 x3_1).f3)).bind fun t243 => ((spindleref1_Shr.f kj5 ((rd_T26 l0 x3_1).f0) ((rd_T26 l0 x3_1).f2) ((rd_T26 l0 x3_1).f3)).bind fun t244 => (if t243 = t244 then ((word_Sar.f ((rd_T26 l0 x3_1).f0) ((rd_T26 l0 x3_1).f2) ((rd_T26 l0 x3_1).f3)).bind fun t245 => ((spindleref1_Sar.f kj5 ((rd_T26 l0 x3_1).f0) ((rd_T26 l0 x3_1).f2) ((rd_T26 l0 x3_1).f3)).bind fun t246 => (if t245 = t246 then (spindlelaw1_WordParts.l0 kj5 l0 (wrap64 (x3_1 + 1))) else (some false)))) else (some false)))) else (some false)))) = some r := by rw [if_pos rfl] at H; exact H
                  clear H
                  have H := H1
                  clear H1
                  replace H := Option.bind_eq_some_iff.mp H
                  obtain ⟨t241, A190, H⟩ := H
                  replace H : ((spindleref1_Shl.f kj5 ((rd_T26 l0 x3_1).f0) ((rd_T26 l0 x3_1).f2) ((rd_T26 l0 x3_1).f3)).bind fun t242 => (if t241 = t242 then ((word_Shr.f ((rd_T26 l0 x3_1).f0) ((rd_T26 l0 x3_1).f2) ((rd_T26 l0 x3_1).f3)).bind fun t243 => ((spindleref1_Shr.f kj5 ((rd_T26 l0 x3_1).f0) ((rd_T26 l0 x3_1).f2) ((rd_T26 l0 x3_1).f3)).bind fun t244 => (if t243 = t244 then ((word_Sar.f ((rd_T26 l0 x3_1).f0) ((rd_T26 l0 x3_1).f2) ((rd_T26 l0 x3_1).f3)).bind fun t245 => ((spindleref1_Sar.f kj5 ((rd_T26 l0 x3_1).f0) ((rd_T26 l0 x3_1).f2) ((rd_T26 l0 x3_1).f3)).bind fun t246 => (if t245 = t246 then (spindlelaw1_WordParts.l0 kj5 l0 (wrap64 (x3_1 + 1))) else (some false)))) else (some false)))) else (some false))) = some r := H
                  have A19 := Aside0.mk A190
                  clear A190
                  replace H := Option.bind_eq_some_iff.mp H
                  obtain ⟨t242, A200, H⟩ := H
                  replace H : (if t241 = t242 then ((word_Shr.f ((rd_T26 l0 x3_1).f0) ((rd_T26 l0 x3_1).f2) ((rd_T26 l0 x3_1).f3)).bind fun t243 => ((spindleref1_Shr.f kj5 ((rd_T26 l0 x3_1).f0) ((rd_T26 l0 x3_1).f2) ((rd_T26 l0 x3_1).f3)).bind fun t244 => (if t243 = t244 then ((word_Sar.f ((rd_T26 l0 x3_1).f0) ((rd_T26 l0 x3_1).f2) ((rd_T26 l0 x3_1).f3)).bind fun t245 => ((spindleref1_Sar.f kj5 ((rd_T26 l0 x3_1).f0) ((rd_T26 l0 x3_1).f2) ((rd_T26 l0 x3_1).f3)).bind fun t246 => (if t245 = t246 then (spindlelaw1_WordParts.l0 kj5 l0 (wrap64 (x3_1 + 1))) else (some false)))) else (some false)))) else (some false)) = some r := H
                  have A20 := Aside0.mk A200
                  clear A200
                  by_cases c21 : t241 = t242
                  · rw [if_pos c21] at H
                    have c21b0 : (t241 == t242) = true := beq_iff_eq.mpr c21
                    have c21b1 : (t241 != t242) = false := bne_eq_false_iff_eq.mpr c21
                    clear c21
                    replace H := Option.bind_eq_some_iff.mp H
                    obtain ⟨t243, A220, H⟩ := H
                    replace H : ((spindleref1_Shr.f kj5 ((rd_T26 l0 x3_1).f0) ((rd_T26 l0 x3_1).f2) ((rd_T26 l0 x3_1).f3)).bind fun t244 => (if t243 = t244 then ((word_Sar.f ((rd_T26 l0 x3_1).f0) ((rd_T26 l0 x3_1).f2) ((rd_T26 l0 x3_1).f3)).bind fun t245 => ((spindleref1_Sar.f kj5 ((rd_T26 l0 x3_1).f0) ((rd_T26 l0 x3_1).f2) ((rd_T26 l0 x3_1).f3)).bind fun t246 => (if t245 = t246 then (spindlelaw1_WordParts.l0 kj5 l0 (wrap64 (x3_1 + 1))) else (some false)))) else (some false))) = some r := H
                    have A22 := Aside0.mk A220
                    clear A220
                    replace H := Option.bind_eq_some_iff.mp H
                    obtain ⟨t244, A230, H⟩ := H
                    replace H : (if t243 = t244 then ((word_Sar.f ((rd_T26 l0 x3_1).f0) ((rd_T26 l0 x3_1).f2) ((rd_T26 l0 x3_1).f3)).bind fun t245 => ((spindleref1_Sar.f kj5 ((rd_T26 l0 x3_1).f0) ((rd_T26 l0 x3_1).f2) ((rd_T26 l0 x3_1).f3)).bind fun t246 => (if t245 = t246 then (spindlelaw1_WordParts.l0 kj5 l0 (wrap64 (x3_1 + 1))) else (some false)))) else (some false)) = some r := H
                    have A23 := Aside0.mk A230
                    clear A230
                    by_cases c24 : t243 = t244
                    · rw [if_pos c24] at H
                      have c24b0 : (t243 == t244) = true := beq_iff_eq.mpr c24
                      have c24b1 : (t243 != t244) = false := bne_eq_false_iff_eq.mpr c24
                      clear c24
                      replace H := Option.bind_eq_some_iff.mp H
                      obtain ⟨t245, A250, H⟩ := H
                      replace H : ((spindleref1_Sar.f kj5 ((rd_T26 l0 x3_1).f0) ((rd_T26 l0 x3_1).f2) ((rd_T26 l0 x3_1).f3)).bind fun t246 => (if t245 = t246 then (spindlelaw1_WordParts.l0 kj5 l0 (wrap64 (x3_1 + 1))) else (some false))) = some r := H
                      have A25 := Aside0.mk A250
                      clear A250
                      replace H := Option.bind_eq_some_iff.mp H
                      obtain ⟨t246, A260, H⟩ := H
                      replace H : (if t245 = t246 then (spindlelaw1_WordParts.l0 kj5 l0 (wrap64 (x3_1 + 1))) else (some false)) = some r := H
                      have A26 := Aside0.mk A260
                      clear A260
                      by_cases c27 : t245 = t246
                      · rw [if_pos c27] at H
                        have c27b0 : (t245 == t246) = true := beq_iff_eq.mpr c27
                        have c27b1 : (t245 != t246) = false := bne_eq_false_iff_eq.mpr c27
                        clear c27
                        have H' := Aside0.mk H
                        clear H
                        go_wp2_with (first | (go_at_call 39; (with_reducible refine (word_Shl.calls ((rd_T26 l0 x3_1).f0) ((rd_T26 l0 x3_1).f2) ((rd_T26 l0 x3_1).f3) t241 _ A19.out).mono ?_); rintro e w' ⟨rfl, ⟨nd, rfl⟩⟩) | (go_at_call 40; (with_reducible refine (spindleref1_Shl.calls kj5 ((rd_T26 l0 x3_1).f0) ((rd_T26 l0 x3_1).f2) ((rd_T26 l0 x3_1).f3) t242 _ A20.out).mono ?_); rintro e w' ⟨rfl, ⟨nd, rfl⟩⟩) | (go_at_call 41; (with_reducible refine (word_Shr.calls ((rd_T26 l0 x3_1).f0) ((rd_T26 l0 x3_1).f2) ((rd_T26 l0 x3_1).f3) t243 _ A22.out).mono ?_); rintro e w' ⟨rfl, ⟨nd, rfl⟩⟩) | (go_at_call 42; (with_reducible refine (spindleref1_Shr.calls kj5 ((rd_T26 l0 x3_1).f0) ((rd_T26 l0 x3_1).f2) ((rd_T26 l0 x3_1).f3) t244 _ A23.out).mono ?_); rintro e w' ⟨rfl, ⟨nd, rfl⟩⟩) | (go_at_call 43; (with_reducible refine (word_Sar.calls ((rd_T26 l0 x3_1).f0) ((rd_T26 l0 x3_1).f2) ((rd_T26 l0 x3_1).f3) t245 _ A25.out).mono ?_); rintro e w' ⟨rfl, ⟨nd, rfl⟩⟩) | (go_at_call 44; (with_reducible refine (spindleref1_Sar.calls kj5 ((rd_T26 l0 x3_1).f0) ((rd_T26 l0 x3_1).f2) ((rd_T26 l0 x3_1).f3) t246 _ A26.out).mono ?_); rintro e w' ⟨rfl, ⟨nd, rfl⟩⟩))
                        go_roundg kj5
                        case measure => have := HK1.out; have := HJ5.out; omega
                        case rel => exact ⟨(wrap64 (x3_1 + 1)), (by first | rfl | (simp; done) | (simp [*]; done)), H', ⟨by have := HK1.out; have := HJ5.out; omega⟩, by repeat (first | exact Drawn0.refl _ | apply Drawn0.step)⟩
                      · rw [if_neg c27] at H
                        have c27b0 : (t245 == t246) = false := beq_eq_false_iff_ne.mpr c27
                        have c27b1 : (t245 != t246) = true := bne_iff_ne.mpr c27
                        obtain rfl := Option.some.inj H
                        go_wp2_with (first | (go_at_call 39; (with_reducible refine (word_Shl.calls ((rd_T26 l0 x3_1).f0) ((rd_T26 l0 x3_1).f2) ((rd_T26 l0 x3_1).f3) t241 _ A19.out).mono ?_); rintro e w' ⟨rfl, ⟨nd, rfl⟩⟩) | (go_at_call 40; (with_reducible refine (spindleref1_Shl.calls kj5 ((rd_T26 l0 x3_1).f0) ((rd_T26 l0 x3_1).f2) ((rd_T26 l0 x3_1).f3) t242 _ A20.out).mono ?_); rintro e w' ⟨rfl, ⟨nd, rfl⟩⟩) | (go_at_call 41; (with_reducible refine (word_Shr.calls ((rd_T26 l0 x3_1).f0) ((rd_T26 l0 x3_1).f2) ((rd_T26 l0 x3_1).f3) t243 _ A22.out).mono ?_); rintro e w' ⟨rfl, ⟨nd, rfl⟩⟩) | (go_at_call 42; (with_reducible refine (spindleref1_Shr.calls kj5 ((rd_T26 l0 x3_1).f0) ((rd_T26 l0 x3_1).f2) ((rd_T26 l0 x3_1).f3) t244 _ A23.out).mono ?_); rintro e w' ⟨rfl, ⟨nd, rfl⟩⟩) | (go_at_call 43; (with_reducible refine (word_Sar.calls ((rd_T26 l0 x3_1).f0) ((rd_T26 l0 x3_1).f2) ((rd_T26 l0 x3_1).f3) t245 _ A25.out).mono ?_); rintro e w' ⟨rfl, ⟨nd, rfl⟩⟩) | (go_at_call 44; (with_reducible refine (spindleref1_Sar.calls kj5 ((rd_T26 l0 x3_1).f0) ((rd_T26 l0 x3_1).f2) ((rd_T26 l0 x3_1).f3) t246 _ A26.out).mono ?_); rintro e w' ⟨rfl, ⟨nd, rfl⟩⟩))
                        go_ret
                        exact ⟨by first | rfl | (simp; done) | (simp [*]; done), by repeat (first | exact Drawn0.refl _ | apply Drawn0.step)⟩
                    · rw [if_neg c24] at H
                      have c24b0 : (t243 == t244) = false := beq_eq_false_iff_ne.mpr c24
                      have c24b1 : (t243 != t244) = true := bne_iff_ne.mpr c24
                      obtain rfl := Option.some.inj H
                      go_wp2_with (first | (go_at_call 39; (with_reducible refine (word_Shl.calls ((rd_T26 l0 x3_1).f0) ((rd_T26 l0 x3_1).f2) ((rd_T26 l0 x3_1).f3) t241 _ A19.out).mono ?_); rintro e w' ⟨rfl, ⟨nd, rfl⟩⟩) | (go_at_call 40; (with_reducible refine (spindleref1_Shl.calls kj5 ((rd_T26 l0 x3_1).f0) ((rd_T26 l0 x3_1).f2) ((rd_T26 l0 x3_1).f3) t242 _ A20.out).mono ?_); rintro e w' ⟨rfl, ⟨nd, rfl⟩⟩) | (go_at_call 41; (with_reducible refine (word_Shr.calls ((rd_T26 l0 x3_1).f0) ((rd_T26 l0 x3_1).f2) ((rd_T26 l0 x3_1).f3) t243 _ A22.out).mono ?_); rintro e w' ⟨rfl, ⟨nd, rfl⟩⟩) | (go_at_call 42; (with_reducible refine (spindleref1_Shr.calls kj5 ((rd_T26 l0 x3_1).f0) ((rd_T26 l0 x3_1).f2) ((rd_T26 l0 x3_1).f3) t244 _ A23.out).mono ?_); rintro e w' ⟨rfl, ⟨nd, rfl⟩⟩))
                      go_ret
                      exact ⟨by first | rfl | (simp; done) | (simp [*]; done), by repeat (first | exact Drawn0.refl _ | apply Drawn0.step)⟩
                  · rw [if_neg c21] at H
                    have c21b0 : (t241 == t242) = false := beq_eq_false_iff_ne.mpr c21
                    have c21b1 : (t241 != t242) = true := bne_iff_ne.mpr c21
                    obtain rfl := Option.some.inj H
                    go_wp2_with (first | (go_at_call 39; (with_reducible refine (word_Shl.calls ((rd_T26 l0 x3_1).f0) ((rd_T26 l0 x3_1).f2) ((rd_T26 l0 x3_1).f3) t241 _ A19.out).mono ?_); rintro e w' ⟨rfl, ⟨nd, rfl⟩⟩) | (go_at_call 40; (with_reducible refine (spindleref1_Shl.calls kj5 ((rd_T26 l0 x3_1).f0) ((rd_T26 l0 x3_1).f2) ((rd_T26 l0 x3_1).f3) t242 _ A20.out).mono ?_); rintro e w' ⟨rfl, ⟨nd, rfl⟩⟩))
                    go_ret
                    exact ⟨by first | rfl | (simp; done) | (simp [*]; done), by repeat (first | exact Drawn0.refl _ | apply Drawn0.step)⟩
                · replace c18 := Bool.eq_false_iff.mpr c18
                  subst c18
                  have H1 : (some false) = some r := by rw [if_neg (show ¬ (false = true) by decide)] at H; exact H
                  clear H
                  have H := H1
                  clear H1
                  obtain rfl := Option.some.inj H
                  go_wp2
                  go_ret
                  exact ⟨by first | rfl | (simp; done) | (simp [*]; done), by repeat (first | exact Drawn0.refl _ | apply Drawn0.step)⟩
          · rw [if_neg c5] at H
            exact absurd H (by simp)
        · rw [if_neg c4] at H
          have c4b0 : decide (x3_1 < (l0.length : Int)) = false := decide_eq_false c4
          clear c4
          obtain rfl := Option.some.inj H
          go_wp2
          go_ret
          exact ⟨by first | rfl | (simp; done) | (simp [*]; done), by repeat (first | exact Drawn0.refl _ | apply Drawn0.step)⟩
  · replace c3 := Bool.eq_false_iff.mpr c3
    subst c3
    have H1 : (some false) = some r := by rw [if_neg (show ¬ (false = true) by decide)] at H; exact H
    clear H
    have H := H1
    clear H1
    obtain rfl := Option.some.inj H
    go_enter Try.func5, Try.ntmps5
    go_wp2_with (first | ((with_reducible refine gate_callee (f := 11) rfl ?_); refine goesL_ (some 9) rfl rfl Try.func11 (by kernel_rfl) rfl #[] rfl (by (try simp only [List.map_toArray, List.map_cons, List.map_nil]); first | done | rfl | (simp only [List.length_drop, List.length_take]; rfl)) ?_; (with_reducible refine (spindlelaw1_awake.calls k  false _ A2.out).mono ?_); rintro e w' ⟨rfl, ⟨nd, rfl⟩⟩; refine ⟨_, rfl, ?_⟩))
    go_ret
    exact ⟨by first | rfl | (simp; done) | (simp [*]; done), by repeat (first | exact Drawn0.refl _ | apply Drawn0.step)⟩

end Go.Proofs.Ytliijfogmendmaa.PW
