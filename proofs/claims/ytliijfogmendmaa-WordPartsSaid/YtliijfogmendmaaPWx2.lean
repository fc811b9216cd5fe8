-- Printed by this session's own program (wip/tools/myprint.py) over the kit's print; the parts that are marked 'by hand' are this session's.
import Derived.Test.YtliijfogmendmaaPWx0
import Derived.Test.YtliijfogmendmaaPWx1
namespace Go.Proofs.Ytliijfogmendmaa.PW
open Go.RowKit Go.Proofs.YtliijfogmendmaaW.PrintWords Go.Proofs.YtliijfogmendmaaW.PrintLast Go.Proofs.YtliijfogmendmaaW.PrintMore
attribute [local go_sem] max2_int min2_int max_two min_two max_three min_three max_four min_four   -- for this text's walks alone
set_option linter.unusedVariables false
set_option linter.unusedSimpArgs false

/-! ### word_SLess: function 29 -/
def word_SLess.f (a0 : Int) (a1 : Int) (a2 : Int) : Option (Bool) := (word_Sign.f a0 a2).bind fun t112 => ((word_Sign.f a1 a2).bind fun t113 => (some (decide ((wrap64 (t112)) < (wrap64 (t113))))))
set_option maxHeartbeats 8000000 in
set_option maxRecDepth 100000 in
theorem word_SLess.calls (a0 : Int) (a1 : Int) (a2 : Int) (r : Bool) (w : World) (h : word_SLess.f a0 a1 a2 = some r) :
    Calls Try.prog 29 #[.int .u64 a0, .int .u64 a1, .int .i64 a2] w fun e w' => e = .returned (.bool r) ∧ Drawn0 w w' := by
  have H : ((word_Sign.f a0 a2).bind fun t112 => ((word_Sign.f a1 a2).bind fun t113 => (some (decide ((wrap64 (t112)) < (wrap64 (t113))))))) = some r := h
  clear h
  replace H := Option.bind_eq_some_iff.mp H
  obtain ⟨t112, A40, H⟩ := H
  replace H : ((word_Sign.f a1 a2).bind fun t113 => (some (decide ((wrap64 (t112)) < (wrap64 (t113)))))) = some r := H
  have A4 := Aside0.mk A40
  clear A40
  replace H := Option.bind_eq_some_iff.mp H
  obtain ⟨t113, A50, H⟩ := H
  replace H : (some (decide ((wrap64 (t112)) < (wrap64 (t113))))) = some r := H
  have A5 := Aside0.mk A50
  clear A50
  obtain rfl := Option.some.inj H
  go_enter Try.func29, Try.ntmps29
  go_wp2_with (first | ((with_reducible refine gate_callee (f := 23) rfl ?_); refine goesL_ (some 9) rfl rfl Try.func23 (by kernel_rfl) rfl #[.int .u64 a0, .int .i64 a2] rfl (by (try simp only [List.map_toArray, List.map_cons, List.map_nil]); first | done | rfl | (simp only [List.length_drop, List.length_take]; rfl)) ?_; (with_reducible refine (word_Sign.calls a0 a2 t112 _ A4.out).mono ?_); rintro e w' ⟨rfl, ⟨nd, rfl⟩⟩; refine ⟨_, rfl, ?_⟩) | ((with_reducible refine gate_callee (f := 23) rfl ?_); refine goesL_ (some 13) rfl rfl Try.func23 (by kernel_rfl) rfl #[.int .u64 a1, .int .i64 a2] rfl (by (try simp only [List.map_toArray, List.map_cons, List.map_nil]); first | done | rfl | (simp only [List.length_drop, List.length_take]; rfl)) ?_; (with_reducible refine (word_Sign.calls a1 a2 t113 _ A5.out).mono ?_); rintro e w' ⟨rfl, ⟨nd, rfl⟩⟩; refine ⟨_, rfl, ?_⟩))
  go_ret
  exact ⟨by first | rfl | (simp; done) | (simp [*]; done), by repeat (first | exact Drawn0.refl _ | apply Drawn0.step)⟩

-- NOT PRINTED: function 57 (word_two)

/-! ### word_div_uint8: function 58 -/
def word_div_uint8.f (a0 : Int) (a1 : Int) : Option (Int) := if a1 = 0 then (some 0) else (some ((Int.tdiv a0 a1) % 256))
set_option maxHeartbeats 8000000 in
set_option maxRecDepth 100000 in
theorem word_div_uint8.calls (a0 : Int) (a1 : Int) (r : Int) (w : World) (h : word_div_uint8.f a0 a1 = some r) :
    Calls Try.prog 58 #[.int .u8 a0, .int .u8 a1] w fun e w' => e = .returned (.int .u8 r) ∧ Drawn0 w w' := by
  have H : (if a1 = 0 then (some 0) else (some ((Int.tdiv a0 a1) % 256))) = some r := h
  clear h
  by_cases c3 : a1 = 0
  · rw [if_pos c3] at H
    have c3b0 : (a1 == 0) = true := beq_iff_eq.mpr c3
    have c3b1 : (a1 != 0) = false := bne_eq_false_iff_eq.mpr c3
    clear c3
    obtain rfl := Option.some.inj H
    go_enter Try.func58, Try.ntmps58
    go_wp2
    go_ret
    exact ⟨by first | rfl | (simp; done) | (simp [*]; done), by repeat (first | exact Drawn0.refl _ | apply Drawn0.step)⟩
  · rw [if_neg c3] at H
    have c3b0 : (a1 == 0) = false := beq_eq_false_iff_ne.mpr c3
    have c3b1 : (a1 != 0) = true := bne_iff_ne.mpr c3
    obtain rfl := Option.some.inj H
    go_enter Try.func58, Try.ntmps58
    go_wp2
    go_ret
    exact ⟨by first | rfl | (simp; done) | (simp [*]; done), by repeat (first | exact Drawn0.refl _ | apply Drawn0.step)⟩

/-! ### word_div_uint16: function 59 -/
def word_div_uint16.f (a0 : Int) (a1 : Int) : Option (Int) := if a1 = 0 then (some 0) else (some (IntKind.u16.wrap (Int.tdiv a0 a1)))
set_option maxHeartbeats 8000000 in
set_option maxRecDepth 100000 in
theorem word_div_uint16.calls (a0 : Int) (a1 : Int) (r : Int) (w : World) (h : word_div_uint16.f a0 a1 = some r) :
    Calls Try.prog 59 #[.int .u16 a0, .int .u16 a1] w fun e w' => e = .returned (.int .u16 r) ∧ Drawn0 w w' := by
  have H : (if a1 = 0 then (some 0) else (some (IntKind.u16.wrap (Int.tdiv a0 a1)))) = some r := h
  clear h
  by_cases c3 : a1 = 0
  · rw [if_pos c3] at H
    have c3b0 : (a1 == 0) = true := beq_iff_eq.mpr c3
    have c3b1 : (a1 != 0) = false := bne_eq_false_iff_eq.mpr c3
    clear c3
    obtain rfl := Option.some.inj H
    go_enter Try.func59, Try.ntmps59
    go_wp2
    go_ret
    exact ⟨by first | rfl | (simp; done) | (simp [*]; done), by repeat (first | exact Drawn0.refl _ | apply Drawn0.step)⟩
  · rw [if_neg c3] at H
    have c3b0 : (a1 == 0) = false := beq_eq_false_iff_ne.mpr c3
    have c3b1 : (a1 != 0) = true := bne_iff_ne.mpr c3
    obtain rfl := Option.some.inj H
    go_enter Try.func59, Try.ntmps59
    go_wp2
    go_ret
    exact ⟨by first | rfl | (simp; done) | (simp [*]; done), by repeat (first | exact Drawn0.refl _ | apply Drawn0.step)⟩

/-! ### word_div_uint32: function 60 -/
def word_div_uint32.f (a0 : Int) (a1 : Int) : Option (Int) := if a1 = 0 then (some 0) else (some ((Int.tdiv a0 a1) % 4294967296))
set_option maxHeartbeats 8000000 in
set_option maxRecDepth 100000 in
theorem word_div_uint32.calls (a0 : Int) (a1 : Int) (r : Int) (w : World) (h : word_div_uint32.f a0 a1 = some r) :
    Calls Try.prog 60 #[.int .u32 a0, .int .u32 a1] w fun e w' => e = .returned (.int .u32 r) ∧ Drawn0 w w' := by
  have H : (if a1 = 0 then (some 0) else (some ((Int.tdiv a0 a1) % 4294967296))) = some r := h
  clear h
  by_cases c3 : a1 = 0
  · rw [if_pos c3] at H
    have c3b0 : (a1 == 0) = true := beq_iff_eq.mpr c3
    have c3b1 : (a1 != 0) = false := bne_eq_false_iff_eq.mpr c3
    clear c3
    obtain rfl := Option.some.inj H
    go_enter Try.func60, Try.ntmps60
    go_wp2
    go_ret
    exact ⟨by first | rfl | (simp; done) | (simp [*]; done), by repeat (first | exact Drawn0.refl _ | apply Drawn0.step)⟩
  · rw [if_neg c3] at H
    have c3b0 : (a1 == 0) = false := beq_eq_false_iff_ne.mpr c3
    have c3b1 : (a1 != 0) = true := bne_iff_ne.mpr c3
    obtain rfl := Option.some.inj H
    go_enter Try.func60, Try.ntmps60
    go_wp2
    go_ret
    exact ⟨by first | rfl | (simp; done) | (simp [*]; done), by repeat (first | exact Drawn0.refl _ | apply Drawn0.step)⟩

/-! ### word_div_uint64: function 61 -/
def word_div_uint64.f (a0 : Int) (a1 : Int) : Option (Int) := if a1 = 0 then (some 0) else (some (IntKind.u64.wrap (Int.tdiv a0 a1)))
set_option maxHeartbeats 8000000 in
set_option maxRecDepth 100000 in
theorem word_div_uint64.calls (a0 : Int) (a1 : Int) (r : Int) (w : World) (h : word_div_uint64.f a0 a1 = some r) :
    Calls Try.prog 61 #[.int .u64 a0, .int .u64 a1] w fun e w' => e = .returned (.int .u64 r) ∧ Drawn0 w w' := by
  have H : (if a1 = 0 then (some 0) else (some (IntKind.u64.wrap (Int.tdiv a0 a1)))) = some r := h
  clear h
  by_cases c3 : a1 = 0
  · rw [if_pos c3] at H
    have c3b0 : (a1 == 0) = true := beq_iff_eq.mpr c3
    have c3b1 : (a1 != 0) = false := bne_eq_false_iff_eq.mpr c3
    clear c3
    obtain rfl := Option.some.inj H
    go_enter Try.func61, Try.ntmps61
    go_wp2
    go_ret
    exact ⟨by first | rfl | (simp; done) | (simp [*]; done), by repeat (first | exact Drawn0.refl _ | apply Drawn0.step)⟩
  · rw [if_neg c3] at H
    have c3b0 : (a1 == 0) = false := beq_eq_false_iff_ne.mpr c3
    have c3b1 : (a1 != 0) = true := bne_iff_ne.mpr c3
    obtain rfl := Option.some.inj H
    go_enter Try.func61, Try.ntmps61
    go_wp2
    go_ret
    exact ⟨by first | rfl | (simp; done) | (simp [*]; done), by repeat (first | exact Drawn0.refl _ | apply Drawn0.step)⟩

/-! ### word_Div: function 31 -/
def word_Div.f (a0 : Int) (a1 : Int) (a2 : Int) : Option (Int) := if a2 = 8 then ((word_div_uint8.f ((a0) % 256) ((a1) % 256)).bind fun t_ => some (IntKind.u64.wrap t_)) else if a2 = 16 then ((word_div_uint16.f (IntKind.u16.wrap (a0)) (IntKind.u16.wrap (a1))).bind fun t_ => some (IntKind.u64.wrap t_)) else if a2 = 32 then ((word_div_uint32.f ((a0) % 4294967296) ((a1) % 4294967296)).bind fun t_ => some (IntKind.u64.wrap t_)) else word_div_uint64.f a0 a1
set_option maxHeartbeats 8000000 in
set_option maxRecDepth 100000 in
theorem word_Div.calls (a0 : Int) (a1 : Int) (a2 : Int) (r : Int) (w : World) (h : word_Div.f a0 a1 a2 = some r) :
    Calls Try.prog 31 #[.int .u64 a0, .int .u64 a1, .int .i64 a2] w fun e w' => e = .returned (.int .u64 r) ∧ Drawn0 w w' := by
  unfold word_Div.f at h
  by_cases c8 : a2 = 8
  · rw [if_pos c8] at h
    have c8b : (a2 == 8) = true := beq_iff_eq.mpr c8
    clear c8
    obtain ⟨t_, ht, h⟩ := Option.bind_eq_some_iff.mp h
    obtain rfl := Option.some.inj h
    have ht' := Aside0.mk ht
    clear h ht
    go_enter Try.func31, Try.ntmps31
    go_wp2_with (first | (go_at_call 57; go_in) | (go_at_call 58; refine (word_div_uint8.calls _ _ _ _ ht'.out).mono ?_; rintro e w' ⟨rfl, ⟨nd, rfl⟩⟩))
    go_ret
    exact ⟨by first | rfl | (simp; done) | (simp [*]; done), by repeat (first | exact Drawn0.refl _ | apply Drawn0.step)⟩
  · rw [if_neg c8] at h
    have c8b : (a2 == 8) = false := beq_eq_false_iff_ne.mpr c8
    clear c8
    by_cases c16 : a2 = 16
    · rw [if_pos c16] at h
      have c16b : (a2 == 16) = true := beq_iff_eq.mpr c16
      clear c16
      obtain ⟨t_, ht, h⟩ := Option.bind_eq_some_iff.mp h
      obtain rfl := Option.some.inj h
      have ht' := Aside0.mk ht
      clear h ht
      go_enter Try.func31, Try.ntmps31
      go_wp2_with (first | (go_at_call 57; go_in) | (go_at_call 59; refine (word_div_uint16.calls _ _ _ _ ht'.out).mono ?_; rintro e w' ⟨rfl, ⟨nd, rfl⟩⟩))
      go_ret
      exact ⟨by first | rfl | (simp; done) | (simp [*]; done), by repeat (first | exact Drawn0.refl _ | apply Drawn0.step)⟩
    · rw [if_neg c16] at h
      have c16b : (a2 == 16) = false := beq_eq_false_iff_ne.mpr c16
      clear c16
      by_cases c32 : a2 = 32
      · rw [if_pos c32] at h
        have c32b : (a2 == 32) = true := beq_iff_eq.mpr c32
        clear c32
        obtain ⟨t_, ht, h⟩ := Option.bind_eq_some_iff.mp h
        obtain rfl := Option.some.inj h
        have ht' := Aside0.mk ht
        clear h ht
        go_enter Try.func31, Try.ntmps31
        go_wp2_with (first | (go_at_call 57; go_in) | (go_at_call 60; refine (word_div_uint32.calls _ _ _ _ ht'.out).mono ?_; rintro e w' ⟨rfl, ⟨nd, rfl⟩⟩))
        go_ret
        exact ⟨by first | rfl | (simp; done) | (simp [*]; done), by repeat (first | exact Drawn0.refl _ | apply Drawn0.step)⟩
      · rw [if_neg c32] at h
        have c32b : (a2 == 32) = false := beq_eq_false_iff_ne.mpr c32
        clear c32
        have ht' := Aside0.mk h
        clear h
        go_enter Try.func31, Try.ntmps31
        go_wp2_with (first | (go_at_call 57; go_in) | (go_at_call 61; refine (word_div_uint64.calls _ _ _ _ ht'.out).mono ?_; rintro e w' ⟨rfl, ⟨nd, rfl⟩⟩))
        go_ret
        exact ⟨by first | rfl | (simp; done) | (simp [*]; done), by repeat (first | exact Drawn0.refl _ | apply Drawn0.step)⟩

/-! ### word_mod_uint8: function 63 -/
def word_mod_uint8.f (a0 : Int) (a1 : Int) : Option (Int) := if a1 = 0 then (some a0) else (some (Int.tmod a0 a1))
set_option maxHeartbeats 8000000 in
set_option maxRecDepth 100000 in
theorem word_mod_uint8.calls (a0 : Int) (a1 : Int) (r : Int) (w : World) (h : word_mod_uint8.f a0 a1 = some r) :
    Calls Try.prog 63 #[.int .u8 a0, .int .u8 a1] w fun e w' => e = .returned (.int .u8 r) ∧ Drawn0 w w' := by
  have H : (if a1 = 0 then (some a0) else (some (Int.tmod a0 a1))) = some r := h
  clear h
  by_cases c3 : a1 = 0
  · rw [if_pos c3] at H
    have c3b0 : (a1 == 0) = true := beq_iff_eq.mpr c3
    have c3b1 : (a1 != 0) = false := bne_eq_false_iff_eq.mpr c3
    clear c3
    obtain rfl := Option.some.inj H
    go_enter Try.func63, Try.ntmps63
    go_wp2
    go_ret
    exact ⟨by first | rfl | (simp; done) | (simp [*]; done), by repeat (first | exact Drawn0.refl _ | apply Drawn0.step)⟩
  · rw [if_neg c3] at H
    have c3b0 : (a1 == 0) = false := beq_eq_false_iff_ne.mpr c3
    have c3b1 : (a1 != 0) = true := bne_iff_ne.mpr c3
    obtain rfl := Option.some.inj H
    go_enter Try.func63, Try.ntmps63
    go_wp2
    go_ret
    exact ⟨by first | rfl | (simp; done) | (simp [*]; done), by repeat (first | exact Drawn0.refl _ | apply Drawn0.step)⟩

/-! ### word_mod_uint16: function 64 -/
def word_mod_uint16.f (a0 : Int) (a1 : Int) : Option (Int) := if a1 = 0 then (some a0) else (some (Int.tmod a0 a1))
set_option maxHeartbeats 8000000 in
set_option maxRecDepth 100000 in
theorem word_mod_uint16.calls (a0 : Int) (a1 : Int) (r : Int) (w : World) (h : word_mod_uint16.f a0 a1 = some r) :
    Calls Try.prog 64 #[.int .u16 a0, .int .u16 a1] w fun e w' => e = .returned (.int .u16 r) ∧ Drawn0 w w' := by
  have H : (if a1 = 0 then (some a0) else (some (Int.tmod a0 a1))) = some r := h
  clear h
  by_cases c3 : a1 = 0
  · rw [if_pos c3] at H
    have c3b0 : (a1 == 0) = true := beq_iff_eq.mpr c3
    have c3b1 : (a1 != 0) = false := bne_eq_false_iff_eq.mpr c3
    clear c3
    obtain rfl := Option.some.inj H
    go_enter Try.func64, Try.ntmps64
    go_wp2
    go_ret
    exact ⟨by first | rfl | (simp; done) | (simp [*]; done), by repeat (first | exact Drawn0.refl _ | apply Drawn0.step)⟩
  · rw [if_neg c3] at H
    have c3b0 : (a1 == 0) = false := beq_eq_false_iff_ne.mpr c3
    have c3b1 : (a1 != 0) = true := bne_iff_ne.mpr c3
    obtain rfl := Option.some.inj H
    go_enter Try.func64, Try.ntmps64
    go_wp2
    go_ret
    exact ⟨by first | rfl | (simp; done) | (simp [*]; done), by repeat (first | exact Drawn0.refl _ | apply Drawn0.step)⟩

/-! ### word_mod_uint32: function 65 -/
def word_mod_uint32.f (a0 : Int) (a1 : Int) : Option (Int) := if a1 = 0 then (some a0) else (some (Int.tmod a0 a1))
set_option maxHeartbeats 8000000 in
set_option maxRecDepth 100000 in
theorem word_mod_uint32.calls (a0 : Int) (a1 : Int) (r : Int) (w : World) (h : word_mod_uint32.f a0 a1 = some r) :
    Calls Try.prog 65 #[.int .u32 a0, .int .u32 a1] w fun e w' => e = .returned (.int .u32 r) ∧ Drawn0 w w' := by
  have H : (if a1 = 0 then (some a0) else (some (Int.tmod a0 a1))) = some r := h
  clear h
  by_cases c3 : a1 = 0
  · rw [if_pos c3] at H
    have c3b0 : (a1 == 0) = true := beq_iff_eq.mpr c3
    have c3b1 : (a1 != 0) = false := bne_eq_false_iff_eq.mpr c3
    clear c3
    obtain rfl := Option.some.inj H
    go_enter Try.func65, Try.ntmps65
    go_wp2
    go_ret
    exact ⟨by first | rfl | (simp; done) | (simp [*]; done), by repeat (first | exact Drawn0.refl _ | apply Drawn0.step)⟩
  · rw [if_neg c3] at H
    have c3b0 : (a1 == 0) = false := beq_eq_false_iff_ne.mpr c3
    have c3b1 : (a1 != 0) = true := bne_iff_ne.mpr c3
    obtain rfl := Option.some.inj H
    go_enter Try.func65, Try.ntmps65
    go_wp2
    go_ret
    exact ⟨by first | rfl | (simp; done) | (simp [*]; done), by repeat (first | exact Drawn0.refl _ | apply Drawn0.step)⟩

/-! ### word_mod_uint64: function 66 -/
def word_mod_uint64.f (a0 : Int) (a1 : Int) : Option (Int) := if a1 = 0 then (some a0) else (some (Int.tmod a0 a1))
set_option maxHeartbeats 8000000 in
set_option maxRecDepth 100000 in
theorem word_mod_uint64.calls (a0 : Int) (a1 : Int) (r : Int) (w : World) (h : word_mod_uint64.f a0 a1 = some r) :
    Calls Try.prog 66 #[.int .u64 a0, .int .u64 a1] w fun e w' => e = .returned (.int .u64 r) ∧ Drawn0 w w' := by
  have H : (if a1 = 0 then (some a0) else (some (Int.tmod a0 a1))) = some r := h
  clear h
  by_cases c3 : a1 = 0
  · rw [if_pos c3] at H
    have c3b0 : (a1 == 0) = true := beq_iff_eq.mpr c3
    have c3b1 : (a1 != 0) = false := bne_eq_false_iff_eq.mpr c3
    clear c3
    obtain rfl := Option.some.inj H
    go_enter Try.func66, Try.ntmps66
    go_wp2
    go_ret
    exact ⟨by first | rfl | (simp; done) | (simp [*]; done), by repeat (first | exact Drawn0.refl _ | apply Drawn0.step)⟩
  · rw [if_neg c3] at H
    have c3b0 : (a1 == 0) = false := beq_eq_false_iff_ne.mpr c3
    have c3b1 : (a1 != 0) = true := bne_iff_ne.mpr c3
    obtain rfl := Option.some.inj H
    go_enter Try.func66, Try.ntmps66
    go_wp2
    go_ret
    exact ⟨by first | rfl | (simp; done) | (simp [*]; done), by repeat (first | exact Drawn0.refl _ | apply Drawn0.step)⟩

/-! ### word_Mod: function 33 -/
def word_Mod.f (a0 : Int) (a1 : Int) (a2 : Int) : Option (Int) := if a2 = 8 then ((word_mod_uint8.f ((a0) % 256) ((a1) % 256)).bind fun t_ => some (IntKind.u64.wrap t_)) else if a2 = 16 then ((word_mod_uint16.f (IntKind.u16.wrap (a0)) (IntKind.u16.wrap (a1))).bind fun t_ => some (IntKind.u64.wrap t_)) else if a2 = 32 then ((word_mod_uint32.f ((a0) % 4294967296) ((a1) % 4294967296)).bind fun t_ => some (IntKind.u64.wrap t_)) else word_mod_uint64.f a0 a1
set_option maxHeartbeats 8000000 in
set_option maxRecDepth 100000 in
theorem word_Mod.calls (a0 : Int) (a1 : Int) (a2 : Int) (r : Int) (w : World) (h : word_Mod.f a0 a1 a2 = some r) :
    Calls Try.prog 33 #[.int .u64 a0, .int .u64 a1, .int .i64 a2] w fun e w' => e = .returned (.int .u64 r) ∧ Drawn0 w w' := by
  unfold word_Mod.f at h
  by_cases c8 : a2 = 8
  · rw [if_pos c8] at h
    have c8b : (a2 == 8) = true := beq_iff_eq.mpr c8
    clear c8
    obtain ⟨t_, ht, h⟩ := Option.bind_eq_some_iff.mp h
    obtain rfl := Option.some.inj h
    have ht' := Aside0.mk ht
    clear h ht
    go_enter Try.func33, Try.ntmps33
    go_wp2_with (first | (go_at_call 57; go_in) | (go_at_call 63; refine (word_mod_uint8.calls _ _ _ _ ht'.out).mono ?_; rintro e w' ⟨rfl, ⟨nd, rfl⟩⟩))
    go_ret
    exact ⟨by first | rfl | (simp; done) | (simp [*]; done), by repeat (first | exact Drawn0.refl _ | apply Drawn0.step)⟩
  · rw [if_neg c8] at h
    have c8b : (a2 == 8) = false := beq_eq_false_iff_ne.mpr c8
    clear c8
    by_cases c16 : a2 = 16
    · rw [if_pos c16] at h
      have c16b : (a2 == 16) = true := beq_iff_eq.mpr c16
      clear c16
      obtain ⟨t_, ht, h⟩ := Option.bind_eq_some_iff.mp h
      obtain rfl := Option.some.inj h
      have ht' := Aside0.mk ht
      clear h ht
      go_enter Try.func33, Try.ntmps33
      go_wp2_with (first | (go_at_call 57; go_in) | (go_at_call 64; refine (word_mod_uint16.calls _ _ _ _ ht'.out).mono ?_; rintro e w' ⟨rfl, ⟨nd, rfl⟩⟩))
      go_ret
      exact ⟨by first | rfl | (simp; done) | (simp [*]; done), by repeat (first | exact Drawn0.refl _ | apply Drawn0.step)⟩
    · rw [if_neg c16] at h
      have c16b : (a2 == 16) = false := beq_eq_false_iff_ne.mpr c16
      clear c16
      by_cases c32 : a2 = 32
      · rw [if_pos c32] at h
        have c32b : (a2 == 32) = true := beq_iff_eq.mpr c32
        clear c32
        obtain ⟨t_, ht, h⟩ := Option.bind_eq_some_iff.mp h
        obtain rfl := Option.some.inj h
        have ht' := Aside0.mk ht
        clear h ht
        go_enter Try.func33, Try.ntmps33
        go_wp2_with (first | (go_at_call 57; go_in) | (go_at_call 65; refine (word_mod_uint32.calls _ _ _ _ ht'.out).mono ?_; rintro e w' ⟨rfl, ⟨nd, rfl⟩⟩))
        go_ret
        exact ⟨by first | rfl | (simp; done) | (simp [*]; done), by repeat (first | exact Drawn0.refl _ | apply Drawn0.step)⟩
      · rw [if_neg c32] at h
        have c32b : (a2 == 32) = false := beq_eq_false_iff_ne.mpr c32
        clear c32
        have ht' := Aside0.mk h
        clear h
        go_enter Try.func33, Try.ntmps33
        go_wp2_with (first | (go_at_call 57; go_in) | (go_at_call 66; refine (word_mod_uint64.calls _ _ _ _ ht'.out).mono ?_; rintro e w' ⟨rfl, ⟨nd, rfl⟩⟩))
        go_ret
        exact ⟨by first | rfl | (simp; done) | (simp [*]; done), by repeat (first | exact Drawn0.refl _ | apply Drawn0.step)⟩

/-! ### word_sdiv_uint8_int8: function 67 -/
def word_sdiv_uint8_int8.f (a0 : Int) (a1 : Int) : Option (Int) := if (IntKind.i8.wrap (a1)) = 0 then (some 0) else (if (IntKind.i8.wrap (a1)) = (-1) then (some ((-a0) % 256)) else (some ((IntKind.i8.wrap (Int.tdiv (IntKind.i8.wrap (a0)) (IntKind.i8.wrap (a1)))) % 256)))
set_option maxHeartbeats 8000000 in
set_option maxRecDepth 100000 in
theorem word_sdiv_uint8_int8.calls (a0 : Int) (a1 : Int) (r : Int) (w : World) (h : word_sdiv_uint8_int8.f a0 a1 = some r) :
    Calls Try.prog 67 #[.int .u8 a0, .int .u8 a1] w fun e w' => e = .returned (.int .u8 r) ∧ Drawn0 w w' := by
  have H : (if (IntKind.i8.wrap (a1)) = 0 then (some 0) else (if (IntKind.i8.wrap (a1)) = (-1) then (some ((-a0) % 256)) else (some ((IntKind.i8.wrap (Int.tdiv (IntKind.i8.wrap (a0)) (IntKind.i8.wrap (a1)))) % 256)))) = some r := h
  clear h
  by_cases c3 : (IntKind.i8.wrap (a1)) = 0
  · rw [if_pos c3] at H
    have c3b0 : ((IntKind.i8.wrap (a1)) == 0) = true := beq_iff_eq.mpr c3
    have c3b1 : ((IntKind.i8.wrap (a1)) != 0) = false := bne_eq_false_iff_eq.mpr c3
    clear c3
    obtain rfl := Option.some.inj H
    go_enter Try.func67, Try.ntmps67
    go_wp2
    go_ret
    exact ⟨by first | rfl | (simp; done) | (simp [*]; done), by repeat (first | exact Drawn0.refl _ | apply Drawn0.step)⟩
  · rw [if_neg c3] at H
    have c3b0 : ((IntKind.i8.wrap (a1)) == 0) = false := beq_eq_false_iff_ne.mpr c3
    have c3b1 : ((IntKind.i8.wrap (a1)) != 0) = true := bne_iff_ne.mpr c3
    by_cases c4 : (IntKind.i8.wrap (a1)) = (-1)
    · rw [if_pos c4] at H
      have c4b0 : ((IntKind.i8.wrap (a1)) == (-1)) = true := beq_iff_eq.mpr c4
      have c4b1 : ((IntKind.i8.wrap (a1)) != (-1)) = false := bne_eq_false_iff_eq.mpr c4
      clear c4
      obtain rfl := Option.some.inj H
      go_enter Try.func67, Try.ntmps67
      go_wp2
      go_ret
      exact ⟨by first | rfl | (simp; done) | (simp [*]; done), by repeat (first | exact Drawn0.refl _ | apply Drawn0.step)⟩
    · rw [if_neg c4] at H
      have c4b0 : ((IntKind.i8.wrap (a1)) == (-1)) = false := beq_eq_false_iff_ne.mpr c4
      have c4b1 : ((IntKind.i8.wrap (a1)) != (-1)) = true := bne_iff_ne.mpr c4
      obtain rfl := Option.some.inj H
      go_enter Try.func67, Try.ntmps67
      go_wp2
      go_ret
      exact ⟨by first | rfl | (simp; done) | (simp [*]; done), by repeat (first | exact Drawn0.refl _ | apply Drawn0.step)⟩

/-! ### word_sdiv_uint16_int16: function 68 -/
def word_sdiv_uint16_int16.f (a0 : Int) (a1 : Int) : Option (Int) := if (IntKind.i16.wrap (a1)) = 0 then (some 0) else (if (IntKind.i16.wrap (a1)) = (-1) then (some (IntKind.u16.wrap (-a0))) else (some (IntKind.u16.wrap (IntKind.i16.wrap (Int.tdiv (IntKind.i16.wrap (a0)) (IntKind.i16.wrap (a1)))))))
set_option maxHeartbeats 8000000 in
set_option maxRecDepth 100000 in
theorem word_sdiv_uint16_int16.calls (a0 : Int) (a1 : Int) (r : Int) (w : World) (h : word_sdiv_uint16_int16.f a0 a1 = some r) :
    Calls Try.prog 68 #[.int .u16 a0, .int .u16 a1] w fun e w' => e = .returned (.int .u16 r) ∧ Drawn0 w w' := by
  have H : (if (IntKind.i16.wrap (a1)) = 0 then (some 0) else (if (IntKind.i16.wrap (a1)) = (-1) then (some (IntKind.u16.wrap (-a0))) else (some (IntKind.u16.wrap (IntKind.i16.wrap (Int.tdiv (IntKind.i16.wrap (a0)) (IntKind.i16.wrap (a1)))))))) = some r := h
  clear h
  by_cases c3 : (IntKind.i16.wrap (a1)) = 0
  · rw [if_pos c3] at H
    have c3b0 : ((IntKind.i16.wrap (a1)) == 0) = true := beq_iff_eq.mpr c3
    have c3b1 : ((IntKind.i16.wrap (a1)) != 0) = false := bne_eq_false_iff_eq.mpr c3
    clear c3
    obtain rfl := Option.some.inj H
    go_enter Try.func68, Try.ntmps68
    go_wp2
    go_ret
    exact ⟨by first | rfl | (simp; done) | (simp [*]; done), by repeat (first | exact Drawn0.refl _ | apply Drawn0.step)⟩
  · rw [if_neg c3] at H
    have c3b0 : ((IntKind.i16.wrap (a1)) == 0) = false := beq_eq_false_iff_ne.mpr c3
    have c3b1 : ((IntKind.i16.wrap (a1)) != 0) = true := bne_iff_ne.mpr c3
    by_cases c4 : (IntKind.i16.wrap (a1)) = (-1)
    · rw [if_pos c4] at H
      have c4b0 : ((IntKind.i16.wrap (a1)) == (-1)) = true := beq_iff_eq.mpr c4
      have c4b1 : ((IntKind.i16.wrap (a1)) != (-1)) = false := bne_eq_false_iff_eq.mpr c4
      clear c4
      obtain rfl := Option.some.inj H
      go_enter Try.func68, Try.ntmps68
      go_wp2
      go_ret
      exact ⟨by first | rfl | (simp; done) | (simp [*]; done), by repeat (first | exact Drawn0.refl _ | apply Drawn0.step)⟩
    · rw [if_neg c4] at H
      have c4b0 : ((IntKind.i16.wrap (a1)) == (-1)) = false := beq_eq_false_iff_ne.mpr c4
      have c4b1 : ((IntKind.i16.wrap (a1)) != (-1)) = true := bne_iff_ne.mpr c4
      obtain rfl := Option.some.inj H
      go_enter Try.func68, Try.ntmps68
      go_wp2
      go_ret
      exact ⟨by first | rfl | (simp; done) | (simp [*]; done), by repeat (first | exact Drawn0.refl _ | apply Drawn0.step)⟩

/-! ### word_sdiv_uint32_int32: function 69 -/
def word_sdiv_uint32_int32.f (a0 : Int) (a1 : Int) : Option (Int) := if (wrap32 (a1)) = 0 then (some 0) else (if (wrap32 (a1)) = (-1) then (some ((-a0) % 4294967296)) else (some ((wrap32 (Int.tdiv (wrap32 (a0)) (wrap32 (a1)))) % 4294967296)))
set_option maxHeartbeats 8000000 in
set_option maxRecDepth 100000 in
theorem word_sdiv_uint32_int32.calls (a0 : Int) (a1 : Int) (r : Int) (w : World) (h : word_sdiv_uint32_int32.f a0 a1 = some r) :
    Calls Try.prog 69 #[.int .u32 a0, .int .u32 a1] w fun e w' => e = .returned (.int .u32 r) ∧ Drawn0 w w' := by
  have H : (if (wrap32 (a1)) = 0 then (some 0) else (if (wrap32 (a1)) = (-1) then (some ((-a0) % 4294967296)) else (some ((wrap32 (Int.tdiv (wrap32 (a0)) (wrap32 (a1)))) % 4294967296)))) = some r := h
  clear h
  by_cases c3 : (wrap32 (a1)) = 0
  · rw [if_pos c3] at H
    have c3b0 : ((wrap32 (a1)) == 0) = true := beq_iff_eq.mpr c3
    have c3b1 : ((wrap32 (a1)) != 0) = false := bne_eq_false_iff_eq.mpr c3
    clear c3
    obtain rfl := Option.some.inj H
    go_enter Try.func69, Try.ntmps69
    go_wp2
    go_ret
    exact ⟨by first | rfl | (simp; done) | (simp [*]; done), by repeat (first | exact Drawn0.refl _ | apply Drawn0.step)⟩
  · rw [if_neg c3] at H
    have c3b0 : ((wrap32 (a1)) == 0) = false := beq_eq_false_iff_ne.mpr c3
    have c3b1 : ((wrap32 (a1)) != 0) = true := bne_iff_ne.mpr c3
    by_cases c4 : (wrap32 (a1)) = (-1)
    · rw [if_pos c4] at H
      have c4b0 : ((wrap32 (a1)) == (-1)) = true := beq_iff_eq.mpr c4
      have c4b1 : ((wrap32 (a1)) != (-1)) = false := bne_eq_false_iff_eq.mpr c4
      clear c4
      obtain rfl := Option.some.inj H
      go_enter Try.func69, Try.ntmps69
      go_wp2
      go_ret
      exact ⟨by first | rfl | (simp; done) | (simp [*]; done), by repeat (first | exact Drawn0.refl _ | apply Drawn0.step)⟩
    · rw [if_neg c4] at H
      have c4b0 : ((wrap32 (a1)) == (-1)) = false := beq_eq_false_iff_ne.mpr c4
      have c4b1 : ((wrap32 (a1)) != (-1)) = true := bne_iff_ne.mpr c4
      obtain rfl := Option.some.inj H
      go_enter Try.func69, Try.ntmps69
      go_wp2
      go_ret
      exact ⟨by first | rfl | (simp; done) | (simp [*]; done), by repeat (first | exact Drawn0.refl _ | apply Drawn0.step)⟩

/-! ### word_sdiv_uint64_int64: function 70 -/
def word_sdiv_uint64_int64.f (a0 : Int) (a1 : Int) : Option (Int) := if (wrap64 (a1)) = 0 then (some 0) else (if (wrap64 (a1)) = (-1) then (some (IntKind.u64.wrap (-a0))) else (some (IntKind.u64.wrap (wrap64 (Int.tdiv (wrap64 (a0)) (wrap64 (a1)))))))
set_option maxHeartbeats 8000000 in
set_option maxRecDepth 100000 in
theorem word_sdiv_uint64_int64.calls (a0 : Int) (a1 : Int) (r : Int) (w : World) (h : word_sdiv_uint64_int64.f a0 a1 = some r) :
    Calls Try.prog 70 #[.int .u64 a0, .int .u64 a1] w fun e w' => e = .returned (.int .u64 r) ∧ Drawn0 w w' := by
  have H : (if (wrap64 (a1)) = 0 then (some 0) else (if (wrap64 (a1)) = (-1) then (some (IntKind.u64.wrap (-a0))) else (some (IntKind.u64.wrap (wrap64 (Int.tdiv (wrap64 (a0)) (wrap64 (a1)))))))) = some r := h
  clear h
  by_cases c3 : (wrap64 (a1)) = 0
  · rw [if_pos c3] at H
    have c3b0 : ((wrap64 (a1)) == 0) = true := beq_iff_eq.mpr c3
    have c3b1 : ((wrap64 (a1)) != 0) = false := bne_eq_false_iff_eq.mpr c3
    clear c3
    obtain rfl := Option.some.inj H
    go_enter Try.func70, Try.ntmps70
    go_wp2
    go_ret
    exact ⟨by first | rfl | (simp; done) | (simp [*]; done), by repeat (first | exact Drawn0.refl _ | apply Drawn0.step)⟩
  · rw [if_neg c3] at H
    have c3b0 : ((wrap64 (a1)) == 0) = false := beq_eq_false_iff_ne.mpr c3
    have c3b1 : ((wrap64 (a1)) != 0) = true := bne_iff_ne.mpr c3
    by_cases c4 : (wrap64 (a1)) = (-1)
    · rw [if_pos c4] at H
      have c4b0 : ((wrap64 (a1)) == (-1)) = true := beq_iff_eq.mpr c4
      have c4b1 : ((wrap64 (a1)) != (-1)) = false := bne_eq_false_iff_eq.mpr c4
      clear c4
      obtain rfl := Option.some.inj H
      go_enter Try.func70, Try.ntmps70
      go_wp2
      go_ret
      exact ⟨by first | rfl | (simp; done) | (simp [*]; done), by repeat (first | exact Drawn0.refl _ | apply Drawn0.step)⟩
    · rw [if_neg c4] at H
      have c4b0 : ((wrap64 (a1)) == (-1)) = false := beq_eq_false_iff_ne.mpr c4
      have c4b1 : ((wrap64 (a1)) != (-1)) = true := bne_iff_ne.mpr c4
      obtain rfl := Option.some.inj H
      go_enter Try.func70, Try.ntmps70
      go_wp2
      go_ret
      exact ⟨by first | rfl | (simp; done) | (simp [*]; done), by repeat (first | exact Drawn0.refl _ | apply Drawn0.step)⟩

/-! ### word_SDiv: function 35 -/
def word_SDiv.f (a0 : Int) (a1 : Int) (a2 : Int) : Option (Int) := if a2 = 8 then ((word_sdiv_uint8_int8.f ((a0) % 256) ((a1) % 256)).bind fun t_ => some (IntKind.u64.wrap t_)) else if a2 = 16 then ((word_sdiv_uint16_int16.f (IntKind.u16.wrap (a0)) (IntKind.u16.wrap (a1))).bind fun t_ => some (IntKind.u64.wrap t_)) else if a2 = 32 then ((word_sdiv_uint32_int32.f ((a0) % 4294967296) ((a1) % 4294967296)).bind fun t_ => some (IntKind.u64.wrap t_)) else word_sdiv_uint64_int64.f a0 a1
set_option maxHeartbeats 8000000 in
set_option maxRecDepth 100000 in
theorem word_SDiv.calls (a0 : Int) (a1 : Int) (a2 : Int) (r : Int) (w : World) (h : word_SDiv.f a0 a1 a2 = some r) :
    Calls Try.prog 35 #[.int .u64 a0, .int .u64 a1, .int .i64 a2] w fun e w' => e = .returned (.int .u64 r) ∧ Drawn0 w w' := by
  unfold word_SDiv.f at h
  by_cases c8 : a2 = 8
  · rw [if_pos c8] at h
    have c8b : (a2 == 8) = true := beq_iff_eq.mpr c8
    clear c8
    obtain ⟨t_, ht, h⟩ := Option.bind_eq_some_iff.mp h
    obtain rfl := Option.some.inj h
    have ht' := Aside0.mk ht
    clear h ht
    go_enter Try.func35, Try.ntmps35
    go_wp2_with (first | (go_at_call 57; go_in) | (go_at_call 67; refine (word_sdiv_uint8_int8.calls _ _ _ _ ht'.out).mono ?_; rintro e w' ⟨rfl, ⟨nd, rfl⟩⟩))
    go_ret
    exact ⟨by first | rfl | (simp; done) | (simp [*]; done), by repeat (first | exact Drawn0.refl _ | apply Drawn0.step)⟩
  · rw [if_neg c8] at h
    have c8b : (a2 == 8) = false := beq_eq_false_iff_ne.mpr c8
    clear c8
    by_cases c16 : a2 = 16
    · rw [if_pos c16] at h
      have c16b : (a2 == 16) = true := beq_iff_eq.mpr c16
      clear c16
      obtain ⟨t_, ht, h⟩ := Option.bind_eq_some_iff.mp h
      obtain rfl := Option.some.inj h
      have ht' := Aside0.mk ht
      clear h ht
      go_enter Try.func35, Try.ntmps35
      go_wp2_with (first | (go_at_call 57; go_in) | (go_at_call 68; refine (word_sdiv_uint16_int16.calls _ _ _ _ ht'.out).mono ?_; rintro e w' ⟨rfl, ⟨nd, rfl⟩⟩))
      go_ret
      exact ⟨by first | rfl | (simp; done) | (simp [*]; done), by repeat (first | exact Drawn0.refl _ | apply Drawn0.step)⟩
    · rw [if_neg c16] at h
      have c16b : (a2 == 16) = false := beq_eq_false_iff_ne.mpr c16
      clear c16
      by_cases c32 : a2 = 32
      · rw [if_pos c32] at h
        have c32b : (a2 == 32) = true := beq_iff_eq.mpr c32
        clear c32
        obtain ⟨t_, ht, h⟩ := Option.bind_eq_some_iff.mp h
        obtain rfl := Option.some.inj h
        have ht' := Aside0.mk ht
        clear h ht
        go_enter Try.func35, Try.ntmps35
        go_wp2_with (first | (go_at_call 57; go_in) | (go_at_call 69; refine (word_sdiv_uint32_int32.calls _ _ _ _ ht'.out).mono ?_; rintro e w' ⟨rfl, ⟨nd, rfl⟩⟩))
        go_ret
        exact ⟨by first | rfl | (simp; done) | (simp [*]; done), by repeat (first | exact Drawn0.refl _ | apply Drawn0.step)⟩
      · rw [if_neg c32] at h
        have c32b : (a2 == 32) = false := beq_eq_false_iff_ne.mpr c32
        clear c32
        have ht' := Aside0.mk h
        clear h
        go_enter Try.func35, Try.ntmps35
        go_wp2_with (first | (go_at_call 57; go_in) | (go_at_call 70; refine (word_sdiv_uint64_int64.calls _ _ _ _ ht'.out).mono ?_; rintro e w' ⟨rfl, ⟨nd, rfl⟩⟩))
        go_ret
        exact ⟨by first | rfl | (simp; done) | (simp [*]; done), by repeat (first | exact Drawn0.refl _ | apply Drawn0.step)⟩

/-! ### word_smod_uint8_int8: function 72 -/
def word_smod_uint8_int8.f (a0 : Int) (a1 : Int) : Option (Int) := if (IntKind.i8.wrap (a1)) = 0 then (some a0) else (if (IntKind.i8.wrap (a1)) = (-1) then (some 0) else (some ((Int.tmod (IntKind.i8.wrap (a0)) (IntKind.i8.wrap (a1))) % 256)))
set_option maxHeartbeats 8000000 in
set_option maxRecDepth 100000 in
theorem word_smod_uint8_int8.calls (a0 : Int) (a1 : Int) (r : Int) (w : World) (h : word_smod_uint8_int8.f a0 a1 = some r) :
    Calls Try.prog 72 #[.int .u8 a0, .int .u8 a1] w fun e w' => e = .returned (.int .u8 r) ∧ Drawn0 w w' := by
  have H : (if (IntKind.i8.wrap (a1)) = 0 then (some a0) else (if (IntKind.i8.wrap (a1)) = (-1) then (some 0) else (some ((Int.tmod (IntKind.i8.wrap (a0)) (IntKind.i8.wrap (a1))) % 256)))) = some r := h
  clear h
  by_cases c3 : (IntKind.i8.wrap (a1)) = 0
  · rw [if_pos c3] at H
    have c3b0 : ((IntKind.i8.wrap (a1)) == 0) = true := beq_iff_eq.mpr c3
    have c3b1 : ((IntKind.i8.wrap (a1)) != 0) = false := bne_eq_false_iff_eq.mpr c3
    clear c3
    obtain rfl := Option.some.inj H
    go_enter Try.func72, Try.ntmps72
    go_wp2
    go_ret
    exact ⟨by first | rfl | (simp; done) | (simp [*]; done), by repeat (first | exact Drawn0.refl _ | apply Drawn0.step)⟩
  · rw [if_neg c3] at H
    have c3b0 : ((IntKind.i8.wrap (a1)) == 0) = false := beq_eq_false_iff_ne.mpr c3
    have c3b1 : ((IntKind.i8.wrap (a1)) != 0) = true := bne_iff_ne.mpr c3
    by_cases c4 : (IntKind.i8.wrap (a1)) = (-1)
    · rw [if_pos c4] at H
      have c4b0 : ((IntKind.i8.wrap (a1)) == (-1)) = true := beq_iff_eq.mpr c4
      have c4b1 : ((IntKind.i8.wrap (a1)) != (-1)) = false := bne_eq_false_iff_eq.mpr c4
      clear c4
      obtain rfl := Option.some.inj H
      go_enter Try.func72, Try.ntmps72
      go_wp2
      go_ret
      exact ⟨by first | rfl | (simp; done) | (simp [*]; done), by repeat (first | exact Drawn0.refl _ | apply Drawn0.step)⟩
    · rw [if_neg c4] at H
      have c4b0 : ((IntKind.i8.wrap (a1)) == (-1)) = false := beq_eq_false_iff_ne.mpr c4
      have c4b1 : ((IntKind.i8.wrap (a1)) != (-1)) = true := bne_iff_ne.mpr c4
      obtain rfl := Option.some.inj H
      go_enter Try.func72, Try.ntmps72
      go_wp2
      go_ret
      exact ⟨by first | rfl | (simp; done) | (simp [*]; done), by repeat (first | exact Drawn0.refl _ | apply Drawn0.step)⟩

/-! ### word_smod_uint16_int16: function 73 -/
def word_smod_uint16_int16.f (a0 : Int) (a1 : Int) : Option (Int) := if (IntKind.i16.wrap (a1)) = 0 then (some a0) else (if (IntKind.i16.wrap (a1)) = (-1) then (some 0) else (some (IntKind.u16.wrap (Int.tmod (IntKind.i16.wrap (a0)) (IntKind.i16.wrap (a1))))))
set_option maxHeartbeats 8000000 in
set_option maxRecDepth 100000 in
theorem word_smod_uint16_int16.calls (a0 : Int) (a1 : Int) (r : Int) (w : World) (h : word_smod_uint16_int16.f a0 a1 = some r) :
    Calls Try.prog 73 #[.int .u16 a0, .int .u16 a1] w fun e w' => e = .returned (.int .u16 r) ∧ Drawn0 w w' := by
  have H : (if (IntKind.i16.wrap (a1)) = 0 then (some a0) else (if (IntKind.i16.wrap (a1)) = (-1) then (some 0) else (some (IntKind.u16.wrap (Int.tmod (IntKind.i16.wrap (a0)) (IntKind.i16.wrap (a1))))))) = some r := h
  clear h
  by_cases c3 : (IntKind.i16.wrap (a1)) = 0
  · rw [if_pos c3] at H
    have c3b0 : ((IntKind.i16.wrap (a1)) == 0) = true := beq_iff_eq.mpr c3
    have c3b1 : ((IntKind.i16.wrap (a1)) != 0) = false := bne_eq_false_iff_eq.mpr c3
    clear c3
    obtain rfl := Option.some.inj H
    go_enter Try.func73, Try.ntmps73
    go_wp2
    go_ret
    exact ⟨by first | rfl | (simp; done) | (simp [*]; done), by repeat (first | exact Drawn0.refl _ | apply Drawn0.step)⟩
  · rw [if_neg c3] at H
    have c3b0 : ((IntKind.i16.wrap (a1)) == 0) = false := beq_eq_false_iff_ne.mpr c3
    have c3b1 : ((IntKind.i16.wrap (a1)) != 0) = true := bne_iff_ne.mpr c3
    by_cases c4 : (IntKind.i16.wrap (a1)) = (-1)
    · rw [if_pos c4] at H
      have c4b0 : ((IntKind.i16.wrap (a1)) == (-1)) = true := beq_iff_eq.mpr c4
      have c4b1 : ((IntKind.i16.wrap (a1)) != (-1)) = false := bne_eq_false_iff_eq.mpr c4
      clear c4
      obtain rfl := Option.some.inj H
      go_enter Try.func73, Try.ntmps73
      go_wp2
      go_ret
      exact ⟨by first | rfl | (simp; done) | (simp [*]; done), by repeat (first | exact Drawn0.refl _ | apply Drawn0.step)⟩
    · rw [if_neg c4] at H
      have c4b0 : ((IntKind.i16.wrap (a1)) == (-1)) = false := beq_eq_false_iff_ne.mpr c4
      have c4b1 : ((IntKind.i16.wrap (a1)) != (-1)) = true := bne_iff_ne.mpr c4
      obtain rfl := Option.some.inj H
      go_enter Try.func73, Try.ntmps73
      go_wp2
      go_ret
      exact ⟨by first | rfl | (simp; done) | (simp [*]; done), by repeat (first | exact Drawn0.refl _ | apply Drawn0.step)⟩

/-! ### word_smod_uint32_int32: function 74 -/
def word_smod_uint32_int32.f (a0 : Int) (a1 : Int) : Option (Int) := if (wrap32 (a1)) = 0 then (some a0) else (if (wrap32 (a1)) = (-1) then (some 0) else (some ((Int.tmod (wrap32 (a0)) (wrap32 (a1))) % 4294967296)))
set_option maxHeartbeats 8000000 in
set_option maxRecDepth 100000 in
theorem word_smod_uint32_int32.calls (a0 : Int) (a1 : Int) (r : Int) (w : World) (h : word_smod_uint32_int32.f a0 a1 = some r) :
    Calls Try.prog 74 #[.int .u32 a0, .int .u32 a1] w fun e w' => e = .returned (.int .u32 r) ∧ Drawn0 w w' := by
  have H : (if (wrap32 (a1)) = 0 then (some a0) else (if (wrap32 (a1)) = (-1) then (some 0) else (some ((Int.tmod (wrap32 (a0)) (wrap32 (a1))) % 4294967296)))) = some r := h
  clear h
  by_cases c3 : (wrap32 (a1)) = 0
  · rw [if_pos c3] at H
    have c3b0 : ((wrap32 (a1)) == 0) = true := beq_iff_eq.mpr c3
    have c3b1 : ((wrap32 (a1)) != 0) = false := bne_eq_false_iff_eq.mpr c3
    clear c3
    obtain rfl := Option.some.inj H
    go_enter Try.func74, Try.ntmps74
    go_wp2
    go_ret
    exact ⟨by first | rfl | (simp; done) | (simp [*]; done), by repeat (first | exact Drawn0.refl _ | apply Drawn0.step)⟩
  · rw [if_neg c3] at H
    have c3b0 : ((wrap32 (a1)) == 0) = false := beq_eq_false_iff_ne.mpr c3
    have c3b1 : ((wrap32 (a1)) != 0) = true := bne_iff_ne.mpr c3
    by_cases c4 : (wrap32 (a1)) = (-1)
    · rw [if_pos c4] at H
      have c4b0 : ((wrap32 (a1)) == (-1)) = true := beq_iff_eq.mpr c4
      have c4b1 : ((wrap32 (a1)) != (-1)) = false := bne_eq_false_iff_eq.mpr c4
      clear c4
      obtain rfl := Option.some.inj H
      go_enter Try.func74, Try.ntmps74
      go_wp2
      go_ret
      exact ⟨by first | rfl | (simp; done) | (simp [*]; done), by repeat (first | exact Drawn0.refl _ | apply Drawn0.step)⟩
    · rw [if_neg c4] at H
      have c4b0 : ((wrap32 (a1)) == (-1)) = false := beq_eq_false_iff_ne.mpr c4
      have c4b1 : ((wrap32 (a1)) != (-1)) = true := bne_iff_ne.mpr c4
      obtain rfl := Option.some.inj H
      go_enter Try.func74, Try.ntmps74
      go_wp2
      go_ret
      exact ⟨by first | rfl | (simp; done) | (simp [*]; done), by repeat (first | exact Drawn0.refl _ | apply Drawn0.step)⟩

/-! ### word_smod_uint64_int64: function 75 -/
def word_smod_uint64_int64.f (a0 : Int) (a1 : Int) : Option (Int) := if (wrap64 (a1)) = 0 then (some a0) else (if (wrap64 (a1)) = (-1) then (some 0) else (some (IntKind.u64.wrap (Int.tmod (wrap64 (a0)) (wrap64 (a1))))))
set_option maxHeartbeats 8000000 in
set_option maxRecDepth 100000 in
theorem word_smod_uint64_int64.calls (a0 : Int) (a1 : Int) (r : Int) (w : World) (h : word_smod_uint64_int64.f a0 a1 = some r) :
    Calls Try.prog 75 #[.int .u64 a0, .int .u64 a1] w fun e w' => e = .returned (.int .u64 r) ∧ Drawn0 w w' := by
  have H : (if (wrap64 (a1)) = 0 then (some a0) else (if (wrap64 (a1)) = (-1) then (some 0) else (some (IntKind.u64.wrap (Int.tmod (wrap64 (a0)) (wrap64 (a1))))))) = some r := h
  clear h
  by_cases c3 : (wrap64 (a1)) = 0
  · rw [if_pos c3] at H
    have c3b0 : ((wrap64 (a1)) == 0) = true := beq_iff_eq.mpr c3
    have c3b1 : ((wrap64 (a1)) != 0) = false := bne_eq_false_iff_eq.mpr c3
    clear c3
    obtain rfl := Option.some.inj H
    go_enter Try.func75, Try.ntmps75
    go_wp2
    go_ret
    exact ⟨by first | rfl | (simp; done) | (simp [*]; done), by repeat (first | exact Drawn0.refl _ | apply Drawn0.step)⟩
  · rw [if_neg c3] at H
    have c3b0 : ((wrap64 (a1)) == 0) = false := beq_eq_false_iff_ne.mpr c3
    have c3b1 : ((wrap64 (a1)) != 0) = true := bne_iff_ne.mpr c3
    by_cases c4 : (wrap64 (a1)) = (-1)
    · rw [if_pos c4] at H
      have c4b0 : ((wrap64 (a1)) == (-1)) = true := beq_iff_eq.mpr c4
      have c4b1 : ((wrap64 (a1)) != (-1)) = false := bne_eq_false_iff_eq.mpr c4
      clear c4
      obtain rfl := Option.some.inj H
      go_enter Try.func75, Try.ntmps75
      go_wp2
      go_ret
      exact ⟨by first | rfl | (simp; done) | (simp [*]; done), by repeat (first | exact Drawn0.refl _ | apply Drawn0.step)⟩
    · rw [if_neg c4] at H
      have c4b0 : ((wrap64 (a1)) == (-1)) = false := beq_eq_false_iff_ne.mpr c4
      have c4b1 : ((wrap64 (a1)) != (-1)) = true := bne_iff_ne.mpr c4
      obtain rfl := Option.some.inj H
      go_enter Try.func75, Try.ntmps75
      go_wp2
      go_ret
      exact ⟨by first | rfl | (simp; done) | (simp [*]; done), by repeat (first | exact Drawn0.refl _ | apply Drawn0.step)⟩

/-! ### word_SMod: function 37 -/
def word_SMod.f (a0 : Int) (a1 : Int) (a2 : Int) : Option (Int) := if a2 = 8 then ((word_smod_uint8_int8.f ((a0) % 256) ((a1) % 256)).bind fun t_ => some (IntKind.u64.wrap t_)) else if a2 = 16 then ((word_smod_uint16_int16.f (IntKind.u16.wrap (a0)) (IntKind.u16.wrap (a1))).bind fun t_ => some (IntKind.u64.wrap t_)) else if a2 = 32 then ((word_smod_uint32_int32.f ((a0) % 4294967296) ((a1) % 4294967296)).bind fun t_ => some (IntKind.u64.wrap t_)) else word_smod_uint64_int64.f a0 a1
set_option maxHeartbeats 8000000 in
set_option maxRecDepth 100000 in
theorem word_SMod.calls (a0 : Int) (a1 : Int) (a2 : Int) (r : Int) (w : World) (h : word_SMod.f a0 a1 a2 = some r) :
    Calls Try.prog 37 #[.int .u64 a0, .int .u64 a1, .int .i64 a2] w fun e w' => e = .returned (.int .u64 r) ∧ Drawn0 w w' := by
  unfold word_SMod.f at h
  by_cases c8 : a2 = 8
  · rw [if_pos c8] at h
    have c8b : (a2 == 8) = true := beq_iff_eq.mpr c8
    clear c8
    obtain ⟨t_, ht, h⟩ := Option.bind_eq_some_iff.mp h
    obtain rfl := Option.some.inj h
    have ht' := Aside0.mk ht
    clear h ht
    go_enter Try.func37, Try.ntmps37
    go_wp2_with (first | (go_at_call 57; go_in) | (go_at_call 72; refine (word_smod_uint8_int8.calls _ _ _ _ ht'.out).mono ?_; rintro e w' ⟨rfl, ⟨nd, rfl⟩⟩))
    go_ret
    exact ⟨by first | rfl | (simp; done) | (simp [*]; done), by repeat (first | exact Drawn0.refl _ | apply Drawn0.step)⟩
  · rw [if_neg c8] at h
    have c8b : (a2 == 8) = false := beq_eq_false_iff_ne.mpr c8
    clear c8
    by_cases c16 : a2 = 16
    · rw [if_pos c16] at h
      have c16b : (a2 == 16) = true := beq_iff_eq.mpr c16
      clear c16
      obtain ⟨t_, ht, h⟩ := Option.bind_eq_some_iff.mp h
      obtain rfl := Option.some.inj h
      have ht' := Aside0.mk ht
      clear h ht
      go_enter Try.func37, Try.ntmps37
      go_wp2_with (first | (go_at_call 57; go_in) | (go_at_call 73; refine (word_smod_uint16_int16.calls _ _ _ _ ht'.out).mono ?_; rintro e w' ⟨rfl, ⟨nd, rfl⟩⟩))
      go_ret
      exact ⟨by first | rfl | (simp; done) | (simp [*]; done), by repeat (first | exact Drawn0.refl _ | apply Drawn0.step)⟩
    · rw [if_neg c16] at h
      have c16b : (a2 == 16) = false := beq_eq_false_iff_ne.mpr c16
      clear c16
      by_cases c32 : a2 = 32
      · rw [if_pos c32] at h
        have c32b : (a2 == 32) = true := beq_iff_eq.mpr c32
        clear c32
        obtain ⟨t_, ht, h⟩ := Option.bind_eq_some_iff.mp h
        obtain rfl := Option.some.inj h
        have ht' := Aside0.mk ht
        clear h ht
        go_enter Try.func37, Try.ntmps37
        go_wp2_with (first | (go_at_call 57; go_in) | (go_at_call 74; refine (word_smod_uint32_int32.calls _ _ _ _ ht'.out).mono ?_; rintro e w' ⟨rfl, ⟨nd, rfl⟩⟩))
        go_ret
        exact ⟨by first | rfl | (simp; done) | (simp [*]; done), by repeat (first | exact Drawn0.refl _ | apply Drawn0.step)⟩
      · rw [if_neg c32] at h
        have c32b : (a2 == 32) = false := beq_eq_false_iff_ne.mpr c32
        clear c32
        have ht' := Aside0.mk h
        clear h
        go_enter Try.func37, Try.ntmps37
        go_wp2_with (first | (go_at_call 57; go_in) | (go_at_call 75; refine (word_smod_uint64_int64.calls _ _ _ _ ht'.out).mono ?_; rintro e w' ⟨rfl, ⟨nd, rfl⟩⟩))
        go_ret
        exact ⟨by first | rfl | (simp; done) | (simp [*]; done), by repeat (first | exact Drawn0.refl _ | apply Drawn0.step)⟩

/-! ### word_Shl: function 39 -/
def word_Shl.f (a0 : Int) (a1 : Int) (a2 : Int) : Option (Int) := if a2 = 8 then ((word_shl_uint8.f ((a0) % 256) a1).bind fun t_ => some (IntKind.u64.wrap t_)) else if a2 = 16 then ((word_shl_uint16.f (IntKind.u16.wrap (a0)) a1).bind fun t_ => some (IntKind.u64.wrap t_)) else if a2 = 32 then ((word_shl_uint32.f ((a0) % 4294967296) a1).bind fun t_ => some (IntKind.u64.wrap t_)) else word_shl_uint64.f a0 a1
set_option maxHeartbeats 8000000 in
set_option maxRecDepth 100000 in
theorem word_Shl.calls (a0 : Int) (a1 : Int) (a2 : Int) (r : Int) (w : World) (h : word_Shl.f a0 a1 a2 = some r) :
    Calls Try.prog 39 #[.int .u64 a0, .int .u64 a1, .int .i64 a2] w fun e w' => e = .returned (.int .u64 r) ∧ Drawn0 w w' := by
  unfold word_Shl.f at h
  by_cases c8 : a2 = 8
  · rw [if_pos c8] at h
    have c8b : (a2 == 8) = true := beq_iff_eq.mpr c8
    clear c8
    obtain ⟨t_, ht, h⟩ := Option.bind_eq_some_iff.mp h
    obtain rfl := Option.some.inj h
    have ht' := Aside0.mk ht
    clear h ht
    go_enter Try.func39, Try.ntmps39
    go_wp2_with (first | (go_at_call 47; go_in) | (go_at_call 48; refine (word_shl_uint8.calls _ _ _ _ ht'.out).mono ?_; rintro e w' ⟨rfl, ⟨nd, rfl⟩⟩))
    go_ret
    exact ⟨by first | rfl | (simp; done) | (simp [*]; done), by repeat (first | exact Drawn0.refl _ | apply Drawn0.step)⟩
  · rw [if_neg c8] at h
    have c8b : (a2 == 8) = false := beq_eq_false_iff_ne.mpr c8
    clear c8
    by_cases c16 : a2 = 16
    · rw [if_pos c16] at h
      have c16b : (a2 == 16) = true := beq_iff_eq.mpr c16
      clear c16
      obtain ⟨t_, ht, h⟩ := Option.bind_eq_some_iff.mp h
      obtain rfl := Option.some.inj h
      have ht' := Aside0.mk ht
      clear h ht
      go_enter Try.func39, Try.ntmps39
      go_wp2_with (first | (go_at_call 47; go_in) | (go_at_call 49; refine (word_shl_uint16.calls _ _ _ _ ht'.out).mono ?_; rintro e w' ⟨rfl, ⟨nd, rfl⟩⟩))
      go_ret
      exact ⟨by first | rfl | (simp; done) | (simp [*]; done), by repeat (first | exact Drawn0.refl _ | apply Drawn0.step)⟩
    · rw [if_neg c16] at h
      have c16b : (a2 == 16) = false := beq_eq_false_iff_ne.mpr c16
      clear c16
      by_cases c32 : a2 = 32
      · rw [if_pos c32] at h
        have c32b : (a2 == 32) = true := beq_iff_eq.mpr c32
        clear c32
        obtain ⟨t_, ht, h⟩ := Option.bind_eq_some_iff.mp h
        obtain rfl := Option.some.inj h
        have ht' := Aside0.mk ht
        clear h ht
        go_enter Try.func39, Try.ntmps39
        go_wp2_with (first | (go_at_call 47; go_in) | (go_at_call 50; refine (word_shl_uint32.calls _ _ _ _ ht'.out).mono ?_; rintro e w' ⟨rfl, ⟨nd, rfl⟩⟩))
        go_ret
        exact ⟨by first | rfl | (simp; done) | (simp [*]; done), by repeat (first | exact Drawn0.refl _ | apply Drawn0.step)⟩
      · rw [if_neg c32] at h
        have c32b : (a2 == 32) = false := beq_eq_false_iff_ne.mpr c32
        clear c32
        have ht' := Aside0.mk h
        clear h
        go_enter Try.func39, Try.ntmps39
        go_wp2_with (first | (go_at_call 47; go_in) | (go_at_call 51; refine (word_shl_uint64.calls _ _ _ _ ht'.out).mono ?_; rintro e w' ⟨rfl, ⟨nd, rfl⟩⟩))
        go_ret
        exact ⟨by first | rfl | (simp; done) | (simp [*]; done), by repeat (first | exact Drawn0.refl _ | apply Drawn0.step)⟩

/-! ### word_shr_uint8: function 76 -/
def word_shr_uint8.f (a0 : Int) (a1 : Int) : Option (Int) := (word_bits_uint8.f).bind fun t114 => (if t114 = 0 then (none) else (if 0 ≤ (Int.tmod a1 t114) then (some (shr .u8 a0 (Int.tmod a1 t114))) else (none)))
set_option maxHeartbeats 8000000 in
set_option maxRecDepth 100000 in
theorem word_shr_uint8.calls (a0 : Int) (a1 : Int) (r : Int) (w : World) (h : word_shr_uint8.f a0 a1 = some r) :
    Calls Try.prog 76 #[.int .u8 a0, .int .u64 a1] w fun e w' => e = .returned (.int .u8 r) ∧ Drawn0 w w' := by
  have H : ((word_bits_uint8.f).bind fun t114 => (if t114 = 0 then (none) else (if 0 ≤ (Int.tmod a1 t114) then (some (shr .u8 a0 (Int.tmod a1 t114))) else (none)))) = some r := h
  clear h
  replace H := Option.bind_eq_some_iff.mp H
  obtain ⟨t114, A30, H⟩ := H
  replace H : (if t114 = 0 then (none) else (if 0 ≤ (Int.tmod a1 t114) then (some (shr .u8 a0 (Int.tmod a1 t114))) else (none))) = some r := H
  have A3 := Aside0.mk A30
  clear A30
  by_cases c4 : t114 = 0
  · rw [if_pos c4] at H
    exact absurd H (by simp)
  · rw [if_neg c4] at H
    have c4b0 : (t114 == 0) = false := beq_eq_false_iff_ne.mpr c4
    have c4b1 : (t114 != 0) = true := bne_iff_ne.mpr c4
    obtain ⟨ji5, hji5⟩ : ∃ j_ : Int, (Int.tmod a1 t114) = j_ := ⟨_, rfl⟩
    replace H : (if 0 ≤ (ji5) then (some (shr .u8 a0 (ji5))) else (none)) = some r := by first | (rw [hji5] at H; exact H) | (simp only [hji5] at H ⊢; exact H)
    (try rw [hji5] at A3)
    by_cases c6 : 0 ≤ (ji5)
    · rw [if_pos c6] at H
      have c6b0 := eq_true c6
      have c6b1 : decide (0 ≤ (ji5)) = true := decide_eq_true c6
      clear c6
      obtain ⟨ji7, hji7⟩ : ∃ j_ : Int, (shr .u8 a0 (ji5)) = j_ := ⟨_, rfl⟩
      replace H : (some ji7) = some r := by first | (rw [hji7] at H; exact H) | (simp only [hji7] at H ⊢; exact H)
      (try rw [hji7] at A3)
      have hji7_ : (a0 / 2 ^ min (ji5).toNat 8) = ji7 := hji7
      have hji7z : (ji5) ≤ 8 → (a0 / 2 ^ (ji5).toNat) = ji7 := shr_small hji7
      obtain rfl := Option.some.inj H
      go_enter Try.func76, Try.ntmps76
      go_wp2_with (first | ((with_reducible refine gate_callee (f := 84) rfl ?_); refine goesL_ (some 7) rfl rfl Try.func84 (by kernel_rfl) rfl #[] rfl (by (try simp only [List.map_toArray, List.map_cons, List.map_nil]); first | done | rfl | (simp only [List.length_drop, List.length_take]; rfl)) ?_; (with_reducible refine (word_bits_uint8.calls  t114 _ A3.out).mono ?_); rintro e w' ⟨rfl, ⟨nd, rfl⟩⟩; refine ⟨_, rfl, ?_⟩))
      go_ret
      exact ⟨by first | rfl | (simp; done) | (simp only [← hji5, ← hji7] <;> (first | rfl | simp)) | (simp [*]; done), by repeat (first | exact Drawn0.refl _ | apply Drawn0.step)⟩
    · rw [if_neg c6] at H
      exact absurd H (by simp)

end Go.Proofs.Ytliijfogmendmaa.PW
