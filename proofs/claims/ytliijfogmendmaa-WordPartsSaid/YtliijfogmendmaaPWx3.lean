-- Printed by this session's own program (wip/tools/myprint.py) over the kit's print; the parts that are marked 'by hand' are this session's.
import Derived.Test.YtliijfogmendmaaPWx0
import Derived.Test.YtliijfogmendmaaPWx1
import Derived.Test.YtliijfogmendmaaPWx2
namespace Go.Proofs.Ytliijfogmendmaa.PW
open Go.RowKit Go.Proofs.YtliijfogmendmaaW.PrintWords Go.Proofs.YtliijfogmendmaaW.PrintLast Go.Proofs.YtliijfogmendmaaW.PrintMore
attribute [local go_sem] max2_int min2_int max_two min_two max_three min_three max_four min_four   -- for this text's walks alone
set_option linter.unusedVariables false
set_option linter.unusedSimpArgs false

/-! ### word_shr_uint16: function 77 -/
def word_shr_uint16.f (a0 : Int) (a1 : Int) : Option (Int) := (word_bits_uint16.f).bind fun t115 => (if t115 = 0 then (none) else (if 0 ≤ (Int.tmod a1 t115) then (some (shr .u16 a0 (Int.tmod a1 t115))) else (none)))
set_option maxHeartbeats 8000000 in
set_option maxRecDepth 100000 in
theorem word_shr_uint16.calls (a0 : Int) (a1 : Int) (r : Int) (w : World) (h : word_shr_uint16.f a0 a1 = some r) :
    Calls Try.prog 77 #[.int .u16 a0, .int .u64 a1] w fun e w' => e = .returned (.int .u16 r) ∧ Drawn0 w w' := by
  have H : ((word_bits_uint16.f).bind fun t115 => (if t115 = 0 then (none) else (if 0 ≤ (Int.tmod a1 t115) then (some (shr .u16 a0 (Int.tmod a1 t115))) else (none)))) = some r := h
  clear h
  replace H := Option.bind_eq_some_iff.mp H
  obtain ⟨t115, A30, H⟩ := H
  replace H : (if t115 = 0 then (none) else (if 0 ≤ (Int.tmod a1 t115) then (some (shr .u16 a0 (Int.tmod a1 t115))) else (none))) = some r := H
  have A3 := Aside0.mk A30
  clear A30
  by_cases c4 : t115 = 0
  · rw [if_pos c4] at H
    exact absurd H (by simp)
  · rw [if_neg c4] at H
    have c4b0 : (t115 == 0) = false := beq_eq_false_iff_ne.mpr c4
    have c4b1 : (t115 != 0) = true := bne_iff_ne.mpr c4
    obtain ⟨ji5, hji5⟩ : ∃ j_ : Int, (Int.tmod a1 t115) = j_ := ⟨_, rfl⟩
    replace H : (if 0 ≤ (ji5) then (some (shr .u16 a0 (ji5))) else (none)) = some r := by first | (rw [hji5] at H; exact H) | (simp only [hji5] at H ⊢; exact H)
    (try rw [hji5] at A3)
    by_cases c6 : 0 ≤ (ji5)
    · rw [if_pos c6] at H
      have c6b0 := eq_true c6
      have c6b1 : decide (0 ≤ (ji5)) = true := decide_eq_true c6
      clear c6
      obtain ⟨ji7, hji7⟩ : ∃ j_ : Int, (shr .u16 a0 (ji5)) = j_ := ⟨_, rfl⟩
      replace H : (some ji7) = some r := by first | (rw [hji7] at H; exact H) | (simp only [hji7] at H ⊢; exact H)
      (try rw [hji7] at A3)
      have hji7_ : (a0 / 2 ^ min (ji5).toNat 16) = ji7 := hji7
      have hji7z : (ji5) ≤ 16 → (a0 / 2 ^ (ji5).toNat) = ji7 := shr_small hji7
      obtain rfl := Option.some.inj H
      go_enter Try.func77, Try.ntmps77
      go_wp2_with (first | ((with_reducible refine gate_callee (f := 85) rfl ?_); refine goesL_ (some 7) rfl rfl Try.func85 (by kernel_rfl) rfl #[] rfl (by (try simp only [List.map_toArray, List.map_cons, List.map_nil]); first | done | rfl | (simp only [List.length_drop, List.length_take]; rfl)) ?_; (with_reducible refine (word_bits_uint16.calls  t115 _ A3.out).mono ?_); rintro e w' ⟨rfl, ⟨nd, rfl⟩⟩; refine ⟨_, rfl, ?_⟩))
      go_ret
      exact ⟨by first | rfl | (simp; done) | (simp only [← hji5, ← hji7] <;> (first | rfl | simp)) | (simp [*]; done), by repeat (first | exact Drawn0.refl _ | apply Drawn0.step)⟩
    · rw [if_neg c6] at H
      exact absurd H (by simp)

/-! ### word_shr_uint32: function 78 -/
def word_shr_uint32.f (a0 : Int) (a1 : Int) : Option (Int) := (word_bits_uint32.f).bind fun t116 => (if t116 = 0 then (none) else (if 0 ≤ (Int.tmod a1 t116) then (some (shr .u32 a0 (Int.tmod a1 t116))) else (none)))
set_option maxHeartbeats 8000000 in
set_option maxRecDepth 100000 in
theorem word_shr_uint32.calls (a0 : Int) (a1 : Int) (r : Int) (w : World) (h : word_shr_uint32.f a0 a1 = some r) :
    Calls Try.prog 78 #[.int .u32 a0, .int .u64 a1] w fun e w' => e = .returned (.int .u32 r) ∧ Drawn0 w w' := by
  have H : ((word_bits_uint32.f).bind fun t116 => (if t116 = 0 then (none) else (if 0 ≤ (Int.tmod a1 t116) then (some (shr .u32 a0 (Int.tmod a1 t116))) else (none)))) = some r := h
  clear h
  replace H := Option.bind_eq_some_iff.mp H
  obtain ⟨t116, A30, H⟩ := H
  replace H : (if t116 = 0 then (none) else (if 0 ≤ (Int.tmod a1 t116) then (some (shr .u32 a0 (Int.tmod a1 t116))) else (none))) = some r := H
  have A3 := Aside0.mk A30
  clear A30
  by_cases c4 : t116 = 0
  · rw [if_pos c4] at H
    exact absurd H (by simp)
  · rw [if_neg c4] at H
    have c4b0 : (t116 == 0) = false := beq_eq_false_iff_ne.mpr c4
    have c4b1 : (t116 != 0) = true := bne_iff_ne.mpr c4
    obtain ⟨ji5, hji5⟩ : ∃ j_ : Int, (Int.tmod a1 t116) = j_ := ⟨_, rfl⟩
    replace H : (if 0 ≤ (ji5) then (some (shr .u32 a0 (ji5))) else (none)) = some r := by first | (rw [hji5] at H; exact H) | (simp only [hji5] at H ⊢; exact H)
    (try rw [hji5] at A3)
    by_cases c6 : 0 ≤ (ji5)
    · rw [if_pos c6] at H
      have c6b0 := eq_true c6
      have c6b1 : decide (0 ≤ (ji5)) = true := decide_eq_true c6
      clear c6
      obtain ⟨ji7, hji7⟩ : ∃ j_ : Int, (shr .u32 a0 (ji5)) = j_ := ⟨_, rfl⟩
      replace H : (some ji7) = some r := by first | (rw [hji7] at H; exact H) | (simp only [hji7] at H ⊢; exact H)
      (try rw [hji7] at A3)
      have hji7_ : (a0 / 2 ^ min (ji5).toNat 32) = ji7 := hji7
      have hji7z : (ji5) ≤ 32 → (a0 / 2 ^ (ji5).toNat) = ji7 := shr_small hji7
      obtain rfl := Option.some.inj H
      go_enter Try.func78, Try.ntmps78
      go_wp2_with (first | ((with_reducible refine gate_callee (f := 86) rfl ?_); refine goesL_ (some 7) rfl rfl Try.func86 (by kernel_rfl) rfl #[] rfl (by (try simp only [List.map_toArray, List.map_cons, List.map_nil]); first | done | rfl | (simp only [List.length_drop, List.length_take]; rfl)) ?_; (with_reducible refine (word_bits_uint32.calls  t116 _ A3.out).mono ?_); rintro e w' ⟨rfl, ⟨nd, rfl⟩⟩; refine ⟨_, rfl, ?_⟩))
      go_ret
      exact ⟨by first | rfl | (simp; done) | (simp only [← hji5, ← hji7] <;> (first | rfl | simp)) | (simp [*]; done), by repeat (first | exact Drawn0.refl _ | apply Drawn0.step)⟩
    · rw [if_neg c6] at H
      exact absurd H (by simp)

/-! ### word_shr_uint64: function 79 -/
def word_shr_uint64.f (a0 : Int) (a1 : Int) : Option (Int) := (word_bits_uint64.f).bind fun t117 => (if t117 = 0 then (none) else (if 0 ≤ (Int.tmod a1 t117) then (some (shr .u64 a0 (Int.tmod a1 t117))) else (none)))
set_option maxHeartbeats 8000000 in
set_option maxRecDepth 100000 in
theorem word_shr_uint64.calls (a0 : Int) (a1 : Int) (r : Int) (w : World) (h : word_shr_uint64.f a0 a1 = some r) :
    Calls Try.prog 79 #[.int .u64 a0, .int .u64 a1] w fun e w' => e = .returned (.int .u64 r) ∧ Drawn0 w w' := by
  have H : ((word_bits_uint64.f).bind fun t117 => (if t117 = 0 then (none) else (if 0 ≤ (Int.tmod a1 t117) then (some (shr .u64 a0 (Int.tmod a1 t117))) else (none)))) = some r := h
  clear h
  replace H := Option.bind_eq_some_iff.mp H
  obtain ⟨t117, A30, H⟩ := H
  replace H : (if t117 = 0 then (none) else (if 0 ≤ (Int.tmod a1 t117) then (some (shr .u64 a0 (Int.tmod a1 t117))) else (none))) = some r := H
  have A3 := Aside0.mk A30
  clear A30
  by_cases c4 : t117 = 0
  · rw [if_pos c4] at H
    exact absurd H (by simp)
  · rw [if_neg c4] at H
    have c4b0 : (t117 == 0) = false := beq_eq_false_iff_ne.mpr c4
    have c4b1 : (t117 != 0) = true := bne_iff_ne.mpr c4
    obtain ⟨ji5, hji5⟩ : ∃ j_ : Int, (Int.tmod a1 t117) = j_ := ⟨_, rfl⟩
    replace H : (if 0 ≤ (ji5) then (some (shr .u64 a0 (ji5))) else (none)) = some r := by first | (rw [hji5] at H; exact H) | (simp only [hji5] at H ⊢; exact H)
    (try rw [hji5] at A3)
    by_cases c6 : 0 ≤ (ji5)
    · rw [if_pos c6] at H
      have c6b0 := eq_true c6
      have c6b1 : decide (0 ≤ (ji5)) = true := decide_eq_true c6
      clear c6
      obtain ⟨ji7, hji7⟩ : ∃ j_ : Int, (shr .u64 a0 (ji5)) = j_ := ⟨_, rfl⟩
      replace H : (some ji7) = some r := by first | (rw [hji7] at H; exact H) | (simp only [hji7] at H ⊢; exact H)
      (try rw [hji7] at A3)
      have hji7_ : (a0 / 2 ^ min (ji5).toNat 64) = ji7 := hji7
      have hji7z : (ji5) ≤ 64 → (a0 / 2 ^ (ji5).toNat) = ji7 := shr_small hji7
      obtain rfl := Option.some.inj H
      go_enter Try.func79, Try.ntmps79
      go_wp2_with (first | ((with_reducible refine gate_callee (f := 87) rfl ?_); refine goesL_ (some 7) rfl rfl Try.func87 (by kernel_rfl) rfl #[] rfl (by (try simp only [List.map_toArray, List.map_cons, List.map_nil]); first | done | rfl | (simp only [List.length_drop, List.length_take]; rfl)) ?_; (with_reducible refine (word_bits_uint64.calls  t117 _ A3.out).mono ?_); rintro e w' ⟨rfl, ⟨nd, rfl⟩⟩; refine ⟨_, rfl, ?_⟩))
      go_ret
      exact ⟨by first | rfl | (simp; done) | (simp only [← hji5, ← hji7] <;> (first | rfl | simp)) | (simp [*]; done), by repeat (first | exact Drawn0.refl _ | apply Drawn0.step)⟩
    · rw [if_neg c6] at H
      exact absurd H (by simp)

/-! ### word_Shr: function 41 -/
def word_Shr.f (a0 : Int) (a1 : Int) (a2 : Int) : Option (Int) := if a2 = 8 then ((word_shr_uint8.f ((a0) % 256) a1).bind fun t_ => some (IntKind.u64.wrap t_)) else if a2 = 16 then ((word_shr_uint16.f (IntKind.u16.wrap (a0)) a1).bind fun t_ => some (IntKind.u64.wrap t_)) else if a2 = 32 then ((word_shr_uint32.f ((a0) % 4294967296) a1).bind fun t_ => some (IntKind.u64.wrap t_)) else word_shr_uint64.f a0 a1
set_option maxHeartbeats 8000000 in
set_option maxRecDepth 100000 in
theorem word_Shr.calls (a0 : Int) (a1 : Int) (a2 : Int) (r : Int) (w : World) (h : word_Shr.f a0 a1 a2 = some r) :
    Calls Try.prog 41 #[.int .u64 a0, .int .u64 a1, .int .i64 a2] w fun e w' => e = .returned (.int .u64 r) ∧ Drawn0 w w' := by
  unfold word_Shr.f at h
  by_cases c8 : a2 = 8
  · rw [if_pos c8] at h
    have c8b : (a2 == 8) = true := beq_iff_eq.mpr c8
    clear c8
    obtain ⟨t_, ht, h⟩ := Option.bind_eq_some_iff.mp h
    obtain rfl := Option.some.inj h
    have ht' := Aside0.mk ht
    clear h ht
    go_enter Try.func41, Try.ntmps41
    go_wp2_with (first | (go_at_call 47; go_in) | (go_at_call 76; refine (word_shr_uint8.calls _ _ _ _ ht'.out).mono ?_; rintro e w' ⟨rfl, ⟨nd, rfl⟩⟩))
    go_ret
    exact ⟨by first | rfl | (simp; done) | (simp [*]; done), by repeat (first | exact Drawn0.refl _ | apply Drawn0.step)⟩
  · rw [if_neg c8] at h
    have c8b : (a2 == 8) = false := beq_eq_false_iff_ne.mpr c8
    clear c8
    by_cases c16 : a2 = 16
    · rw [if_pos c16] at h
      have c16b : (a2 == 16) = true := beq_iff_eq.mpr c16
      clear c16
      obtain ⟨t_, ht, h⟩ := Option.bind_eq_some_iff.mp h
      obtain rfl := Option.some.inj h
      have ht' := Aside0.mk ht
      clear h ht
      go_enter Try.func41, Try.ntmps41
      go_wp2_with (first | (go_at_call 47; go_in) | (go_at_call 77; refine (word_shr_uint16.calls _ _ _ _ ht'.out).mono ?_; rintro e w' ⟨rfl, ⟨nd, rfl⟩⟩))
      go_ret
      exact ⟨by first | rfl | (simp; done) | (simp [*]; done), by repeat (first | exact Drawn0.refl _ | apply Drawn0.step)⟩
    · rw [if_neg c16] at h
      have c16b : (a2 == 16) = false := beq_eq_false_iff_ne.mpr c16
      clear c16
      by_cases c32 : a2 = 32
      · rw [if_pos c32] at h
        have c32b : (a2 == 32) = true := beq_iff_eq.mpr c32
        clear c32
        obtain ⟨t_, ht, h⟩ := Option.bind_eq_some_iff.mp h
        obtain rfl := Option.some.inj h
        have ht' := Aside0.mk ht
        clear h ht
        go_enter Try.func41, Try.ntmps41
        go_wp2_with (first | (go_at_call 47; go_in) | (go_at_call 78; refine (word_shr_uint32.calls _ _ _ _ ht'.out).mono ?_; rintro e w' ⟨rfl, ⟨nd, rfl⟩⟩))
        go_ret
        exact ⟨by first | rfl | (simp; done) | (simp [*]; done), by repeat (first | exact Drawn0.refl _ | apply Drawn0.step)⟩
      · rw [if_neg c32] at h
        have c32b : (a2 == 32) = false := beq_eq_false_iff_ne.mpr c32
        clear c32
        have ht' := Aside0.mk h
        clear h
        go_enter Try.func41, Try.ntmps41
        go_wp2_with (first | (go_at_call 47; go_in) | (go_at_call 79; refine (word_shr_uint64.calls _ _ _ _ ht'.out).mono ?_; rintro e w' ⟨rfl, ⟨nd, rfl⟩⟩))
        go_ret
        exact ⟨by first | rfl | (simp; done) | (simp [*]; done), by repeat (first | exact Drawn0.refl _ | apply Drawn0.step)⟩

/-! ### word_sar_uint8_int8: function 80 -/
def word_sar_uint8_int8.f (a0 : Int) (a1 : Int) : Option (Int) := (word_bits_uint8.f).bind fun t118 => (if t118 = 0 then (none) else (if 0 ≤ (Int.tmod a1 t118) then (some ((shr .i8 (IntKind.i8.wrap (a0)) (Int.tmod a1 t118)) % 256)) else (none)))
set_option maxHeartbeats 8000000 in
set_option maxRecDepth 100000 in
theorem word_sar_uint8_int8.calls (a0 : Int) (a1 : Int) (r : Int) (w : World) (h : word_sar_uint8_int8.f a0 a1 = some r) :
    Calls Try.prog 80 #[.int .u8 a0, .int .u64 a1] w fun e w' => e = .returned (.int .u8 r) ∧ Drawn0 w w' := by
  have H : ((word_bits_uint8.f).bind fun t118 => (if t118 = 0 then (none) else (if 0 ≤ (Int.tmod a1 t118) then (some ((shr .i8 (IntKind.i8.wrap (a0)) (Int.tmod a1 t118)) % 256)) else (none)))) = some r := h
  clear h
  replace H := Option.bind_eq_some_iff.mp H
  obtain ⟨t118, A30, H⟩ := H
  replace H : (if t118 = 0 then (none) else (if 0 ≤ (Int.tmod a1 t118) then (some ((shr .i8 (IntKind.i8.wrap (a0)) (Int.tmod a1 t118)) % 256)) else (none))) = some r := H
  have A3 := Aside0.mk A30
  clear A30
  by_cases c4 : t118 = 0
  · rw [if_pos c4] at H
    exact absurd H (by simp)
  · rw [if_neg c4] at H
    have c4b0 : (t118 == 0) = false := beq_eq_false_iff_ne.mpr c4
    have c4b1 : (t118 != 0) = true := bne_iff_ne.mpr c4
    obtain ⟨ji5, hji5⟩ : ∃ j_ : Int, (Int.tmod a1 t118) = j_ := ⟨_, rfl⟩
    replace H : (if 0 ≤ (ji5) then (some ((shr .i8 (IntKind.i8.wrap (a0)) (ji5)) % 256)) else (none)) = some r := by first | (rw [hji5] at H; exact H) | (simp only [hji5] at H ⊢; exact H)
    (try rw [hji5] at A3)
    by_cases c6 : 0 ≤ (ji5)
    · rw [if_pos c6] at H
      have c6b0 := eq_true c6
      have c6b1 : decide (0 ≤ (ji5)) = true := decide_eq_true c6
      clear c6
      obtain ⟨ji7, hji7⟩ : ∃ j_ : Int, (shr .i8 (IntKind.i8.wrap (a0)) (ji5)) = j_ := ⟨_, rfl⟩
      replace H : (some ((ji7) % 256)) = some r := by first | (rw [hji7] at H; exact H) | (simp only [hji7] at H ⊢; exact H)
      (try rw [hji7] at A3)
      have hji7_ : ((IntKind.i8.wrap (a0)) / 2 ^ min (ji5).toNat 8) = ji7 := hji7
      have hji7z : (ji5) ≤ 8 → ((IntKind.i8.wrap (a0)) / 2 ^ (ji5).toNat) = ji7 := shr_small hji7
      obtain rfl := Option.some.inj H
      go_enter Try.func80, Try.ntmps80
      go_wp2_with (first | ((with_reducible refine gate_callee (f := 84) rfl ?_); refine goesL_ (some 8) rfl rfl Try.func84 (by kernel_rfl) rfl #[] rfl (by (try simp only [List.map_toArray, List.map_cons, List.map_nil]); first | done | rfl | (simp only [List.length_drop, List.length_take]; rfl)) ?_; (with_reducible refine (word_bits_uint8.calls  t118 _ A3.out).mono ?_); rintro e w' ⟨rfl, ⟨nd, rfl⟩⟩; refine ⟨_, rfl, ?_⟩))
      go_ret
      exact ⟨by first | rfl | (simp; done) | (simp only [← hji5, ← hji7] <;> (first | rfl | simp)) | (simp [*]; done), by repeat (first | exact Drawn0.refl _ | apply Drawn0.step)⟩
    · rw [if_neg c6] at H
      exact absurd H (by simp)

/-! ### word_sar_uint16_int16: function 81 -/
def word_sar_uint16_int16.f (a0 : Int) (a1 : Int) : Option (Int) := (word_bits_uint16.f).bind fun t119 => (if t119 = 0 then (none) else (if 0 ≤ (Int.tmod a1 t119) then (some (IntKind.u16.wrap (shr .i16 (IntKind.i16.wrap (a0)) (Int.tmod a1 t119)))) else (none)))
set_option maxHeartbeats 8000000 in
set_option maxRecDepth 100000 in
theorem word_sar_uint16_int16.calls (a0 : Int) (a1 : Int) (r : Int) (w : World) (h : word_sar_uint16_int16.f a0 a1 = some r) :
    Calls Try.prog 81 #[.int .u16 a0, .int .u64 a1] w fun e w' => e = .returned (.int .u16 r) ∧ Drawn0 w w' := by
  have H : ((word_bits_uint16.f).bind fun t119 => (if t119 = 0 then (none) else (if 0 ≤ (Int.tmod a1 t119) then (some (IntKind.u16.wrap (shr .i16 (IntKind.i16.wrap (a0)) (Int.tmod a1 t119)))) else (none)))) = some r := h
  clear h
  replace H := Option.bind_eq_some_iff.mp H
  obtain ⟨t119, A30, H⟩ := H
  replace H : (if t119 = 0 then (none) else (if 0 ≤ (Int.tmod a1 t119) then (some (IntKind.u16.wrap (shr .i16 (IntKind.i16.wrap (a0)) (Int.tmod a1 t119)))) else (none))) = some r := H
  have A3 := Aside0.mk A30
  clear A30
  by_cases c4 : t119 = 0
  · rw [if_pos c4] at H
    exact absurd H (by simp)
  · rw [if_neg c4] at H
    have c4b0 : (t119 == 0) = false := beq_eq_false_iff_ne.mpr c4
    have c4b1 : (t119 != 0) = true := bne_iff_ne.mpr c4
    obtain ⟨ji5, hji5⟩ : ∃ j_ : Int, (Int.tmod a1 t119) = j_ := ⟨_, rfl⟩
    replace H : (if 0 ≤ (ji5) then (some (IntKind.u16.wrap (shr .i16 (IntKind.i16.wrap (a0)) (ji5)))) else (none)) = some r := by first | (rw [hji5] at H; exact H) | (simp only [hji5] at H ⊢; exact H)
    (try rw [hji5] at A3)
    by_cases c6 : 0 ≤ (ji5)
    · rw [if_pos c6] at H
      have c6b0 := eq_true c6
      have c6b1 : decide (0 ≤ (ji5)) = true := decide_eq_true c6
      clear c6
      obtain ⟨ji7, hji7⟩ : ∃ j_ : Int, (shr .i16 (IntKind.i16.wrap (a0)) (ji5)) = j_ := ⟨_, rfl⟩
      replace H : (some (IntKind.u16.wrap (ji7))) = some r := by first | (rw [hji7] at H; exact H) | (simp only [hji7] at H ⊢; exact H)
      (try rw [hji7] at A3)
      have hji7_ : ((IntKind.i16.wrap (a0)) / 2 ^ min (ji5).toNat 16) = ji7 := hji7
      have hji7z : (ji5) ≤ 16 → ((IntKind.i16.wrap (a0)) / 2 ^ (ji5).toNat) = ji7 := shr_small hji7
      obtain rfl := Option.some.inj H
      go_enter Try.func81, Try.ntmps81
      go_wp2_with (first | ((with_reducible refine gate_callee (f := 85) rfl ?_); refine goesL_ (some 8) rfl rfl Try.func85 (by kernel_rfl) rfl #[] rfl (by (try simp only [List.map_toArray, List.map_cons, List.map_nil]); first | done | rfl | (simp only [List.length_drop, List.length_take]; rfl)) ?_; (with_reducible refine (word_bits_uint16.calls  t119 _ A3.out).mono ?_); rintro e w' ⟨rfl, ⟨nd, rfl⟩⟩; refine ⟨_, rfl, ?_⟩))
      go_ret
      exact ⟨by first | rfl | (simp; done) | (simp only [← hji5, ← hji7] <;> (first | rfl | simp)) | (simp [*]; done), by repeat (first | exact Drawn0.refl _ | apply Drawn0.step)⟩
    · rw [if_neg c6] at H
      exact absurd H (by simp)

/-! ### word_sar_uint32_int32: function 82 -/
def word_sar_uint32_int32.f (a0 : Int) (a1 : Int) : Option (Int) := (word_bits_uint32.f).bind fun t120 => (if t120 = 0 then (none) else (if 0 ≤ (Int.tmod a1 t120) then (some ((shr .i32 (wrap32 (a0)) (Int.tmod a1 t120)) % 4294967296)) else (none)))
set_option maxHeartbeats 8000000 in
set_option maxRecDepth 100000 in
theorem word_sar_uint32_int32.calls (a0 : Int) (a1 : Int) (r : Int) (w : World) (h : word_sar_uint32_int32.f a0 a1 = some r) :
    Calls Try.prog 82 #[.int .u32 a0, .int .u64 a1] w fun e w' => e = .returned (.int .u32 r) ∧ Drawn0 w w' := by
  have H : ((word_bits_uint32.f).bind fun t120 => (if t120 = 0 then (none) else (if 0 ≤ (Int.tmod a1 t120) then (some ((shr .i32 (wrap32 (a0)) (Int.tmod a1 t120)) % 4294967296)) else (none)))) = some r := h
  clear h
  replace H := Option.bind_eq_some_iff.mp H
  obtain ⟨t120, A30, H⟩ := H
  replace H : (if t120 = 0 then (none) else (if 0 ≤ (Int.tmod a1 t120) then (some ((shr .i32 (wrap32 (a0)) (Int.tmod a1 t120)) % 4294967296)) else (none))) = some r := H
  have A3 := Aside0.mk A30
  clear A30
  by_cases c4 : t120 = 0
  · rw [if_pos c4] at H
    exact absurd H (by simp)
  · rw [if_neg c4] at H
    have c4b0 : (t120 == 0) = false := beq_eq_false_iff_ne.mpr c4
    have c4b1 : (t120 != 0) = true := bne_iff_ne.mpr c4
    obtain ⟨ji5, hji5⟩ : ∃ j_ : Int, (Int.tmod a1 t120) = j_ := ⟨_, rfl⟩
    replace H : (if 0 ≤ (ji5) then (some ((shr .i32 (wrap32 (a0)) (ji5)) % 4294967296)) else (none)) = some r := by first | (rw [hji5] at H; exact H) | (simp only [hji5] at H ⊢; exact H)
    (try rw [hji5] at A3)
    by_cases c6 : 0 ≤ (ji5)
    · rw [if_pos c6] at H
      have c6b0 := eq_true c6
      have c6b1 : decide (0 ≤ (ji5)) = true := decide_eq_true c6
      clear c6
      obtain ⟨ji7, hji7⟩ : ∃ j_ : Int, (shr .i32 (wrap32 (a0)) (ji5)) = j_ := ⟨_, rfl⟩
      replace H : (some ((ji7) % 4294967296)) = some r := by first | (rw [hji7] at H; exact H) | (simp only [hji7] at H ⊢; exact H)
      (try rw [hji7] at A3)
      have hji7_ : ((wrap32 (a0)) / 2 ^ min (ji5).toNat 32) = ji7 := hji7
      have hji7z : (ji5) ≤ 32 → ((wrap32 (a0)) / 2 ^ (ji5).toNat) = ji7 := shr_small hji7
      obtain rfl := Option.some.inj H
      go_enter Try.func82, Try.ntmps82
      go_wp2_with (first | ((with_reducible refine gate_callee (f := 86) rfl ?_); refine goesL_ (some 8) rfl rfl Try.func86 (by kernel_rfl) rfl #[] rfl (by (try simp only [List.map_toArray, List.map_cons, List.map_nil]); first | done | rfl | (simp only [List.length_drop, List.length_take]; rfl)) ?_; (with_reducible refine (word_bits_uint32.calls  t120 _ A3.out).mono ?_); rintro e w' ⟨rfl, ⟨nd, rfl⟩⟩; refine ⟨_, rfl, ?_⟩))
      go_ret
      exact ⟨by first | rfl | (simp; done) | (simp only [← hji5, ← hji7] <;> (first | rfl | simp)) | (simp [*]; done), by repeat (first | exact Drawn0.refl _ | apply Drawn0.step)⟩
    · rw [if_neg c6] at H
      exact absurd H (by simp)

/-! ### word_sar_uint64_int64: function 83 -/
def word_sar_uint64_int64.f (a0 : Int) (a1 : Int) : Option (Int) := (word_bits_uint64.f).bind fun t121 => (if t121 = 0 then (none) else (if 0 ≤ (Int.tmod a1 t121) then (some (IntKind.u64.wrap (shr .i64 (wrap64 (a0)) (Int.tmod a1 t121)))) else (none)))
set_option maxHeartbeats 8000000 in
set_option maxRecDepth 100000 in
theorem word_sar_uint64_int64.calls (a0 : Int) (a1 : Int) (r : Int) (w : World) (h : word_sar_uint64_int64.f a0 a1 = some r) :
    Calls Try.prog 83 #[.int .u64 a0, .int .u64 a1] w fun e w' => e = .returned (.int .u64 r) ∧ Drawn0 w w' := by
  have H : ((word_bits_uint64.f).bind fun t121 => (if t121 = 0 then (none) else (if 0 ≤ (Int.tmod a1 t121) then (some (IntKind.u64.wrap (shr .i64 (wrap64 (a0)) (Int.tmod a1 t121)))) else (none)))) = some r := h
  clear h
  replace H := Option.bind_eq_some_iff.mp H
  obtain ⟨t121, A30, H⟩ := H
  replace H : (if t121 = 0 then (none) else (if 0 ≤ (Int.tmod a1 t121) then (some (IntKind.u64.wrap (shr .i64 (wrap64 (a0)) (Int.tmod a1 t121)))) else (none))) = some r := H
  have A3 := Aside0.mk A30
  clear A30
  by_cases c4 : t121 = 0
  · rw [if_pos c4] at H
    exact absurd H (by simp)
  · rw [if_neg c4] at H
    have c4b0 : (t121 == 0) = false := beq_eq_false_iff_ne.mpr c4
    have c4b1 : (t121 != 0) = true := bne_iff_ne.mpr c4
    obtain ⟨ji5, hji5⟩ : ∃ j_ : Int, (Int.tmod a1 t121) = j_ := ⟨_, rfl⟩
    replace H : (if 0 ≤ (ji5) then (some (IntKind.u64.wrap (shr .i64 (wrap64 (a0)) (ji5)))) else (none)) = some r := by first | (rw [hji5] at H; exact H) | (simp only [hji5] at H ⊢; exact H)
    (try rw [hji5] at A3)
    by_cases c6 : 0 ≤ (ji5)
    · rw [if_pos c6] at H
      have c6b0 := eq_true c6
      have c6b1 : decide (0 ≤ (ji5)) = true := decide_eq_true c6
      clear c6
      obtain ⟨ji7, hji7⟩ : ∃ j_ : Int, (shr .i64 (wrap64 (a0)) (ji5)) = j_ := ⟨_, rfl⟩
      replace H : (some (IntKind.u64.wrap (ji7))) = some r := by first | (rw [hji7] at H; exact H) | (simp only [hji7] at H ⊢; exact H)
      (try rw [hji7] at A3)
      have hji7_ : ((wrap64 (a0)) / 2 ^ min (ji5).toNat 64) = ji7 := hji7
      have hji7z : (ji5) ≤ 64 → ((wrap64 (a0)) / 2 ^ (ji5).toNat) = ji7 := shr_small hji7
      obtain rfl := Option.some.inj H
      go_enter Try.func83, Try.ntmps83
      go_wp2_with (first | ((with_reducible refine gate_callee (f := 87) rfl ?_); refine goesL_ (some 8) rfl rfl Try.func87 (by kernel_rfl) rfl #[] rfl (by (try simp only [List.map_toArray, List.map_cons, List.map_nil]); first | done | rfl | (simp only [List.length_drop, List.length_take]; rfl)) ?_; (with_reducible refine (word_bits_uint64.calls  t121 _ A3.out).mono ?_); rintro e w' ⟨rfl, ⟨nd, rfl⟩⟩; refine ⟨_, rfl, ?_⟩))
      go_ret
      exact ⟨by first | rfl | (simp; done) | (simp only [← hji5, ← hji7] <;> (first | rfl | simp)) | (simp [*]; done), by repeat (first | exact Drawn0.refl _ | apply Drawn0.step)⟩
    · rw [if_neg c6] at H
      exact absurd H (by simp)

/-! ### word_Sar: function 43 -/
def word_Sar.f (a0 : Int) (a1 : Int) (a2 : Int) : Option (Int) := if a2 = 8 then ((word_sar_uint8_int8.f ((a0) % 256) a1).bind fun t_ => some (IntKind.u64.wrap t_)) else if a2 = 16 then ((word_sar_uint16_int16.f (IntKind.u16.wrap (a0)) a1).bind fun t_ => some (IntKind.u64.wrap t_)) else if a2 = 32 then ((word_sar_uint32_int32.f ((a0) % 4294967296) a1).bind fun t_ => some (IntKind.u64.wrap t_)) else word_sar_uint64_int64.f a0 a1
set_option maxHeartbeats 8000000 in
set_option maxRecDepth 100000 in
theorem word_Sar.calls (a0 : Int) (a1 : Int) (a2 : Int) (r : Int) (w : World) (h : word_Sar.f a0 a1 a2 = some r) :
    Calls Try.prog 43 #[.int .u64 a0, .int .u64 a1, .int .i64 a2] w fun e w' => e = .returned (.int .u64 r) ∧ Drawn0 w w' := by
  unfold word_Sar.f at h
  by_cases c8 : a2 = 8
  · rw [if_pos c8] at h
    have c8b : (a2 == 8) = true := beq_iff_eq.mpr c8
    clear c8
    obtain ⟨t_, ht, h⟩ := Option.bind_eq_some_iff.mp h
    obtain rfl := Option.some.inj h
    have ht' := Aside0.mk ht
    clear h ht
    go_enter Try.func43, Try.ntmps43
    go_wp2_with (first | (go_at_call 47; go_in) | (go_at_call 80; refine (word_sar_uint8_int8.calls _ _ _ _ ht'.out).mono ?_; rintro e w' ⟨rfl, ⟨nd, rfl⟩⟩))
    go_ret
    exact ⟨by first | rfl | (simp; done) | (simp [*]; done), by repeat (first | exact Drawn0.refl _ | apply Drawn0.step)⟩
  · rw [if_neg c8] at h
    have c8b : (a2 == 8) = false := beq_eq_false_iff_ne.mpr c8
    clear c8
    by_cases c16 : a2 = 16
    · rw [if_pos c16] at h
      have c16b : (a2 == 16) = true := beq_iff_eq.mpr c16
      clear c16
      obtain ⟨t_, ht, h⟩ := Option.bind_eq_some_iff.mp h
      obtain rfl := Option.some.inj h
      have ht' := Aside0.mk ht
      clear h ht
      go_enter Try.func43, Try.ntmps43
      go_wp2_with (first | (go_at_call 47; go_in) | (go_at_call 81; refine (word_sar_uint16_int16.calls _ _ _ _ ht'.out).mono ?_; rintro e w' ⟨rfl, ⟨nd, rfl⟩⟩))
      go_ret
      exact ⟨by first | rfl | (simp; done) | (simp [*]; done), by repeat (first | exact Drawn0.refl _ | apply Drawn0.step)⟩
    · rw [if_neg c16] at h
      have c16b : (a2 == 16) = false := beq_eq_false_iff_ne.mpr c16
      clear c16
      by_cases c32 : a2 = 32
      · rw [if_pos c32] at h
        have c32b : (a2 == 32) = true := beq_iff_eq.mpr c32
        clear c32
        obtain ⟨t_, ht, h⟩ := Option.bind_eq_some_iff.mp h
        obtain rfl := Option.some.inj h
        have ht' := Aside0.mk ht
        clear h ht
        go_enter Try.func43, Try.ntmps43
        go_wp2_with (first | (go_at_call 47; go_in) | (go_at_call 82; refine (word_sar_uint32_int32.calls _ _ _ _ ht'.out).mono ?_; rintro e w' ⟨rfl, ⟨nd, rfl⟩⟩))
        go_ret
        exact ⟨by first | rfl | (simp; done) | (simp [*]; done), by repeat (first | exact Drawn0.refl _ | apply Drawn0.step)⟩
      · rw [if_neg c32] at h
        have c32b : (a2 == 32) = false := beq_eq_false_iff_ne.mpr c32
        clear c32
        have ht' := Aside0.mk h
        clear h
        go_enter Try.func43, Try.ntmps43
        go_wp2_with (first | (go_at_call 47; go_in) | (go_at_call 83; refine (word_sar_uint64_int64.calls _ _ _ _ ht'.out).mono ?_; rintro e w' ⟨rfl, ⟨nd, rfl⟩⟩))
        go_ret
        exact ⟨by first | rfl | (simp; done) | (simp [*]; done), by repeat (first | exact Drawn0.refl _ | apply Drawn0.step)⟩

end Go.Proofs.Ytliijfogmendmaa.PW
