-- Printed by this session's own program (wip/tools/myprint.py) over the kit's print; the parts that are marked 'by hand' are this session's.
import Derived.Test.YtliijfogmendmaaPWx0
namespace Go.Proofs.Ytliijfogmendmaa.PW
open Go.RowKit Go.Proofs.YtliijfogmendmaaW.PrintWords Go.Proofs.YtliijfogmendmaaW.PrintLast Go.Proofs.YtliijfogmendmaaW.PrintMore
attribute [local go_sem] max2_int min2_int max_two min_two max_three min_three max_four min_four   -- for this text's walks alone
set_option linter.unusedVariables false
set_option linter.unusedSimpArgs false

/-! ### word_Add: function 12 -/
def word_Add.f (a0 : Int) (a1 : Int) : Option (Int) := some (IntKind.u64.wrap (a0 + a1))
set_option maxHeartbeats 8000000 in
set_option maxRecDepth 100000 in
theorem word_Add.calls (a0 : Int) (a1 : Int) (r : Int) (w : World) (h : word_Add.f a0 a1 = some r) :
    Calls Try.prog 12 #[.int .u64 a0, .int .u64 a1] w fun e w' => e = .returned (.int .u64 r) ∧ Drawn0 w w' := by
  have H : (some (IntKind.u64.wrap (a0 + a1))) = some r := h
  clear h
  obtain rfl := Option.some.inj H
  go_enter Try.func12, Try.ntmps12
  go_wp2
  go_ret
  exact ⟨by first | rfl | (simp; done) | (simp [*]; done), by repeat (first | exact Drawn0.refl _ | apply Drawn0.step)⟩

/-! ### word_Sub: function 13 -/
def word_Sub.f (a0 : Int) (a1 : Int) : Option (Int) := some (IntKind.u64.wrap (a0 - a1))
set_option maxHeartbeats 8000000 in
set_option maxRecDepth 100000 in
theorem word_Sub.calls (a0 : Int) (a1 : Int) (r : Int) (w : World) (h : word_Sub.f a0 a1 = some r) :
    Calls Try.prog 13 #[.int .u64 a0, .int .u64 a1] w fun e w' => e = .returned (.int .u64 r) ∧ Drawn0 w w' := by
  have H : (some (IntKind.u64.wrap (a0 - a1))) = some r := h
  clear h
  obtain rfl := Option.some.inj H
  go_enter Try.func13, Try.ntmps13
  go_wp2
  go_ret
  exact ⟨by first | rfl | (simp; done) | (simp [*]; done), by repeat (first | exact Drawn0.refl _ | apply Drawn0.step)⟩

/-! ### word_Neg: function 14 -/
def word_Neg.f (a0 : Int) : Option (Int) := (word_Sub.f 0 a0).bind fun t101 => (some t101)
set_option maxHeartbeats 8000000 in
set_option maxRecDepth 100000 in
theorem word_Neg.calls (a0 : Int) (r : Int) (w : World) (h : word_Neg.f a0 = some r) :
    Calls Try.prog 14 #[.int .u64 a0] w fun e w' => e = .returned (.int .u64 r) ∧ Drawn0 w w' := by
  have H : ((word_Sub.f 0 a0).bind fun t101 => (some t101)) = some r := h
  clear h
  replace H := Option.bind_eq_some_iff.mp H
  obtain ⟨t101, A20, H⟩ := H
  replace H : (some t101) = some r := H
  have A2 := Aside0.mk A20
  clear A20
  obtain rfl := Option.some.inj H
  go_enter Try.func14, Try.ntmps14
  go_wp2_with (first | ((with_reducible refine gate_callee (f := 13) rfl ?_); refine goesL_ (some 4) rfl rfl Try.func13 (by kernel_rfl) rfl #[.int .u64 0, .int .u64 a0] rfl (by (try simp only [List.map_toArray, List.map_cons, List.map_nil]); first | done | rfl | (simp only [List.length_drop, List.length_take]; rfl)) ?_; (with_reducible refine (word_Sub.calls 0 a0 t101 _ A2.out).mono ?_); rintro e w' ⟨rfl, ⟨nd, rfl⟩⟩; refine ⟨_, rfl, ?_⟩))
  go_ret
  exact ⟨by first | rfl | (simp; done) | (simp [*]; done), by repeat (first | exact Drawn0.refl _ | apply Drawn0.step)⟩

/-! ### word_Mul: function 15 -/
def word_Mul.f (a0 : Int) (a1 : Int) : Option (Int) := some (IntKind.u64.wrap (a0 * a1))
set_option maxHeartbeats 8000000 in
set_option maxRecDepth 100000 in
theorem word_Mul.calls (a0 : Int) (a1 : Int) (r : Int) (w : World) (h : word_Mul.f a0 a1 = some r) :
    Calls Try.prog 15 #[.int .u64 a0, .int .u64 a1] w fun e w' => e = .returned (.int .u64 r) ∧ Drawn0 w w' := by
  have H : (some (IntKind.u64.wrap (a0 * a1))) = some r := h
  clear h
  obtain rfl := Option.some.inj H
  go_enter Try.func15, Try.ntmps15
  go_wp2
  go_ret
  exact ⟨by first | rfl | (simp; done) | (simp [*]; done), by repeat (first | exact Drawn0.refl _ | apply Drawn0.step)⟩

/-! ### word_And: function 17 -/
def word_And.f (a0 : Int) (a1 : Int) : Option (Int) := some (Go.bits .and .u64 a0 a1)
set_option maxHeartbeats 8000000 in
set_option maxRecDepth 100000 in
theorem word_And.calls (a0 : Int) (a1 : Int) (r : Int) (w : World) (h : word_And.f a0 a1 = some r) :
    Calls Try.prog 17 #[.int .u64 a0, .int .u64 a1] w fun e w' => e = .returned (.int .u64 r) ∧ Drawn0 w w' := by
  have H : (some (Go.bits .and .u64 a0 a1)) = some r := h
  clear h
  obtain rfl := Option.some.inj H
  go_enter Try.func17, Try.ntmps17
  go_wp2
  go_ret
  exact ⟨by first | rfl | (simp; done) | (simp [*]; done), by repeat (first | exact Drawn0.refl _ | apply Drawn0.step)⟩

/-! ### word_Or: function 19 -/
def word_Or.f (a0 : Int) (a1 : Int) : Option (Int) := some (Go.bits .or .u64 a0 a1)
set_option maxHeartbeats 8000000 in
set_option maxRecDepth 100000 in
theorem word_Or.calls (a0 : Int) (a1 : Int) (r : Int) (w : World) (h : word_Or.f a0 a1 = some r) :
    Calls Try.prog 19 #[.int .u64 a0, .int .u64 a1] w fun e w' => e = .returned (.int .u64 r) ∧ Drawn0 w w' := by
  have H : (some (Go.bits .or .u64 a0 a1)) = some r := h
  clear h
  obtain rfl := Option.some.inj H
  go_enter Try.func19, Try.ntmps19
  go_wp2
  go_ret
  exact ⟨by first | rfl | (simp; done) | (simp [*]; done), by repeat (first | exact Drawn0.refl _ | apply Drawn0.step)⟩

/-! ### word_Xor: function 20 -/
def word_Xor.f (a0 : Int) (a1 : Int) : Option (Int) := some (Go.bits .xor .u64 a0 a1)
set_option maxHeartbeats 8000000 in
set_option maxRecDepth 100000 in
theorem word_Xor.calls (a0 : Int) (a1 : Int) (r : Int) (w : World) (h : word_Xor.f a0 a1 = some r) :
    Calls Try.prog 20 #[.int .u64 a0, .int .u64 a1] w fun e w' => e = .returned (.int .u64 r) ∧ Drawn0 w w' := by
  have H : (some (Go.bits .xor .u64 a0 a1)) = some r := h
  clear h
  obtain rfl := Option.some.inj H
  go_enter Try.func20, Try.ntmps20
  go_wp2
  go_ret
  exact ⟨by first | rfl | (simp; done) | (simp [*]; done), by repeat (first | exact Drawn0.refl _ | apply Drawn0.step)⟩

-- NOT PRINTED: function 47 (word_shifted)

/-! ### word_bits_uint8: function 84 -/
def ones (b j : Nat) : Int := ((2 ^ (b - j) - 1 : Nat) : Int)
theorem ones_half (b j : Nat) (h : j < b) : ones b j / 2 = ones b (j + 1) := by
  unfold ones
  have e : 2 ^ (b - j) = 2 * 2 ^ (b - (j + 1)) := by rw [← Nat.pow_succ']; congr 1; omega
  have p : 0 < 2 ^ (b - (j + 1)) := Nat.two_pow_pos _
  rw [e]; omega
theorem ones_some (b j : Nat) (h : j < b) : (ones b j != 0) = true := by
  unfold ones
  have e : 2 ^ (b - j) = 2 * 2 ^ (b - (j + 1)) := by rw [← Nat.pow_succ']; congr 1; omega
  have p : 0 < 2 ^ (b - (j + 1)) := Nat.two_pow_pos _
  rw [bne_iff_ne]; omega
theorem ones_none (b : Nat) : (ones b b != 0) = false := by
  unfold ones; simp
theorem ones_at8 : bits .xor .u8 IntKind.u8.max 0 = ones 8 0 := by decide +kernel
theorem ones_at16 : bits .xor .u16 IntKind.u16.max 0 = ones 16 0 := by decide +kernel
theorem ones_at32 : bits .xor .u32 IntKind.u32.max 0 = ones 32 0 := by decide +kernel
theorem ones_at64 : bits .xor .u64 IntKind.u64.max 0 = ones 64 0 := by decide +kernel
def word_bits_uint8.f : Option (Int) := some 8
set_option maxHeartbeats 8000000 in
set_option maxRecDepth 100000 in
theorem word_bits_uint8.calls (r : Int) (w : World) (h : word_bits_uint8.f = some r) :
    Calls Try.prog 84 #[] w fun e w' => e = .returned (.int .u64 r) ∧ Drawn0 w w' := by
  obtain rfl := Option.some.inj h
  clear h
  have hs : IntKind.u8.signed = false := rfl
  go_enter Try.func84, Try.ntmps84
  go_wp2
  go_loop [1, 2] (fun c x => ∃ j : Nat, j ≤ 8 ∧ c = .int .u64 (j : Int) ∧ x = .int .u8 (ones 8 j)) (fun c _ => 8 - (intOf c).toNat)
  case atStart => exact ⟨0, by omega, rfl, congrArg (Value.int .u8) ones_at8⟩
  case round =>
    obtain ⟨j, hj, rfl, rfl⟩ := hrel
    by_cases h8 : j < 8
    · have hx := ones_half 8 j h8
      have hn := ones_some 8 j h8
      go_wp2
      exact ⟨⟨j + 1, h8, by simp, rfl⟩, by simp [intOf]; omega⟩
    · obtain rfl : j = 8 := by omega
      have hn := ones_none 8
      go_wp2
      go_ret
      exact ⟨by simp, by repeat (first | exact Drawn0.refl _ | apply Drawn0.step)⟩

/-! ### word_shl_uint8: function 48 -/
def word_shl_uint8.f (a0 : Int) (a1 : Int) : Option (Int) := (word_bits_uint8.f).bind fun t102 => (if t102 = 0 then (none) else (if 0 ≤ (Int.tmod a1 t102) then (some (shl .u8 a0 (Int.tmod a1 t102))) else (none)))
set_option maxHeartbeats 8000000 in
set_option maxRecDepth 100000 in
theorem word_shl_uint8.calls (a0 : Int) (a1 : Int) (r : Int) (w : World) (h : word_shl_uint8.f a0 a1 = some r) :
    Calls Try.prog 48 #[.int .u8 a0, .int .u64 a1] w fun e w' => e = .returned (.int .u8 r) ∧ Drawn0 w w' := by
  have H : ((word_bits_uint8.f).bind fun t102 => (if t102 = 0 then (none) else (if 0 ≤ (Int.tmod a1 t102) then (some (shl .u8 a0 (Int.tmod a1 t102))) else (none)))) = some r := h
  clear h
  replace H := Option.bind_eq_some_iff.mp H
  obtain ⟨t102, A30, H⟩ := H
  replace H : (if t102 = 0 then (none) else (if 0 ≤ (Int.tmod a1 t102) then (some (shl .u8 a0 (Int.tmod a1 t102))) else (none))) = some r := H
  have A3 := Aside0.mk A30
  clear A30
  by_cases c4 : t102 = 0
  · rw [if_pos c4] at H
    exact absurd H (by simp)
  · rw [if_neg c4] at H
    have c4b0 : (t102 == 0) = false := beq_eq_false_iff_ne.mpr c4
    have c4b1 : (t102 != 0) = true := bne_iff_ne.mpr c4
    obtain ⟨ji5, hji5⟩ : ∃ j_ : Int, (Int.tmod a1 t102) = j_ := ⟨_, rfl⟩
    replace H : (if 0 ≤ (ji5) then (some (shl .u8 a0 (ji5))) else (none)) = some r := by first | (rw [hji5] at H; exact H) | (simp only [hji5] at H ⊢; exact H)
    (try rw [hji5] at A3)
    by_cases c6 : 0 ≤ (ji5)
    · rw [if_pos c6] at H
      have c6b0 := eq_true c6
      have c6b1 : decide (0 ≤ (ji5)) = true := decide_eq_true c6
      clear c6
      obtain ⟨ji7, hji7⟩ : ∃ j_ : Int, (shl .u8 a0 (ji5)) = j_ := ⟨_, rfl⟩
      replace H : (some ji7) = some r := by first | (rw [hji7] at H; exact H) | (simp only [hji7] at H ⊢; exact H)
      (try rw [hji7] at A3)
      have hji7_ : (IntKind.u8.wrap (a0 * 2 ^ min (ji5).toNat 8)) = ji7 := hji7
      have hji7z : (ji5) ≤ 8 → (IntKind.u8.wrap (a0 * 2 ^ (ji5).toNat)) = ji7 := shl_small hji7
      obtain rfl := Option.some.inj H
      go_enter Try.func48, Try.ntmps48
      go_wp2_with (first | ((with_reducible refine gate_callee (f := 84) rfl ?_); refine goesL_ (some 7) rfl rfl Try.func84 (by kernel_rfl) rfl #[] rfl (by (try simp only [List.map_toArray, List.map_cons, List.map_nil]); first | done | rfl | (simp only [List.length_drop, List.length_take]; rfl)) ?_; (with_reducible refine (word_bits_uint8.calls  t102 _ A3.out).mono ?_); rintro e w' ⟨rfl, ⟨nd, rfl⟩⟩; refine ⟨_, rfl, ?_⟩))
      go_ret
      exact ⟨by first | rfl | (simp; done) | (simp only [← hji5, ← hji7] <;> (first | rfl | simp)) | (simp [*]; done), by repeat (first | exact Drawn0.refl _ | apply Drawn0.step)⟩
    · rw [if_neg c6] at H
      exact absurd H (by simp)

/-! ### word_bits_uint16: function 85 -/
def word_bits_uint16.f : Option (Int) := some 16
set_option maxHeartbeats 8000000 in
set_option maxRecDepth 100000 in
theorem word_bits_uint16.calls (r : Int) (w : World) (h : word_bits_uint16.f = some r) :
    Calls Try.prog 85 #[] w fun e w' => e = .returned (.int .u64 r) ∧ Drawn0 w w' := by
  obtain rfl := Option.some.inj h
  clear h
  have hs : IntKind.u16.signed = false := rfl
  go_enter Try.func85, Try.ntmps85
  go_wp2
  go_loop [1, 2] (fun c x => ∃ j : Nat, j ≤ 16 ∧ c = .int .u64 (j : Int) ∧ x = .int .u16 (ones 16 j)) (fun c _ => 16 - (intOf c).toNat)
  case atStart => exact ⟨0, by omega, rfl, congrArg (Value.int .u16) ones_at16⟩
  case round =>
    obtain ⟨j, hj, rfl, rfl⟩ := hrel
    by_cases h8 : j < 16
    · have hx := ones_half 16 j h8
      have hn := ones_some 16 j h8
      go_wp2
      exact ⟨⟨j + 1, h8, by simp, rfl⟩, by simp [intOf]; omega⟩
    · obtain rfl : j = 16 := by omega
      have hn := ones_none 16
      go_wp2
      go_ret
      exact ⟨by simp, by repeat (first | exact Drawn0.refl _ | apply Drawn0.step)⟩

/-! ### word_shl_uint16: function 49 -/
def word_shl_uint16.f (a0 : Int) (a1 : Int) : Option (Int) := (word_bits_uint16.f).bind fun t103 => (if t103 = 0 then (none) else (if 0 ≤ (Int.tmod a1 t103) then (some (shl .u16 a0 (Int.tmod a1 t103))) else (none)))
set_option maxHeartbeats 8000000 in
set_option maxRecDepth 100000 in
theorem word_shl_uint16.calls (a0 : Int) (a1 : Int) (r : Int) (w : World) (h : word_shl_uint16.f a0 a1 = some r) :
    Calls Try.prog 49 #[.int .u16 a0, .int .u64 a1] w fun e w' => e = .returned (.int .u16 r) ∧ Drawn0 w w' := by
  have H : ((word_bits_uint16.f).bind fun t103 => (if t103 = 0 then (none) else (if 0 ≤ (Int.tmod a1 t103) then (some (shl .u16 a0 (Int.tmod a1 t103))) else (none)))) = some r := h
  clear h
  replace H := Option.bind_eq_some_iff.mp H
  obtain ⟨t103, A30, H⟩ := H
  replace H : (if t103 = 0 then (none) else (if 0 ≤ (Int.tmod a1 t103) then (some (shl .u16 a0 (Int.tmod a1 t103))) else (none))) = some r := H
  have A3 := Aside0.mk A30
  clear A30
  by_cases c4 : t103 = 0
  · rw [if_pos c4] at H
    exact absurd H (by simp)
  · rw [if_neg c4] at H
    have c4b0 : (t103 == 0) = false := beq_eq_false_iff_ne.mpr c4
    have c4b1 : (t103 != 0) = true := bne_iff_ne.mpr c4
    obtain ⟨ji5, hji5⟩ : ∃ j_ : Int, (Int.tmod a1 t103) = j_ := ⟨_, rfl⟩
    replace H : (if 0 ≤ (ji5) then (some (shl .u16 a0 (ji5))) else (none)) = some r := by first | (rw [hji5] at H; exact H) | (simp only [hji5] at H ⊢; exact H)
    (try rw [hji5] at A3)
    by_cases c6 : 0 ≤ (ji5)
    · rw [if_pos c6] at H
      have c6b0 := eq_true c6
      have c6b1 : decide (0 ≤ (ji5)) = true := decide_eq_true c6
      clear c6
      obtain ⟨ji7, hji7⟩ : ∃ j_ : Int, (shl .u16 a0 (ji5)) = j_ := ⟨_, rfl⟩
      replace H : (some ji7) = some r := by first | (rw [hji7] at H; exact H) | (simp only [hji7] at H ⊢; exact H)
      (try rw [hji7] at A3)
      have hji7_ : (IntKind.u16.wrap (a0 * 2 ^ min (ji5).toNat 16)) = ji7 := hji7
      have hji7z : (ji5) ≤ 16 → (IntKind.u16.wrap (a0 * 2 ^ (ji5).toNat)) = ji7 := shl_small hji7
      obtain rfl := Option.some.inj H
      go_enter Try.func49, Try.ntmps49
      go_wp2_with (first | ((with_reducible refine gate_callee (f := 85) rfl ?_); refine goesL_ (some 7) rfl rfl Try.func85 (by kernel_rfl) rfl #[] rfl (by (try simp only [List.map_toArray, List.map_cons, List.map_nil]); first | done | rfl | (simp only [List.length_drop, List.length_take]; rfl)) ?_; (with_reducible refine (word_bits_uint16.calls  t103 _ A3.out).mono ?_); rintro e w' ⟨rfl, ⟨nd, rfl⟩⟩; refine ⟨_, rfl, ?_⟩))
      go_ret
      exact ⟨by first | rfl | (simp; done) | (simp only [← hji5, ← hji7] <;> (first | rfl | simp)) | (simp [*]; done), by repeat (first | exact Drawn0.refl _ | apply Drawn0.step)⟩
    · rw [if_neg c6] at H
      exact absurd H (by simp)

/-! ### word_bits_uint32: function 86 -/
def word_bits_uint32.f : Option (Int) := some 32
set_option maxHeartbeats 8000000 in
set_option maxRecDepth 100000 in
theorem word_bits_uint32.calls (r : Int) (w : World) (h : word_bits_uint32.f = some r) :
    Calls Try.prog 86 #[] w fun e w' => e = .returned (.int .u64 r) ∧ Drawn0 w w' := by
  obtain rfl := Option.some.inj h
  clear h
  have hs : IntKind.u32.signed = false := rfl
  go_enter Try.func86, Try.ntmps86
  go_wp2
  go_loop [1, 2] (fun c x => ∃ j : Nat, j ≤ 32 ∧ c = .int .u64 (j : Int) ∧ x = .int .u32 (ones 32 j)) (fun c _ => 32 - (intOf c).toNat)
  case atStart => exact ⟨0, by omega, rfl, congrArg (Value.int .u32) ones_at32⟩
  case round =>
    obtain ⟨j, hj, rfl, rfl⟩ := hrel
    by_cases h8 : j < 32
    · have hx := ones_half 32 j h8
      have hn := ones_some 32 j h8
      go_wp2
      exact ⟨⟨j + 1, h8, by simp, rfl⟩, by simp [intOf]; omega⟩
    · obtain rfl : j = 32 := by omega
      have hn := ones_none 32
      go_wp2
      go_ret
      exact ⟨by simp, by repeat (first | exact Drawn0.refl _ | apply Drawn0.step)⟩

/-! ### word_shl_uint32: function 50 -/
def word_shl_uint32.f (a0 : Int) (a1 : Int) : Option (Int) := (word_bits_uint32.f).bind fun t104 => (if t104 = 0 then (none) else (if 0 ≤ (Int.tmod a1 t104) then (some (shl .u32 a0 (Int.tmod a1 t104))) else (none)))
set_option maxHeartbeats 8000000 in
set_option maxRecDepth 100000 in
theorem word_shl_uint32.calls (a0 : Int) (a1 : Int) (r : Int) (w : World) (h : word_shl_uint32.f a0 a1 = some r) :
    Calls Try.prog 50 #[.int .u32 a0, .int .u64 a1] w fun e w' => e = .returned (.int .u32 r) ∧ Drawn0 w w' := by
  have H : ((word_bits_uint32.f).bind fun t104 => (if t104 = 0 then (none) else (if 0 ≤ (Int.tmod a1 t104) then (some (shl .u32 a0 (Int.tmod a1 t104))) else (none)))) = some r := h
  clear h
  replace H := Option.bind_eq_some_iff.mp H
  obtain ⟨t104, A30, H⟩ := H
  replace H : (if t104 = 0 then (none) else (if 0 ≤ (Int.tmod a1 t104) then (some (shl .u32 a0 (Int.tmod a1 t104))) else (none))) = some r := H
  have A3 := Aside0.mk A30
  clear A30
  by_cases c4 : t104 = 0
  · rw [if_pos c4] at H
    exact absurd H (by simp)
  · rw [if_neg c4] at H
    have c4b0 : (t104 == 0) = false := beq_eq_false_iff_ne.mpr c4
    have c4b1 : (t104 != 0) = true := bne_iff_ne.mpr c4
    obtain ⟨ji5, hji5⟩ : ∃ j_ : Int, (Int.tmod a1 t104) = j_ := ⟨_, rfl⟩
    replace H : (if 0 ≤ (ji5) then (some (shl .u32 a0 (ji5))) else (none)) = some r := by first | (rw [hji5] at H; exact H) | (simp only [hji5] at H ⊢; exact H)
    (try rw [hji5] at A3)
    by_cases c6 : 0 ≤ (ji5)
    · rw [if_pos c6] at H
      have c6b0 := eq_true c6
      have c6b1 : decide (0 ≤ (ji5)) = true := decide_eq_true c6
      clear c6
      obtain ⟨ji7, hji7⟩ : ∃ j_ : Int, (shl .u32 a0 (ji5)) = j_ := ⟨_, rfl⟩
      replace H : (some ji7) = some r := by first | (rw [hji7] at H; exact H) | (simp only [hji7] at H ⊢; exact H)
      (try rw [hji7] at A3)
      have hji7_ : (IntKind.u32.wrap (a0 * 2 ^ min (ji5).toNat 32)) = ji7 := hji7
      have hji7z : (ji5) ≤ 32 → (IntKind.u32.wrap (a0 * 2 ^ (ji5).toNat)) = ji7 := shl_small hji7
      obtain rfl := Option.some.inj H
      go_enter Try.func50, Try.ntmps50
      go_wp2_with (first | ((with_reducible refine gate_callee (f := 86) rfl ?_); refine goesL_ (some 7) rfl rfl Try.func86 (by kernel_rfl) rfl #[] rfl (by (try simp only [List.map_toArray, List.map_cons, List.map_nil]); first | done | rfl | (simp only [List.length_drop, List.length_take]; rfl)) ?_; (with_reducible refine (word_bits_uint32.calls  t104 _ A3.out).mono ?_); rintro e w' ⟨rfl, ⟨nd, rfl⟩⟩; refine ⟨_, rfl, ?_⟩))
      go_ret
      exact ⟨by first | rfl | (simp; done) | (simp only [← hji5, ← hji7] <;> (first | rfl | simp)) | (simp [*]; done), by repeat (first | exact Drawn0.refl _ | apply Drawn0.step)⟩
    · rw [if_neg c6] at H
      exact absurd H (by simp)

/-! ### word_bits_uint64: function 87 -/
def word_bits_uint64.f : Option (Int) := some 64
set_option maxHeartbeats 8000000 in
set_option maxRecDepth 100000 in
theorem word_bits_uint64.calls (r : Int) (w : World) (h : word_bits_uint64.f = some r) :
    Calls Try.prog 87 #[] w fun e w' => e = .returned (.int .u64 r) ∧ Drawn0 w w' := by
  obtain rfl := Option.some.inj h
  clear h
  have hs : IntKind.u64.signed = false := rfl
  go_enter Try.func87, Try.ntmps87
  go_wp2
  go_loop [1, 2] (fun c x => ∃ j : Nat, j ≤ 64 ∧ c = .int .u64 (j : Int) ∧ x = .int .u64 (ones 64 j)) (fun c _ => 64 - (intOf c).toNat)
  case atStart => exact ⟨0, by omega, rfl, congrArg (Value.int .u64) ones_at64⟩
  case round =>
    obtain ⟨j, hj, rfl, rfl⟩ := hrel
    by_cases h8 : j < 64
    · have hx := ones_half 64 j h8
      have hn := ones_some 64 j h8
      go_wp2
      exact ⟨⟨j + 1, h8, by simp, rfl⟩, by simp [intOf]; omega⟩
    · obtain rfl : j = 64 := by omega
      have hn := ones_none 64
      go_wp2
      go_ret
      exact ⟨by simp, by repeat (first | exact Drawn0.refl _ | apply Drawn0.step)⟩

/-! ### word_shl_uint64: function 51 -/
def word_shl_uint64.f (a0 : Int) (a1 : Int) : Option (Int) := (word_bits_uint64.f).bind fun t105 => (if t105 = 0 then (none) else (if 0 ≤ (Int.tmod a1 t105) then (some (shl .u64 a0 (Int.tmod a1 t105))) else (none)))
set_option maxHeartbeats 8000000 in
set_option maxRecDepth 100000 in
theorem word_shl_uint64.calls (a0 : Int) (a1 : Int) (r : Int) (w : World) (h : word_shl_uint64.f a0 a1 = some r) :
    Calls Try.prog 51 #[.int .u64 a0, .int .u64 a1] w fun e w' => e = .returned (.int .u64 r) ∧ Drawn0 w w' := by
  have H : ((word_bits_uint64.f).bind fun t105 => (if t105 = 0 then (none) else (if 0 ≤ (Int.tmod a1 t105) then (some (shl .u64 a0 (Int.tmod a1 t105))) else (none)))) = some r := h
  clear h
  replace H := Option.bind_eq_some_iff.mp H
  obtain ⟨t105, A30, H⟩ := H
  replace H : (if t105 = 0 then (none) else (if 0 ≤ (Int.tmod a1 t105) then (some (shl .u64 a0 (Int.tmod a1 t105))) else (none))) = some r := H
  have A3 := Aside0.mk A30
  clear A30
  by_cases c4 : t105 = 0
  · rw [if_pos c4] at H
    exact absurd H (by simp)
  · rw [if_neg c4] at H
    have c4b0 : (t105 == 0) = false := beq_eq_false_iff_ne.mpr c4
    have c4b1 : (t105 != 0) = true := bne_iff_ne.mpr c4
    obtain ⟨ji5, hji5⟩ : ∃ j_ : Int, (Int.tmod a1 t105) = j_ := ⟨_, rfl⟩
    replace H : (if 0 ≤ (ji5) then (some (shl .u64 a0 (ji5))) else (none)) = some r := by first | (rw [hji5] at H; exact H) | (simp only [hji5] at H ⊢; exact H)
    (try rw [hji5] at A3)
    by_cases c6 : 0 ≤ (ji5)
    · rw [if_pos c6] at H
      have c6b0 := eq_true c6
      have c6b1 : decide (0 ≤ (ji5)) = true := decide_eq_true c6
      clear c6
      obtain ⟨ji7, hji7⟩ : ∃ j_ : Int, (shl .u64 a0 (ji5)) = j_ := ⟨_, rfl⟩
      replace H : (some ji7) = some r := by first | (rw [hji7] at H; exact H) | (simp only [hji7] at H ⊢; exact H)
      (try rw [hji7] at A3)
      have hji7_ : (IntKind.u64.wrap (a0 * 2 ^ min (ji5).toNat 64)) = ji7 := hji7
      have hji7z : (ji5) ≤ 64 → (IntKind.u64.wrap (a0 * 2 ^ (ji5).toNat)) = ji7 := shl_small hji7
      obtain rfl := Option.some.inj H
      go_enter Try.func51, Try.ntmps51
      go_wp2_with (first | ((with_reducible refine gate_callee (f := 87) rfl ?_); refine goesL_ (some 7) rfl rfl Try.func87 (by kernel_rfl) rfl #[] rfl (by (try simp only [List.map_toArray, List.map_cons, List.map_nil]); first | done | rfl | (simp only [List.length_drop, List.length_take]; rfl)) ?_; (with_reducible refine (word_bits_uint64.calls  t105 _ A3.out).mono ?_); rintro e w' ⟨rfl, ⟨nd, rfl⟩⟩; refine ⟨_, rfl, ?_⟩))
      go_ret
      exact ⟨by first | rfl | (simp; done) | (simp only [← hji5, ← hji7] <;> (first | rfl | simp)) | (simp [*]; done), by repeat (first | exact Drawn0.refl _ | apply Drawn0.step)⟩
    · rw [if_neg c6] at H
      exact absurd H (by simp)

/-! ### word_Narrow: function 21 -/
def word_Narrow.f (a0 : Int) (a1 : Int) : Option (Int) := if a1 = 8 then ((word_shl_uint8.f ((a0) % 256) 0).bind fun t_ => some (IntKind.u64.wrap t_)) else if a1 = 16 then ((word_shl_uint16.f (IntKind.u16.wrap (a0)) 0).bind fun t_ => some (IntKind.u64.wrap t_)) else if a1 = 32 then ((word_shl_uint32.f ((a0) % 4294967296) 0).bind fun t_ => some (IntKind.u64.wrap t_)) else word_shl_uint64.f a0 0
set_option maxHeartbeats 8000000 in
set_option maxRecDepth 100000 in
theorem word_Narrow.calls (a0 : Int) (a1 : Int) (r : Int) (w : World) (h : word_Narrow.f a0 a1 = some r) :
    Calls Try.prog 21 #[.int .u64 a0, .int .i64 a1] w fun e w' => e = .returned (.int .u64 r) ∧ Drawn0 w w' := by
  unfold word_Narrow.f at h
  by_cases c8 : a1 = 8
  · rw [if_pos c8] at h
    have c8b : (a1 == 8) = true := beq_iff_eq.mpr c8
    clear c8
    obtain ⟨t_, ht, h⟩ := Option.bind_eq_some_iff.mp h
    obtain rfl := Option.some.inj h
    have ht' := Aside0.mk ht
    clear h ht
    go_enter Try.func21, Try.ntmps21
    go_wp2_with (first | (go_at_call 47; go_in) | (go_at_call 48; refine (word_shl_uint8.calls _ _ _ _ ht'.out).mono ?_; rintro e w' ⟨rfl, ⟨nd, rfl⟩⟩))
    go_ret
    exact ⟨by first | rfl | (simp; done) | (simp [*]; done), by repeat (first | exact Drawn0.refl _ | apply Drawn0.step)⟩
  · rw [if_neg c8] at h
    have c8b : (a1 == 8) = false := beq_eq_false_iff_ne.mpr c8
    clear c8
    by_cases c16 : a1 = 16
    · rw [if_pos c16] at h
      have c16b : (a1 == 16) = true := beq_iff_eq.mpr c16
      clear c16
      obtain ⟨t_, ht, h⟩ := Option.bind_eq_some_iff.mp h
      obtain rfl := Option.some.inj h
      have ht' := Aside0.mk ht
      clear h ht
      go_enter Try.func21, Try.ntmps21
      go_wp2_with (first | (go_at_call 47; go_in) | (go_at_call 49; refine (word_shl_uint16.calls _ _ _ _ ht'.out).mono ?_; rintro e w' ⟨rfl, ⟨nd, rfl⟩⟩))
      go_ret
      exact ⟨by first | rfl | (simp; done) | (simp [*]; done), by repeat (first | exact Drawn0.refl _ | apply Drawn0.step)⟩
    · rw [if_neg c16] at h
      have c16b : (a1 == 16) = false := beq_eq_false_iff_ne.mpr c16
      clear c16
      by_cases c32 : a1 = 32
      · rw [if_pos c32] at h
        have c32b : (a1 == 32) = true := beq_iff_eq.mpr c32
        clear c32
        obtain ⟨t_, ht, h⟩ := Option.bind_eq_some_iff.mp h
        obtain rfl := Option.some.inj h
        have ht' := Aside0.mk ht
        clear h ht
        go_enter Try.func21, Try.ntmps21
        go_wp2_with (first | (go_at_call 47; go_in) | (go_at_call 50; refine (word_shl_uint32.calls _ _ _ _ ht'.out).mono ?_; rintro e w' ⟨rfl, ⟨nd, rfl⟩⟩))
        go_ret
        exact ⟨by first | rfl | (simp; done) | (simp [*]; done), by repeat (first | exact Drawn0.refl _ | apply Drawn0.step)⟩
      · rw [if_neg c32] at h
        have c32b : (a1 == 32) = false := beq_eq_false_iff_ne.mpr c32
        clear c32
        have ht' := Aside0.mk h
        clear h
        go_enter Try.func21, Try.ntmps21
        go_wp2_with (first | (go_at_call 47; go_in) | (go_at_call 51; refine (word_shl_uint64.calls _ _ _ _ ht'.out).mono ?_; rintro e w' ⟨rfl, ⟨nd, rfl⟩⟩))
        go_ret
        exact ⟨by first | rfl | (simp; done) | (simp [*]; done), by repeat (first | exact Drawn0.refl _ | apply Drawn0.step)⟩

/-! ### word_Sign: function 23 -/
def word_Sign.f (a0 : Int) (a1 : Int) : Option (Int) := if a1 = 8 then (some (IntKind.u64.wrap (IntKind.i8.wrap (a0)))) else (if a1 = 16 then (some (IntKind.u64.wrap (IntKind.i16.wrap (a0)))) else (if a1 = 32 then (some (IntKind.u64.wrap (wrap32 (a0)))) else (some a0)))
set_option maxHeartbeats 8000000 in
set_option maxRecDepth 100000 in
theorem word_Sign.calls (a0 : Int) (a1 : Int) (r : Int) (w : World) (h : word_Sign.f a0 a1 = some r) :
    Calls Try.prog 23 #[.int .u64 a0, .int .i64 a1] w fun e w' => e = .returned (.int .u64 r) ∧ Drawn0 w w' := by
  have H : (if a1 = 8 then (some (IntKind.u64.wrap (IntKind.i8.wrap (a0)))) else (if a1 = 16 then (some (IntKind.u64.wrap (IntKind.i16.wrap (a0)))) else (if a1 = 32 then (some (IntKind.u64.wrap (wrap32 (a0)))) else (some a0)))) = some r := h
  clear h
  by_cases c3 : a1 = 8
  · rw [if_pos c3] at H
    have c3b0 : (a1 == 8) = true := beq_iff_eq.mpr c3
    have c3b1 : (a1 != 8) = false := bne_eq_false_iff_eq.mpr c3
    clear c3
    obtain rfl := Option.some.inj H
    go_enter Try.func23, Try.ntmps23
    go_wp2
    go_ret
    exact ⟨by first | rfl | (simp; done) | (simp [*]; done), by repeat (first | exact Drawn0.refl _ | apply Drawn0.step)⟩
  · rw [if_neg c3] at H
    have c3b0 : (a1 == 8) = false := beq_eq_false_iff_ne.mpr c3
    have c3b1 : (a1 != 8) = true := bne_iff_ne.mpr c3
    by_cases c4 : a1 = 16
    · rw [if_pos c4] at H
      have c4b0 : (a1 == 16) = true := beq_iff_eq.mpr c4
      have c4b1 : (a1 != 16) = false := bne_eq_false_iff_eq.mpr c4
      clear c4
      obtain rfl := Option.some.inj H
      go_enter Try.func23, Try.ntmps23
      go_wp2
      go_ret
      exact ⟨by first | rfl | (simp; done) | (simp [*]; done), by repeat (first | exact Drawn0.refl _ | apply Drawn0.step)⟩
    · rw [if_neg c4] at H
      have c4b0 : (a1 == 16) = false := beq_eq_false_iff_ne.mpr c4
      have c4b1 : (a1 != 16) = true := bne_iff_ne.mpr c4
      by_cases c5 : a1 = 32
      · rw [if_pos c5] at H
        have c5b0 : (a1 == 32) = true := beq_iff_eq.mpr c5
        have c5b1 : (a1 != 32) = false := bne_eq_false_iff_eq.mpr c5
        clear c5
        obtain rfl := Option.some.inj H
        go_enter Try.func23, Try.ntmps23
        go_wp2
        go_ret
        exact ⟨by first | rfl | (simp; done) | (simp [*]; done), by repeat (first | exact Drawn0.refl _ | apply Drawn0.step)⟩
      · rw [if_neg c5] at H
        have c5b0 : (a1 == 32) = false := beq_eq_false_iff_ne.mpr c5
        have c5b1 : (a1 != 32) = true := bne_iff_ne.mpr c5
        obtain rfl := Option.some.inj H
        go_enter Try.func23, Try.ntmps23
        go_wp2
        go_ret
        exact ⟨by first | rfl | (simp; done) | (simp [*]; done), by repeat (first | exact Drawn0.refl _ | apply Drawn0.step)⟩

/-! ### word_swap_uint8: function 53 -/
def word_swap_uint8.l0 : Nat → Int → Int → Int → Int → Option (Int)
  | 0, _, _, _, _ => none
  | k + 1, x5, x6, x10, x11 => if x11 < x10 then (word_swap_uint8.l0 k (x5 / 256) (Go.bits .or .u64 (IntKind.u64.wrap (x6 * 256)) (Go.bits .and .u64 x5 255)) x10 (IntKind.u64.wrap (x11 + 1))) else (some ((x6) % 256))
def word_swap_uint8.f (k : Nat) (a0 : Int) (a1 : Int) : Option (Int) := (word_bits_uint8.f).bind fun t106 => (word_swap_uint8.l0 k (IntKind.u64.wrap (a0)) 0 (IntKind.u64.wrap (Int.tdiv t106 8)) 0)
theorem word_swap_uint8.mono_l : ∀ k, (∀ y0 y1 y2 y3, LeO (word_swap_uint8.l0 k y0 y1 y2 y3) (word_swap_uint8.l0 (k + 1) y0 y1 y2 y3))
  | 0 => fun _ _ _ _ r h => by simp [word_swap_uint8.l0] at h
  | k + 1 => by
    have ih0 := word_swap_uint8.mono_l k
    · intro y0 y1 y2 y3
      unfold word_swap_uint8.l0
      repeat' first
      | (with_reducible exact ih0 _ _ _ _)
      | (with_reducible exact LeO.refl _)
      | (with_reducible exact LeO.none _)
      | (with_reducible refine LeO.ite ?_ ?_)
      | (with_reducible refine LeO.bind ?_ (fun _ => ?_))
      | exact ih0 _ _ _ _
      | exact LeO.none _
      | refine LeO.ite ?_ ?_
      | refine LeO.bind ?_ (fun _ => ?_)
theorem word_swap_uint8.mono : ∀ a0 a1 k, LeO (word_swap_uint8.f k a0 a1) (word_swap_uint8.f (k + 1) a0 a1) := by
  intro a0 a1 k
  have ih0 := word_swap_uint8.mono_l k
  unfold word_swap_uint8.f
  repeat' first
      | (with_reducible exact ih0 _ _ _ _)
      | (with_reducible exact LeO.refl _)
      | (with_reducible exact LeO.none _)
      | (with_reducible refine LeO.ite ?_ ?_)
      | (with_reducible refine LeO.bind ?_ (fun _ => ?_))
      | exact ih0 _ _ _ _
      | exact LeO.none _
      | refine LeO.ite ?_ ?_
      | refine LeO.bind ?_ (fun _ => ?_)
set_option maxHeartbeats 8000000 in
set_option maxRecDepth 100000 in
theorem word_swap_uint8.calls (k : Nat) (a0 : Int) (a1 : Int) (r : Int) (w : World) (h : word_swap_uint8.f k a0 a1 = some r) :
    Calls Try.prog 53 #[.int .u8 a0, .int .u64 a1] w fun e w' => e = .returned (.int .u8 r) ∧ Drawn0 w w' := by
  have H : ((word_bits_uint8.f).bind fun t106 => (word_swap_uint8.l0 k (IntKind.u64.wrap (a0)) 0 (IntKind.u64.wrap (Int.tdiv t106 8)) 0)) = some r := h
  clear h
  replace H := Option.bind_eq_some_iff.mp H
  obtain ⟨t106, A30, H⟩ := H
  replace H : (word_swap_uint8.l0 k (IntKind.u64.wrap (a0)) 0 (IntKind.u64.wrap (Int.tdiv t106 8)) 0) = some r := H
  have A3 := Aside0.mk A30
  clear A30
  have H' := Aside0.mk H
  clear H
  go_enter Try.func53, Try.ntmps53
  go_wp2_with (first | ((with_reducible refine gate_callee (f := 84) rfl ?_); refine goesL_ (some 9) rfl rfl Try.func84 (by kernel_rfl) rfl #[] rfl (by (try simp only [List.map_toArray, List.map_cons, List.map_nil]); first | done | rfl | (simp only [List.length_drop, List.length_take]; rfl)) ?_; (with_reducible refine (word_bits_uint8.calls  t106 _ A3.out).mono ?_); rintro e w' ⟨rfl, ⟨nd, rfl⟩⟩; refine ⟨_, rfl, ?_⟩))
  go_loopg [5, 6, 11] k (fun kq v5 v6 v11 w' => ∃ (x5_1 : Int) (x6_1 : Int) (x11_1 : Int), v5 = .int .u64 x5_1 ∧ v6 = .int .u64 x6_1 ∧ v11 = .int .u64 x11_1 ∧ Aside0 (word_swap_uint8.l0 kq x5_1 x6_1 (IntKind.u64.wrap (Int.tdiv t106 8)) x11_1 = some r) ∧ Aside0 (kq ≤ k) ∧ Drawn0 w w')
  case atStart => exact ⟨(IntKind.u64.wrap (a0)), (0), (0), (by first | rfl | (simp; done) | (simp [*]; done)), (by first | rfl | (simp; done) | (simp [*]; done)), (by first | rfl | (simp; done) | (simp [*]; done)), H', ⟨Nat.le_refl _⟩, by repeat (first | exact Drawn0.refl _ | apply Drawn0.step)⟩
  case round =>
    clear H'
    try clear p2
    obtain ⟨x5_1, x6_1, x11_1, rfl, rfl, rfl, HA, HK1, ⟨m1, rfl⟩⟩ := hrel
    cases gk with
    | zero => exact absurd HA.out (by simp [word_swap_uint8.l0])
    | succ k1 =>
      have H := HA.out
      clear HA
      simp only [word_swap_uint8.l0] at H
      by_cases c4 : x11_1 < (IntKind.u64.wrap (Int.tdiv t106 8))
      · rw [if_pos c4] at H
        have c4b0 : decide (x11_1 < (IntKind.u64.wrap (Int.tdiv t106 8))) = true := decide_eq_true c4
        clear c4
        have H' := Aside0.mk H
        clear H
        go_wp2
        go_roundg k1
        case measure => have := HK1.out; omega
        case rel => exact ⟨(x5_1 / 256), (Go.bits .or .u64 (IntKind.u64.wrap (x6_1 * 256)) (Go.bits .and .u64 x5_1 255)), (IntKind.u64.wrap (x11_1 + 1)), (by first | rfl | (simp; done) | (simp [*]; done)), (by first | rfl | (simp; done) | (simp [*]; done)), (by first | rfl | (simp; done) | (simp [*]; done)), H', ⟨by have := HK1.out; omega⟩, by repeat (first | exact Drawn0.refl _ | apply Drawn0.step)⟩
      · rw [if_neg c4] at H
        have c4b0 : decide (x11_1 < (IntKind.u64.wrap (Int.tdiv t106 8))) = false := decide_eq_false c4
        clear c4
        obtain rfl := Option.some.inj H
        go_wp2
        go_ret
        exact ⟨by first | rfl | (simp; done) | (simp [*]; done), by repeat (first | exact Drawn0.refl _ | apply Drawn0.step)⟩

/-! ### word_swap_uint16: function 54 -/
def word_swap_uint16.l0 : Nat → Int → Int → Int → Int → Option (Int)
  | 0, _, _, _, _ => none
  | k + 1, x5, x6, x10, x11 => if x11 < x10 then (word_swap_uint16.l0 k (x5 / 256) (Go.bits .or .u64 (IntKind.u64.wrap (x6 * 256)) (Go.bits .and .u64 x5 255)) x10 (IntKind.u64.wrap (x11 + 1))) else (some (IntKind.u16.wrap (x6)))
def word_swap_uint16.f (k : Nat) (a0 : Int) (a1 : Int) : Option (Int) := (word_bits_uint16.f).bind fun t107 => (word_swap_uint16.l0 k (IntKind.u64.wrap (a0)) 0 (IntKind.u64.wrap (Int.tdiv t107 8)) 0)
theorem word_swap_uint16.mono_l : ∀ k, (∀ y0 y1 y2 y3, LeO (word_swap_uint16.l0 k y0 y1 y2 y3) (word_swap_uint16.l0 (k + 1) y0 y1 y2 y3))
  | 0 => fun _ _ _ _ r h => by simp [word_swap_uint16.l0] at h
  | k + 1 => by
    have ih0 := word_swap_uint16.mono_l k
    · intro y0 y1 y2 y3
      unfold word_swap_uint16.l0
      repeat' first
      | (with_reducible exact ih0 _ _ _ _)
      | (with_reducible exact LeO.refl _)
      | (with_reducible exact LeO.none _)
      | (with_reducible refine LeO.ite ?_ ?_)
      | (with_reducible refine LeO.bind ?_ (fun _ => ?_))
      | exact ih0 _ _ _ _
      | exact LeO.none _
      | refine LeO.ite ?_ ?_
      | refine LeO.bind ?_ (fun _ => ?_)
theorem word_swap_uint16.mono : ∀ a0 a1 k, LeO (word_swap_uint16.f k a0 a1) (word_swap_uint16.f (k + 1) a0 a1) := by
  intro a0 a1 k
  have ih0 := word_swap_uint16.mono_l k
  unfold word_swap_uint16.f
  repeat' first
      | (with_reducible exact ih0 _ _ _ _)
      | (with_reducible exact LeO.refl _)
      | (with_reducible exact LeO.none _)
      | (with_reducible refine LeO.ite ?_ ?_)
      | (with_reducible refine LeO.bind ?_ (fun _ => ?_))
      | exact ih0 _ _ _ _
      | exact LeO.none _
      | refine LeO.ite ?_ ?_
      | refine LeO.bind ?_ (fun _ => ?_)
set_option maxHeartbeats 8000000 in
set_option maxRecDepth 100000 in
theorem word_swap_uint16.calls (k : Nat) (a0 : Int) (a1 : Int) (r : Int) (w : World) (h : word_swap_uint16.f k a0 a1 = some r) :
    Calls Try.prog 54 #[.int .u16 a0, .int .u64 a1] w fun e w' => e = .returned (.int .u16 r) ∧ Drawn0 w w' := by
  have H : ((word_bits_uint16.f).bind fun t107 => (word_swap_uint16.l0 k (IntKind.u64.wrap (a0)) 0 (IntKind.u64.wrap (Int.tdiv t107 8)) 0)) = some r := h
  clear h
  replace H := Option.bind_eq_some_iff.mp H
  obtain ⟨t107, A30, H⟩ := H
  replace H : (word_swap_uint16.l0 k (IntKind.u64.wrap (a0)) 0 (IntKind.u64.wrap (Int.tdiv t107 8)) 0) = some r := H
  have A3 := Aside0.mk A30
  clear A30
  have H' := Aside0.mk H
  clear H
  go_enter Try.func54, Try.ntmps54
  go_wp2_with (first | ((with_reducible refine gate_callee (f := 85) rfl ?_); refine goesL_ (some 9) rfl rfl Try.func85 (by kernel_rfl) rfl #[] rfl (by (try simp only [List.map_toArray, List.map_cons, List.map_nil]); first | done | rfl | (simp only [List.length_drop, List.length_take]; rfl)) ?_; (with_reducible refine (word_bits_uint16.calls  t107 _ A3.out).mono ?_); rintro e w' ⟨rfl, ⟨nd, rfl⟩⟩; refine ⟨_, rfl, ?_⟩))
  go_loopg [5, 6, 11] k (fun kq v5 v6 v11 w' => ∃ (x5_1 : Int) (x6_1 : Int) (x11_1 : Int), v5 = .int .u64 x5_1 ∧ v6 = .int .u64 x6_1 ∧ v11 = .int .u64 x11_1 ∧ Aside0 (word_swap_uint16.l0 kq x5_1 x6_1 (IntKind.u64.wrap (Int.tdiv t107 8)) x11_1 = some r) ∧ Aside0 (kq ≤ k) ∧ Drawn0 w w')
  case atStart => exact ⟨(IntKind.u64.wrap (a0)), (0), (0), (by first | rfl | (simp; done) | (simp [*]; done)), (by first | rfl | (simp; done) | (simp [*]; done)), (by first | rfl | (simp; done) | (simp [*]; done)), H', ⟨Nat.le_refl _⟩, by repeat (first | exact Drawn0.refl _ | apply Drawn0.step)⟩
  case round =>
    clear H'
    try clear p2
    obtain ⟨x5_1, x6_1, x11_1, rfl, rfl, rfl, HA, HK1, ⟨m1, rfl⟩⟩ := hrel
    cases gk with
    | zero => exact absurd HA.out (by simp [word_swap_uint16.l0])
    | succ k1 =>
      have H := HA.out
      clear HA
      simp only [word_swap_uint16.l0] at H
      by_cases c4 : x11_1 < (IntKind.u64.wrap (Int.tdiv t107 8))
      · rw [if_pos c4] at H
        have c4b0 : decide (x11_1 < (IntKind.u64.wrap (Int.tdiv t107 8))) = true := decide_eq_true c4
        clear c4
        have H' := Aside0.mk H
        clear H
        go_wp2
        go_roundg k1
        case measure => have := HK1.out; omega
        case rel => exact ⟨(x5_1 / 256), (Go.bits .or .u64 (IntKind.u64.wrap (x6_1 * 256)) (Go.bits .and .u64 x5_1 255)), (IntKind.u64.wrap (x11_1 + 1)), (by first | rfl | (simp; done) | (simp [*]; done)), (by first | rfl | (simp; done) | (simp [*]; done)), (by first | rfl | (simp; done) | (simp [*]; done)), H', ⟨by have := HK1.out; omega⟩, by repeat (first | exact Drawn0.refl _ | apply Drawn0.step)⟩
      · rw [if_neg c4] at H
        have c4b0 : decide (x11_1 < (IntKind.u64.wrap (Int.tdiv t107 8))) = false := decide_eq_false c4
        clear c4
        obtain rfl := Option.some.inj H
        go_wp2
        go_ret
        exact ⟨by first | rfl | (simp; done) | (simp [*]; done), by repeat (first | exact Drawn0.refl _ | apply Drawn0.step)⟩

/-! ### word_swap_uint32: function 55 -/
def word_swap_uint32.l0 : Nat → Int → Int → Int → Int → Option (Int)
  | 0, _, _, _, _ => none
  | k + 1, x5, x6, x10, x11 => if x11 < x10 then (word_swap_uint32.l0 k (x5 / 256) (Go.bits .or .u64 (IntKind.u64.wrap (x6 * 256)) (Go.bits .and .u64 x5 255)) x10 (IntKind.u64.wrap (x11 + 1))) else (some ((x6) % 4294967296))
def word_swap_uint32.f (k : Nat) (a0 : Int) (a1 : Int) : Option (Int) := (word_bits_uint32.f).bind fun t108 => (word_swap_uint32.l0 k (IntKind.u64.wrap (a0)) 0 (IntKind.u64.wrap (Int.tdiv t108 8)) 0)
theorem word_swap_uint32.mono_l : ∀ k, (∀ y0 y1 y2 y3, LeO (word_swap_uint32.l0 k y0 y1 y2 y3) (word_swap_uint32.l0 (k + 1) y0 y1 y2 y3))
  | 0 => fun _ _ _ _ r h => by simp [word_swap_uint32.l0] at h
  | k + 1 => by
    have ih0 := word_swap_uint32.mono_l k
    · intro y0 y1 y2 y3
      unfold word_swap_uint32.l0
      repeat' first
      | (with_reducible exact ih0 _ _ _ _)
      | (with_reducible exact LeO.refl _)
      | (with_reducible exact LeO.none _)
      | (with_reducible refine LeO.ite ?_ ?_)
      | (with_reducible refine LeO.bind ?_ (fun _ => ?_))
      | exact ih0 _ _ _ _
      | exact LeO.none _
      | refine LeO.ite ?_ ?_
      | refine LeO.bind ?_ (fun _ => ?_)
theorem word_swap_uint32.mono : ∀ a0 a1 k, LeO (word_swap_uint32.f k a0 a1) (word_swap_uint32.f (k + 1) a0 a1) := by
  intro a0 a1 k
  have ih0 := word_swap_uint32.mono_l k
  unfold word_swap_uint32.f
  repeat' first
      | (with_reducible exact ih0 _ _ _ _)
      | (with_reducible exact LeO.refl _)
      | (with_reducible exact LeO.none _)
      | (with_reducible refine LeO.ite ?_ ?_)
      | (with_reducible refine LeO.bind ?_ (fun _ => ?_))
      | exact ih0 _ _ _ _
      | exact LeO.none _
      | refine LeO.ite ?_ ?_
      | refine LeO.bind ?_ (fun _ => ?_)
set_option maxHeartbeats 8000000 in
set_option maxRecDepth 100000 in
theorem word_swap_uint32.calls (k : Nat) (a0 : Int) (a1 : Int) (r : Int) (w : World) (h : word_swap_uint32.f k a0 a1 = some r) :
    Calls Try.prog 55 #[.int .u32 a0, .int .u64 a1] w fun e w' => e = .returned (.int .u32 r) ∧ Drawn0 w w' := by
  have H : ((word_bits_uint32.f).bind fun t108 => (word_swap_uint32.l0 k (IntKind.u64.wrap (a0)) 0 (IntKind.u64.wrap (Int.tdiv t108 8)) 0)) = some r := h
  clear h
  replace H := Option.bind_eq_some_iff.mp H
  obtain ⟨t108, A30, H⟩ := H
  replace H : (word_swap_uint32.l0 k (IntKind.u64.wrap (a0)) 0 (IntKind.u64.wrap (Int.tdiv t108 8)) 0) = some r := H
  have A3 := Aside0.mk A30
  clear A30
  have H' := Aside0.mk H
  clear H
  go_enter Try.func55, Try.ntmps55
  go_wp2_with (first | ((with_reducible refine gate_callee (f := 86) rfl ?_); refine goesL_ (some 9) rfl rfl Try.func86 (by kernel_rfl) rfl #[] rfl (by (try simp only [List.map_toArray, List.map_cons, List.map_nil]); first | done | rfl | (simp only [List.length_drop, List.length_take]; rfl)) ?_; (with_reducible refine (word_bits_uint32.calls  t108 _ A3.out).mono ?_); rintro e w' ⟨rfl, ⟨nd, rfl⟩⟩; refine ⟨_, rfl, ?_⟩))
  go_loopg [5, 6, 11] k (fun kq v5 v6 v11 w' => ∃ (x5_1 : Int) (x6_1 : Int) (x11_1 : Int), v5 = .int .u64 x5_1 ∧ v6 = .int .u64 x6_1 ∧ v11 = .int .u64 x11_1 ∧ Aside0 (word_swap_uint32.l0 kq x5_1 x6_1 (IntKind.u64.wrap (Int.tdiv t108 8)) x11_1 = some r) ∧ Aside0 (kq ≤ k) ∧ Drawn0 w w')
  case atStart => exact ⟨(IntKind.u64.wrap (a0)), (0), (0), (by first | rfl | (simp; done) | (simp [*]; done)), (by first | rfl | (simp; done) | (simp [*]; done)), (by first | rfl | (simp; done) | (simp [*]; done)), H', ⟨Nat.le_refl _⟩, by repeat (first | exact Drawn0.refl _ | apply Drawn0.step)⟩
  case round =>
    clear H'
    try clear p2
    obtain ⟨x5_1, x6_1, x11_1, rfl, rfl, rfl, HA, HK1, ⟨m1, rfl⟩⟩ := hrel
    cases gk with
    | zero => exact absurd HA.out (by simp [word_swap_uint32.l0])
    | succ k1 =>
      have H := HA.out
      clear HA
      simp only [word_swap_uint32.l0] at H
      by_cases c4 : x11_1 < (IntKind.u64.wrap (Int.tdiv t108 8))
      · rw [if_pos c4] at H
        have c4b0 : decide (x11_1 < (IntKind.u64.wrap (Int.tdiv t108 8))) = true := decide_eq_true c4
        clear c4
        have H' := Aside0.mk H
        clear H
        go_wp2
        go_roundg k1
        case measure => have := HK1.out; omega
        case rel => exact ⟨(x5_1 / 256), (Go.bits .or .u64 (IntKind.u64.wrap (x6_1 * 256)) (Go.bits .and .u64 x5_1 255)), (IntKind.u64.wrap (x11_1 + 1)), (by first | rfl | (simp; done) | (simp [*]; done)), (by first | rfl | (simp; done) | (simp [*]; done)), (by first | rfl | (simp; done) | (simp [*]; done)), H', ⟨by have := HK1.out; omega⟩, by repeat (first | exact Drawn0.refl _ | apply Drawn0.step)⟩
      · rw [if_neg c4] at H
        have c4b0 : decide (x11_1 < (IntKind.u64.wrap (Int.tdiv t108 8))) = false := decide_eq_false c4
        clear c4
        obtain rfl := Option.some.inj H
        go_wp2
        go_ret
        exact ⟨by first | rfl | (simp; done) | (simp [*]; done), by repeat (first | exact Drawn0.refl _ | apply Drawn0.step)⟩

/-! ### word_swap_uint64: function 56 -/
def word_swap_uint64.l0 : Nat → Int → Int → Int → Int → Option (Int)
  | 0, _, _, _, _ => none
  | k + 1, x5, x6, x9, x10 => if x10 < x9 then (word_swap_uint64.l0 k (x5 / 256) (Go.bits .or .u64 (IntKind.u64.wrap (x6 * 256)) (Go.bits .and .u64 x5 255)) x9 (IntKind.u64.wrap (x10 + 1))) else (some x6)
def word_swap_uint64.f (k : Nat) (a0 : Int) (a1 : Int) : Option (Int) := (word_bits_uint64.f).bind fun t109 => (word_swap_uint64.l0 k a0 0 (IntKind.u64.wrap (Int.tdiv t109 8)) 0)
theorem word_swap_uint64.mono_l : ∀ k, (∀ y0 y1 y2 y3, LeO (word_swap_uint64.l0 k y0 y1 y2 y3) (word_swap_uint64.l0 (k + 1) y0 y1 y2 y3))
  | 0 => fun _ _ _ _ r h => by simp [word_swap_uint64.l0] at h
  | k + 1 => by
    have ih0 := word_swap_uint64.mono_l k
    · intro y0 y1 y2 y3
      unfold word_swap_uint64.l0
      repeat' first
      | (with_reducible exact ih0 _ _ _ _)
      | (with_reducible exact LeO.refl _)
      | (with_reducible exact LeO.none _)
      | (with_reducible refine LeO.ite ?_ ?_)
      | (with_reducible refine LeO.bind ?_ (fun _ => ?_))
      | exact ih0 _ _ _ _
      | exact LeO.none _
      | refine LeO.ite ?_ ?_
      | refine LeO.bind ?_ (fun _ => ?_)
theorem word_swap_uint64.mono : ∀ a0 a1 k, LeO (word_swap_uint64.f k a0 a1) (word_swap_uint64.f (k + 1) a0 a1) := by
  intro a0 a1 k
  have ih0 := word_swap_uint64.mono_l k
  unfold word_swap_uint64.f
  repeat' first
      | (with_reducible exact ih0 _ _ _ _)
      | (with_reducible exact LeO.refl _)
      | (with_reducible exact LeO.none _)
      | (with_reducible refine LeO.ite ?_ ?_)
      | (with_reducible refine LeO.bind ?_ (fun _ => ?_))
      | exact ih0 _ _ _ _
      | exact LeO.none _
      | refine LeO.ite ?_ ?_
      | refine LeO.bind ?_ (fun _ => ?_)
set_option maxHeartbeats 8000000 in
set_option maxRecDepth 100000 in
theorem word_swap_uint64.calls (k : Nat) (a0 : Int) (a1 : Int) (r : Int) (w : World) (h : word_swap_uint64.f k a0 a1 = some r) :
    Calls Try.prog 56 #[.int .u64 a0, .int .u64 a1] w fun e w' => e = .returned (.int .u64 r) ∧ Drawn0 w w' := by
  have H : ((word_bits_uint64.f).bind fun t109 => (word_swap_uint64.l0 k a0 0 (IntKind.u64.wrap (Int.tdiv t109 8)) 0)) = some r := h
  clear h
  replace H := Option.bind_eq_some_iff.mp H
  obtain ⟨t109, A30, H⟩ := H
  replace H : (word_swap_uint64.l0 k a0 0 (IntKind.u64.wrap (Int.tdiv t109 8)) 0) = some r := H
  have A3 := Aside0.mk A30
  clear A30
  have H' := Aside0.mk H
  clear H
  go_enter Try.func56, Try.ntmps56
  go_wp2_with (first | ((with_reducible refine gate_callee (f := 87) rfl ?_); refine goesL_ (some 8) rfl rfl Try.func87 (by kernel_rfl) rfl #[] rfl (by (try simp only [List.map_toArray, List.map_cons, List.map_nil]); first | done | rfl | (simp only [List.length_drop, List.length_take]; rfl)) ?_; (with_reducible refine (word_bits_uint64.calls  t109 _ A3.out).mono ?_); rintro e w' ⟨rfl, ⟨nd, rfl⟩⟩; refine ⟨_, rfl, ?_⟩))
  go_loopg [5, 6, 10] k (fun kq v5 v6 v10 w' => ∃ (x5_1 : Int) (x6_1 : Int) (x10_1 : Int), v5 = .int .u64 x5_1 ∧ v6 = .int .u64 x6_1 ∧ v10 = .int .u64 x10_1 ∧ Aside0 (word_swap_uint64.l0 kq x5_1 x6_1 (IntKind.u64.wrap (Int.tdiv t109 8)) x10_1 = some r) ∧ Aside0 (kq ≤ k) ∧ Drawn0 w w')
  case atStart => exact ⟨(a0), (0), (0), (by first | rfl | (simp; done) | (simp [*]; done)), (by first | rfl | (simp; done) | (simp [*]; done)), (by first | rfl | (simp; done) | (simp [*]; done)), H', ⟨Nat.le_refl _⟩, by repeat (first | exact Drawn0.refl _ | apply Drawn0.step)⟩
  case round =>
    clear H'
    try clear p2
    obtain ⟨x5_1, x6_1, x10_1, rfl, rfl, rfl, HA, HK1, ⟨m1, rfl⟩⟩ := hrel
    cases gk with
    | zero => exact absurd HA.out (by simp [word_swap_uint64.l0])
    | succ k1 =>
      have H := HA.out
      clear HA
      simp only [word_swap_uint64.l0] at H
      by_cases c4 : x10_1 < (IntKind.u64.wrap (Int.tdiv t109 8))
      · rw [if_pos c4] at H
        have c4b0 : decide (x10_1 < (IntKind.u64.wrap (Int.tdiv t109 8))) = true := decide_eq_true c4
        clear c4
        have H' := Aside0.mk H
        clear H
        go_wp2
        go_roundg k1
        case measure => have := HK1.out; omega
        case rel => exact ⟨(x5_1 / 256), (Go.bits .or .u64 (IntKind.u64.wrap (x6_1 * 256)) (Go.bits .and .u64 x5_1 255)), (IntKind.u64.wrap (x10_1 + 1)), (by first | rfl | (simp; done) | (simp [*]; done)), (by first | rfl | (simp; done) | (simp [*]; done)), (by first | rfl | (simp; done) | (simp [*]; done)), H', ⟨by have := HK1.out; omega⟩, by repeat (first | exact Drawn0.refl _ | apply Drawn0.step)⟩
      · rw [if_neg c4] at H
        have c4b0 : decide (x10_1 < (IntKind.u64.wrap (Int.tdiv t109 8))) = false := decide_eq_false c4
        clear c4
        obtain rfl := Option.some.inj H
        go_wp2
        go_ret
        exact ⟨by first | rfl | (simp; done) | (simp [*]; done), by repeat (first | exact Drawn0.refl _ | apply Drawn0.step)⟩

/-! ### word_Swap: function 25 -/
def word_Swap.f (k : Nat) (a0 : Int) (a1 : Int) : Option (Int) := if a1 = 8 then ((word_swap_uint8.f k ((a0) % 256) 0).bind fun t_ => some (IntKind.u64.wrap t_)) else if a1 = 16 then ((word_swap_uint16.f k (IntKind.u16.wrap (a0)) 0).bind fun t_ => some (IntKind.u64.wrap t_)) else if a1 = 32 then ((word_swap_uint32.f k ((a0) % 4294967296) 0).bind fun t_ => some (IntKind.u64.wrap t_)) else word_swap_uint64.f k a0 0
theorem word_Swap.mono : ∀ a0 a1 k, LeO (word_Swap.f k a0 a1) (word_Swap.f (k + 1) a0 a1) := by
  intro a0 a1 k
  unfold word_Swap.f
  repeat' first
      | (with_reducible exact word_swap_uint16.mono _ _ _)
      | (with_reducible exact word_swap_uint32.mono _ _ _)
      | (with_reducible exact word_swap_uint64.mono _ _ _)
      | (with_reducible exact word_swap_uint8.mono _ _ _)
      | (with_reducible exact LeO.refl _)
      | (with_reducible exact LeO.none _)
      | (with_reducible refine LeO.ite ?_ ?_)
      | (with_reducible refine LeO.bind ?_ (fun _ => ?_))
      | exact word_swap_uint16.mono _ _ _
      | exact word_swap_uint32.mono _ _ _
      | exact word_swap_uint64.mono _ _ _
      | exact word_swap_uint8.mono _ _ _
      | exact LeO.none _
      | refine LeO.ite ?_ ?_
      | refine LeO.bind ?_ (fun _ => ?_)
set_option maxHeartbeats 8000000 in
set_option maxRecDepth 100000 in
theorem word_Swap.calls (k : Nat) (a0 : Int) (a1 : Int) (r : Int) (w : World) (h : word_Swap.f k a0 a1 = some r) :
    Calls Try.prog 25 #[.int .u64 a0, .int .i64 a1] w fun e w' => e = .returned (.int .u64 r) ∧ Drawn0 w w' := by
  unfold word_Swap.f at h
  by_cases c8 : a1 = 8
  · rw [if_pos c8] at h
    have c8b : (a1 == 8) = true := beq_iff_eq.mpr c8
    clear c8
    obtain ⟨t_, ht, h⟩ := Option.bind_eq_some_iff.mp h
    obtain rfl := Option.some.inj h
    have ht' := Aside0.mk ht
    clear h ht
    go_enter Try.func25, Try.ntmps25
    go_wp2_with (first | (go_at_call 47; go_in) | (go_at_call 53; refine (word_swap_uint8.calls _ _ _ _ _ ht'.out).mono ?_; rintro e w' ⟨rfl, ⟨nd, rfl⟩⟩))
    go_ret
    exact ⟨by first | rfl | (simp; done) | (simp [*]; done), by repeat (first | exact Drawn0.refl _ | apply Drawn0.step)⟩
  · rw [if_neg c8] at h
    have c8b : (a1 == 8) = false := beq_eq_false_iff_ne.mpr c8
    clear c8
    by_cases c16 : a1 = 16
    · rw [if_pos c16] at h
      have c16b : (a1 == 16) = true := beq_iff_eq.mpr c16
      clear c16
      obtain ⟨t_, ht, h⟩ := Option.bind_eq_some_iff.mp h
      obtain rfl := Option.some.inj h
      have ht' := Aside0.mk ht
      clear h ht
      go_enter Try.func25, Try.ntmps25
      go_wp2_with (first | (go_at_call 47; go_in) | (go_at_call 54; refine (word_swap_uint16.calls _ _ _ _ _ ht'.out).mono ?_; rintro e w' ⟨rfl, ⟨nd, rfl⟩⟩))
      go_ret
      exact ⟨by first | rfl | (simp; done) | (simp [*]; done), by repeat (first | exact Drawn0.refl _ | apply Drawn0.step)⟩
    · rw [if_neg c16] at h
      have c16b : (a1 == 16) = false := beq_eq_false_iff_ne.mpr c16
      clear c16
      by_cases c32 : a1 = 32
      · rw [if_pos c32] at h
        have c32b : (a1 == 32) = true := beq_iff_eq.mpr c32
        clear c32
        obtain ⟨t_, ht, h⟩ := Option.bind_eq_some_iff.mp h
        obtain rfl := Option.some.inj h
        have ht' := Aside0.mk ht
        clear h ht
        go_enter Try.func25, Try.ntmps25
        go_wp2_with (first | (go_at_call 47; go_in) | (go_at_call 55; refine (word_swap_uint32.calls _ _ _ _ _ ht'.out).mono ?_; rintro e w' ⟨rfl, ⟨nd, rfl⟩⟩))
        go_ret
        exact ⟨by first | rfl | (simp; done) | (simp [*]; done), by repeat (first | exact Drawn0.refl _ | apply Drawn0.step)⟩
      · rw [if_neg c32] at h
        have c32b : (a1 == 32) = false := beq_eq_false_iff_ne.mpr c32
        clear c32
        have ht' := Aside0.mk h
        clear h
        go_enter Try.func25, Try.ntmps25
        go_wp2_with (first | (go_at_call 47; go_in) | (go_at_call 56; refine (word_swap_uint64.calls _ _ _ _ _ ht'.out).mono ?_; rintro e w' ⟨rfl, ⟨nd, rfl⟩⟩))
        go_ret
        exact ⟨by first | rfl | (simp; done) | (simp [*]; done), by repeat (first | exact Drawn0.refl _ | apply Drawn0.step)⟩

/-! ### word_Less: function 27 -/
def word_Less.f (a0 : Int) (a1 : Int) (a2 : Int) : Option (Bool) := (word_Narrow.f a0 a2).bind fun t110 => ((word_Narrow.f a1 a2).bind fun t111 => (some (decide (t110 < t111))))
set_option maxHeartbeats 8000000 in
set_option maxRecDepth 100000 in
theorem word_Less.calls (a0 : Int) (a1 : Int) (a2 : Int) (r : Bool) (w : World) (h : word_Less.f a0 a1 a2 = some r) :
    Calls Try.prog 27 #[.int .u64 a0, .int .u64 a1, .int .i64 a2] w fun e w' => e = .returned (.bool r) ∧ Drawn0 w w' := by
  have H : ((word_Narrow.f a0 a2).bind fun t110 => ((word_Narrow.f a1 a2).bind fun t111 => (some (decide (t110 < t111))))) = some r := h
  clear h
  replace H := Option.bind_eq_some_iff.mp H
  obtain ⟨t110, A40, H⟩ := H
  replace H : ((word_Narrow.f a1 a2).bind fun t111 => (some (decide (t110 < t111)))) = some r := H
  have A4 := Aside0.mk A40
  clear A40
  replace H := Option.bind_eq_some_iff.mp H
  obtain ⟨t111, A50, H⟩ := H
  replace H : (some (decide (t110 < t111))) = some r := H
  have A5 := Aside0.mk A50
  clear A50
  obtain rfl := Option.some.inj H
  go_enter Try.func27, Try.ntmps27
  go_wp2_with (first | ((with_reducible refine gate_callee (f := 21) rfl ?_); refine goesL_ (some 9) rfl rfl Try.func21 (by kernel_rfl) rfl #[.int .u64 a0, .int .i64 a2] rfl (by (try simp only [List.map_toArray, List.map_cons, List.map_nil]); first | done | rfl | (simp only [List.length_drop, List.length_take]; rfl)) ?_; (with_reducible refine (word_Narrow.calls a0 a2 t110 _ A4.out).mono ?_); rintro e w' ⟨rfl, ⟨nd, rfl⟩⟩; refine ⟨_, rfl, ?_⟩) | ((with_reducible refine gate_callee (f := 21) rfl ?_); refine goesL_ (some 12) rfl rfl Try.func21 (by kernel_rfl) rfl #[.int .u64 a1, .int .i64 a2] rfl (by (try simp only [List.map_toArray, List.map_cons, List.map_nil]); first | done | rfl | (simp only [List.length_drop, List.length_take]; rfl)) ?_; (with_reducible refine (word_Narrow.calls a1 a2 t111 _ A5.out).mono ?_); rintro e w' ⟨rfl, ⟨nd, rfl⟩⟩; refine ⟨_, rfl, ?_⟩))
  go_ret
  exact ⟨by first | rfl | (simp; done) | (simp [*]; done), by repeat (first | exact Drawn0.refl _ | apply Drawn0.step)⟩

end Go.Proofs.Ytliijfogmendmaa.PW
