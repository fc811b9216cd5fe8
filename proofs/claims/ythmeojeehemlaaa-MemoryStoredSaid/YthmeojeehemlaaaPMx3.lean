-- Printed by this session's own program (wip/tools/myprint.py) over the kit's print; the parts that are marked 'by hand' are this session's.
import Derived.Test.YthmeojeehemlaaaPMx0
namespace Go.Proofs.Ythmeojeehemlaaa.PM
open Go.RowKit Go.Proofs.YthmeojeehemlaaaW.PrintWords Go.Proofs.YthmeojeehemlaaaW.PrintLast Go.Proofs.YthmeojeehemlaaaW.PrintMore
attribute [local go_sem] isSome_setCell max2_int min2_int max_two min_two max_three min_three max_four min_four   -- for this text's walks alone
set_option linter.unusedVariables false
set_option linter.unusedSimpArgs false

/-! ### word_bits_uint8: function 85 -/
def ones (b j : Nat) : Int := ((2 ^ (b - j) - 1 : Nat) : Int)
theorem ones_half (b j : Nat) (h : j < b) : ones b j / 2 = ones b (j + 1) := by
  unfold ones
  have e : 2 ^ (b - j) = 2 * 2 ^ (b - (j + 1)) := by rw [← Nat.pow_succ']; congr 1; omega
  have p : 0 < 2 ^ (b - (j + 1)) := Nat.two_pow_pos _
  rw [e]; omega
theorem ones_some (b j : Nat) (h : j < b) : (ones b j != 0) = true := by
  unfold ones
  have e : 2 ^ (b - j) = 2 * 2 ^ (b - (j + 1)) := by rw [← Nat.pow_succ']; congr 1; omega
  have p : 0 < 2 ^ (b - (j + 1)) := Nat.two_pow_pos _
  rw [bne_iff_ne]; omega
theorem ones_none (b : Nat) : (ones b b != 0) = false := by
  unfold ones; simp
theorem ones_at8 : bits .xor .u8 IntKind.u8.max 0 = ones 8 0 := by decide +kernel
theorem ones_at16 : bits .xor .u16 IntKind.u16.max 0 = ones 16 0 := by decide +kernel
theorem ones_at32 : bits .xor .u32 IntKind.u32.max 0 = ones 32 0 := by decide +kernel
theorem ones_at64 : bits .xor .u64 IntKind.u64.max 0 = ones 64 0 := by decide +kernel
def word_bits_uint8.f : Option (Int) := some 8
set_option maxHeartbeats 8000000 in
set_option maxRecDepth 100000 in
theorem word_bits_uint8.calls (r : Int) (w : World) (h : word_bits_uint8.f = some r) :
    Calls Try.prog 85 #[] w fun e w' => e = .returned (.int .u64 r) ∧ Drawn0 w w' := by
  obtain rfl := Option.some.inj h
  clear h
  have hs : IntKind.u8.signed = false := rfl
  go_enter Try.func85, Try.ntmps85
  go_wp2
  go_loop [1, 2] (fun c x => ∃ j : Nat, j ≤ 8 ∧ c = .int .u64 (j : Int) ∧ x = .int .u8 (ones 8 j)) (fun c _ => 8 - (intOf c).toNat)
  case atStart => exact ⟨0, by omega, rfl, congrArg (Value.int .u8) ones_at8⟩
  case round =>
    obtain ⟨j, hj, rfl, rfl⟩ := hrel
    by_cases h8 : j < 8
    · have hx := ones_half 8 j h8
      have hn := ones_some 8 j h8
      go_wp2
      exact ⟨⟨j + 1, h8, by simp, rfl⟩, by simp [intOf]; omega⟩
    · obtain rfl : j = 8 := by omega
      have hn := ones_none 8
      go_wp2
      go_ret
      exact ⟨by simp, by repeat (first | exact Drawn0.refl _ | apply Drawn0.step)⟩

/-! ### word_shl_uint8: function 63 -/
def word_shl_uint8.f (a0 : Int) (a1 : Int) : Option (Int) := (word_bits_uint8.f).bind fun t115 => (if t115 = 0 then (none) else (if 0 ≤ (Int.tmod a1 t115) then (some (shl .u8 a0 (Int.tmod a1 t115))) else (none)))
set_option maxHeartbeats 8000000 in
set_option maxRecDepth 100000 in
theorem word_shl_uint8.calls (a0 : Int) (a1 : Int) (r : Int) (w : World) (h : word_shl_uint8.f a0 a1 = some r) :
    Calls Try.prog 63 #[.int .u8 a0, .int .u64 a1] w fun e w' => e = .returned (.int .u8 r) ∧ Drawn0 w w' := by
  have H : ((word_bits_uint8.f).bind fun t115 => (if t115 = 0 then (none) else (if 0 ≤ (Int.tmod a1 t115) then (some (shl .u8 a0 (Int.tmod a1 t115))) else (none)))) = some r := h
  clear h
  replace H := Option.bind_eq_some_iff.mp H
  obtain ⟨t115, A30, H⟩ := H
  replace H : (if t115 = 0 then (none) else (if 0 ≤ (Int.tmod a1 t115) then (some (shl .u8 a0 (Int.tmod a1 t115))) else (none))) = some r := H
  have A3 := Aside0.mk A30
  clear A30
  by_cases c4 : t115 = 0
  · rw [if_pos c4] at H
    exact absurd H (by simp)
  · rw [if_neg c4] at H
    have c4b0 : (t115 == 0) = false := beq_eq_false_iff_ne.mpr c4
    have c4b1 : (t115 != 0) = true := bne_iff_ne.mpr c4
    obtain ⟨ji5, hji5⟩ : ∃ j_ : Int, (Int.tmod a1 t115) = j_ := ⟨_, rfl⟩
    replace H : (if 0 ≤ (ji5) then (some (shl .u8 a0 (ji5))) else (none)) = some r := by first | (rw [hji5] at H; exact H) | (simp only [hji5] at H ⊢; exact H)
    (try rw [hji5] at A3)
    by_cases c6 : 0 ≤ (ji5)
    · rw [if_pos c6] at H
      have c6b0 := eq_true c6
      have c6b1 : decide (0 ≤ (ji5)) = true := decide_eq_true c6
      clear c6
      obtain ⟨ji7, hji7⟩ : ∃ j_ : Int, (shl .u8 a0 (ji5)) = j_ := ⟨_, rfl⟩
      replace H : (some ji7) = some r := by first | (rw [hji7] at H; exact H) | (simp only [hji7] at H ⊢; exact H)
      (try rw [hji7] at A3)
      have hji7_ : (IntKind.u8.wrap (a0 * 2 ^ min (ji5).toNat 8)) = ji7 := hji7
      have hji7z : (ji5) ≤ 8 → (IntKind.u8.wrap (a0 * 2 ^ (ji5).toNat)) = ji7 := shl_small hji7
      obtain rfl := Option.some.inj H
      go_enter Try.func63, Try.ntmps63
      go_wp2_with (first | ((with_reducible refine gate_callee (f := 85) rfl ?_); refine goesL_ (some 7) rfl rfl Try.func85 (by kernel_rfl) rfl #[] rfl (by (try simp only [List.map_toArray, List.map_cons, List.map_nil]); first | done | rfl | (simp only [List.length_drop, List.length_take]; rfl)) ?_; (with_reducible refine (word_bits_uint8.calls  t115 _ A3.out).mono ?_); rintro e w' ⟨rfl, ⟨nd, rfl⟩⟩; refine ⟨_, rfl, ?_⟩))
      go_ret
      exact ⟨by first | rfl | (simp; done) | (simp only [← hji5, ← hji7] <;> (first | rfl | simp)) | (simp [*]; done), by repeat (first | exact Drawn0.refl _ | apply Drawn0.step)⟩
    · rw [if_neg c6] at H
      exact absurd H (by simp)

/-! ### word_bits_uint16: function 86 -/
def word_bits_uint16.f : Option (Int) := some 16
set_option maxHeartbeats 8000000 in
set_option maxRecDepth 100000 in
theorem word_bits_uint16.calls (r : Int) (w : World) (h : word_bits_uint16.f = some r) :
    Calls Try.prog 86 #[] w fun e w' => e = .returned (.int .u64 r) ∧ Drawn0 w w' := by
  obtain rfl := Option.some.inj h
  clear h
  have hs : IntKind.u16.signed = false := rfl
  go_enter Try.func86, Try.ntmps86
  go_wp2
  go_loop [1, 2] (fun c x => ∃ j : Nat, j ≤ 16 ∧ c = .int .u64 (j : Int) ∧ x = .int .u16 (ones 16 j)) (fun c _ => 16 - (intOf c).toNat)
  case atStart => exact ⟨0, by omega, rfl, congrArg (Value.int .u16) ones_at16⟩
  case round =>
    obtain ⟨j, hj, rfl, rfl⟩ := hrel
    by_cases h8 : j < 16
    · have hx := ones_half 16 j h8
      have hn := ones_some 16 j h8
      go_wp2
      exact ⟨⟨j + 1, h8, by simp, rfl⟩, by simp [intOf]; omega⟩
    · obtain rfl : j = 16 := by omega
      have hn := ones_none 16
      go_wp2
      go_ret
      exact ⟨by simp, by repeat (first | exact Drawn0.refl _ | apply Drawn0.step)⟩

/-! ### word_shl_uint16: function 64 -/
def word_shl_uint16.f (a0 : Int) (a1 : Int) : Option (Int) := (word_bits_uint16.f).bind fun t116 => (if t116 = 0 then (none) else (if 0 ≤ (Int.tmod a1 t116) then (some (shl .u16 a0 (Int.tmod a1 t116))) else (none)))
set_option maxHeartbeats 8000000 in
set_option maxRecDepth 100000 in
theorem word_shl_uint16.calls (a0 : Int) (a1 : Int) (r : Int) (w : World) (h : word_shl_uint16.f a0 a1 = some r) :
    Calls Try.prog 64 #[.int .u16 a0, .int .u64 a1] w fun e w' => e = .returned (.int .u16 r) ∧ Drawn0 w w' := by
  have H : ((word_bits_uint16.f).bind fun t116 => (if t116 = 0 then (none) else (if 0 ≤ (Int.tmod a1 t116) then (some (shl .u16 a0 (Int.tmod a1 t116))) else (none)))) = some r := h
  clear h
  replace H := Option.bind_eq_some_iff.mp H
  obtain ⟨t116, A30, H⟩ := H
  replace H : (if t116 = 0 then (none) else (if 0 ≤ (Int.tmod a1 t116) then (some (shl .u16 a0 (Int.tmod a1 t116))) else (none))) = some r := H
  have A3 := Aside0.mk A30
  clear A30
  by_cases c4 : t116 = 0
  · rw [if_pos c4] at H
    exact absurd H (by simp)
  · rw [if_neg c4] at H
    have c4b0 : (t116 == 0) = false := beq_eq_false_iff_ne.mpr c4
    have c4b1 : (t116 != 0) = true := bne_iff_ne.mpr c4
    obtain ⟨ji5, hji5⟩ : ∃ j_ : Int, (Int.tmod a1 t116) = j_ := ⟨_, rfl⟩
    replace H : (if 0 ≤ (ji5) then (some (shl .u16 a0 (ji5))) else (none)) = some r := by first | (rw [hji5] at H; exact H) | (simp only [hji5] at H ⊢; exact H)
    (try rw [hji5] at A3)
    by_cases c6 : 0 ≤ (ji5)
    · rw [if_pos c6] at H
      have c6b0 := eq_true c6
      have c6b1 : decide (0 ≤ (ji5)) = true := decide_eq_true c6
      clear c6
      obtain ⟨ji7, hji7⟩ : ∃ j_ : Int, (shl .u16 a0 (ji5)) = j_ := ⟨_, rfl⟩
      replace H : (some ji7) = some r := by first | (rw [hji7] at H; exact H) | (simp only [hji7] at H ⊢; exact H)
      (try rw [hji7] at A3)
      have hji7_ : (IntKind.u16.wrap (a0 * 2 ^ min (ji5).toNat 16)) = ji7 := hji7
      have hji7z : (ji5) ≤ 16 → (IntKind.u16.wrap (a0 * 2 ^ (ji5).toNat)) = ji7 := shl_small hji7
      obtain rfl := Option.some.inj H
      go_enter Try.func64, Try.ntmps64
      go_wp2_with (first | ((with_reducible refine gate_callee (f := 86) rfl ?_); refine goesL_ (some 7) rfl rfl Try.func86 (by kernel_rfl) rfl #[] rfl (by (try simp only [List.map_toArray, List.map_cons, List.map_nil]); first | done | rfl | (simp only [List.length_drop, List.length_take]; rfl)) ?_; (with_reducible refine (word_bits_uint16.calls  t116 _ A3.out).mono ?_); rintro e w' ⟨rfl, ⟨nd, rfl⟩⟩; refine ⟨_, rfl, ?_⟩))
      go_ret
      exact ⟨by first | rfl | (simp; done) | (simp only [← hji5, ← hji7] <;> (first | rfl | simp)) | (simp [*]; done), by repeat (first | exact Drawn0.refl _ | apply Drawn0.step)⟩
    · rw [if_neg c6] at H
      exact absurd H (by simp)

/-! ### word_bits_uint32: function 87 -/
def word_bits_uint32.f : Option (Int) := some 32
set_option maxHeartbeats 8000000 in
set_option maxRecDepth 100000 in
theorem word_bits_uint32.calls (r : Int) (w : World) (h : word_bits_uint32.f = some r) :
    Calls Try.prog 87 #[] w fun e w' => e = .returned (.int .u64 r) ∧ Drawn0 w w' := by
  obtain rfl := Option.some.inj h
  clear h
  have hs : IntKind.u32.signed = false := rfl
  go_enter Try.func87, Try.ntmps87
  go_wp2
  go_loop [1, 2] (fun c x => ∃ j : Nat, j ≤ 32 ∧ c = .int .u64 (j : Int) ∧ x = .int .u32 (ones 32 j)) (fun c _ => 32 - (intOf c).toNat)
  case atStart => exact ⟨0, by omega, rfl, congrArg (Value.int .u32) ones_at32⟩
  case round =>
    obtain ⟨j, hj, rfl, rfl⟩ := hrel
    by_cases h8 : j < 32
    · have hx := ones_half 32 j h8
      have hn := ones_some 32 j h8
      go_wp2
      exact ⟨⟨j + 1, h8, by simp, rfl⟩, by simp [intOf]; omega⟩
    · obtain rfl : j = 32 := by omega
      have hn := ones_none 32
      go_wp2
      go_ret
      exact ⟨by simp, by repeat (first | exact Drawn0.refl _ | apply Drawn0.step)⟩

/-! ### word_shl_uint32: function 65 -/
def word_shl_uint32.f (a0 : Int) (a1 : Int) : Option (Int) := (word_bits_uint32.f).bind fun t117 => (if t117 = 0 then (none) else (if 0 ≤ (Int.tmod a1 t117) then (some (shl .u32 a0 (Int.tmod a1 t117))) else (none)))
set_option maxHeartbeats 8000000 in
set_option maxRecDepth 100000 in
theorem word_shl_uint32.calls (a0 : Int) (a1 : Int) (r : Int) (w : World) (h : word_shl_uint32.f a0 a1 = some r) :
    Calls Try.prog 65 #[.int .u32 a0, .int .u64 a1] w fun e w' => e = .returned (.int .u32 r) ∧ Drawn0 w w' := by
  have H : ((word_bits_uint32.f).bind fun t117 => (if t117 = 0 then (none) else (if 0 ≤ (Int.tmod a1 t117) then (some (shl .u32 a0 (Int.tmod a1 t117))) else (none)))) = some r := h
  clear h
  replace H := Option.bind_eq_some_iff.mp H
  obtain ⟨t117, A30, H⟩ := H
  replace H : (if t117 = 0 then (none) else (if 0 ≤ (Int.tmod a1 t117) then (some (shl .u32 a0 (Int.tmod a1 t117))) else (none))) = some r := H
  have A3 := Aside0.mk A30
  clear A30
  by_cases c4 : t117 = 0
  · rw [if_pos c4] at H
    exact absurd H (by simp)
  · rw [if_neg c4] at H
    have c4b0 : (t117 == 0) = false := beq_eq_false_iff_ne.mpr c4
    have c4b1 : (t117 != 0) = true := bne_iff_ne.mpr c4
    obtain ⟨ji5, hji5⟩ : ∃ j_ : Int, (Int.tmod a1 t117) = j_ := ⟨_, rfl⟩
    replace H : (if 0 ≤ (ji5) then (some (shl .u32 a0 (ji5))) else (none)) = some r := by first | (rw [hji5] at H; exact H) | (simp only [hji5] at H ⊢; exact H)
    (try rw [hji5] at A3)
    by_cases c6 : 0 ≤ (ji5)
    · rw [if_pos c6] at H
      have c6b0 := eq_true c6
      have c6b1 : decide (0 ≤ (ji5)) = true := decide_eq_true c6
      clear c6
      obtain ⟨ji7, hji7⟩ : ∃ j_ : Int, (shl .u32 a0 (ji5)) = j_ := ⟨_, rfl⟩
      replace H : (some ji7) = some r := by first | (rw [hji7] at H; exact H) | (simp only [hji7] at H ⊢; exact H)
      (try rw [hji7] at A3)
      have hji7_ : (IntKind.u32.wrap (a0 * 2 ^ min (ji5).toNat 32)) = ji7 := hji7
      have hji7z : (ji5) ≤ 32 → (IntKind.u32.wrap (a0 * 2 ^ (ji5).toNat)) = ji7 := shl_small hji7
      obtain rfl := Option.some.inj H
      go_enter Try.func65, Try.ntmps65
      go_wp2_with (first | ((with_reducible refine gate_callee (f := 87) rfl ?_); refine goesL_ (some 7) rfl rfl Try.func87 (by kernel_rfl) rfl #[] rfl (by (try simp only [List.map_toArray, List.map_cons, List.map_nil]); first | done | rfl | (simp only [List.length_drop, List.length_take]; rfl)) ?_; (with_reducible refine (word_bits_uint32.calls  t117 _ A3.out).mono ?_); rintro e w' ⟨rfl, ⟨nd, rfl⟩⟩; refine ⟨_, rfl, ?_⟩))
      go_ret
      exact ⟨by first | rfl | (simp; done) | (simp only [← hji5, ← hji7] <;> (first | rfl | simp)) | (simp [*]; done), by repeat (first | exact Drawn0.refl _ | apply Drawn0.step)⟩
    · rw [if_neg c6] at H
      exact absurd H (by simp)

/-! ### word_bits_uint64: function 88 -/
def word_bits_uint64.f : Option (Int) := some 64
set_option maxHeartbeats 8000000 in
set_option maxRecDepth 100000 in
theorem word_bits_uint64.calls (r : Int) (w : World) (h : word_bits_uint64.f = some r) :
    Calls Try.prog 88 #[] w fun e w' => e = .returned (.int .u64 r) ∧ Drawn0 w w' := by
  obtain rfl := Option.some.inj h
  clear h
  have hs : IntKind.u64.signed = false := rfl
  go_enter Try.func88, Try.ntmps88
  go_wp2
  go_loop [1, 2] (fun c x => ∃ j : Nat, j ≤ 64 ∧ c = .int .u64 (j : Int) ∧ x = .int .u64 (ones 64 j)) (fun c _ => 64 - (intOf c).toNat)
  case atStart => exact ⟨0, by omega, rfl, congrArg (Value.int .u64) ones_at64⟩
  case round =>
    obtain ⟨j, hj, rfl, rfl⟩ := hrel
    by_cases h8 : j < 64
    · have hx := ones_half 64 j h8
      have hn := ones_some 64 j h8
      go_wp2
      exact ⟨⟨j + 1, h8, by simp, rfl⟩, by simp [intOf]; omega⟩
    · obtain rfl : j = 64 := by omega
      have hn := ones_none 64
      go_wp2
      go_ret
      exact ⟨by simp, by repeat (first | exact Drawn0.refl _ | apply Drawn0.step)⟩

/-! ### word_shl_uint64: function 66 -/
def word_shl_uint64.f (a0 : Int) (a1 : Int) : Option (Int) := (word_bits_uint64.f).bind fun t118 => (if t118 = 0 then (none) else (if 0 ≤ (Int.tmod a1 t118) then (some (shl .u64 a0 (Int.tmod a1 t118))) else (none)))
set_option maxHeartbeats 8000000 in
set_option maxRecDepth 100000 in
theorem word_shl_uint64.calls (a0 : Int) (a1 : Int) (r : Int) (w : World) (h : word_shl_uint64.f a0 a1 = some r) :
    Calls Try.prog 66 #[.int .u64 a0, .int .u64 a1] w fun e w' => e = .returned (.int .u64 r) ∧ Drawn0 w w' := by
  have H : ((word_bits_uint64.f).bind fun t118 => (if t118 = 0 then (none) else (if 0 ≤ (Int.tmod a1 t118) then (some (shl .u64 a0 (Int.tmod a1 t118))) else (none)))) = some r := h
  clear h
  replace H := Option.bind_eq_some_iff.mp H
  obtain ⟨t118, A30, H⟩ := H
  replace H : (if t118 = 0 then (none) else (if 0 ≤ (Int.tmod a1 t118) then (some (shl .u64 a0 (Int.tmod a1 t118))) else (none))) = some r := H
  have A3 := Aside0.mk A30
  clear A30
  by_cases c4 : t118 = 0
  · rw [if_pos c4] at H
    exact absurd H (by simp)
  · rw [if_neg c4] at H
    have c4b0 : (t118 == 0) = false := beq_eq_false_iff_ne.mpr c4
    have c4b1 : (t118 != 0) = true := bne_iff_ne.mpr c4
    obtain ⟨ji5, hji5⟩ : ∃ j_ : Int, (Int.tmod a1 t118) = j_ := ⟨_, rfl⟩
    replace H : (if 0 ≤ (ji5) then (some (shl .u64 a0 (ji5))) else (none)) = some r := by first | (rw [hji5] at H; exact H) | (simp only [hji5] at H ⊢; exact H)
    (try rw [hji5] at A3)
    by_cases c6 : 0 ≤ (ji5)
    · rw [if_pos c6] at H
      have c6b0 := eq_true c6
      have c6b1 : decide (0 ≤ (ji5)) = true := decide_eq_true c6
      clear c6
      obtain ⟨ji7, hji7⟩ : ∃ j_ : Int, (shl .u64 a0 (ji5)) = j_ := ⟨_, rfl⟩
      replace H : (some ji7) = some r := by first | (rw [hji7] at H; exact H) | (simp only [hji7] at H ⊢; exact H)
      (try rw [hji7] at A3)
      have hji7_ : (IntKind.u64.wrap (a0 * 2 ^ min (ji5).toNat 64)) = ji7 := hji7
      have hji7z : (ji5) ≤ 64 → (IntKind.u64.wrap (a0 * 2 ^ (ji5).toNat)) = ji7 := shl_small hji7
      obtain rfl := Option.some.inj H
      go_enter Try.func66, Try.ntmps66
      go_wp2_with (first | ((with_reducible refine gate_callee (f := 88) rfl ?_); refine goesL_ (some 7) rfl rfl Try.func88 (by kernel_rfl) rfl #[] rfl (by (try simp only [List.map_toArray, List.map_cons, List.map_nil]); first | done | rfl | (simp only [List.length_drop, List.length_take]; rfl)) ?_; (with_reducible refine (word_bits_uint64.calls  t118 _ A3.out).mono ?_); rintro e w' ⟨rfl, ⟨nd, rfl⟩⟩; refine ⟨_, rfl, ?_⟩))
      go_ret
      exact ⟨by first | rfl | (simp; done) | (simp only [← hji5, ← hji7] <;> (first | rfl | simp)) | (simp [*]; done), by repeat (first | exact Drawn0.refl _ | apply Drawn0.step)⟩
    · rw [if_neg c6] at H
      exact absurd H (by simp)

/-! ### word_Narrow: function 25 -/
def word_Narrow.f (a0 : Int) (a1 : Int) : Option (Int) := if a1 = 8 then ((word_shl_uint8.f ((a0) % 256) 0).bind fun t_ => some (IntKind.u64.wrap t_)) else if a1 = 16 then ((word_shl_uint16.f (IntKind.u16.wrap (a0)) 0).bind fun t_ => some (IntKind.u64.wrap t_)) else if a1 = 32 then ((word_shl_uint32.f ((a0) % 4294967296) 0).bind fun t_ => some (IntKind.u64.wrap t_)) else word_shl_uint64.f a0 0
set_option maxHeartbeats 8000000 in
set_option maxRecDepth 100000 in
theorem word_Narrow.calls (a0 : Int) (a1 : Int) (r : Int) (w : World) (h : word_Narrow.f a0 a1 = some r) :
    Calls Try.prog 25 #[.int .u64 a0, .int .i64 a1] w fun e w' => e = .returned (.int .u64 r) ∧ Drawn0 w w' := by
  unfold word_Narrow.f at h
  by_cases c8 : a1 = 8
  · rw [if_pos c8] at h
    have c8b : (a1 == 8) = true := beq_iff_eq.mpr c8
    clear c8
    obtain ⟨t_, ht, h⟩ := Option.bind_eq_some_iff.mp h
    obtain rfl := Option.some.inj h
    have ht' := Aside0.mk ht
    clear h ht
    go_enter Try.func25, Try.ntmps25
    go_wp2_with (first | (go_at_call 62; go_in) | (go_at_call 63; refine (word_shl_uint8.calls _ _ _ _ ht'.out).mono ?_; rintro e w' ⟨rfl, ⟨nd, rfl⟩⟩))
    go_ret
    exact ⟨by first | rfl | (simp; done) | (simp [*]; done), by repeat (first | exact Drawn0.refl _ | apply Drawn0.step)⟩
  · rw [if_neg c8] at h
    have c8b : (a1 == 8) = false := beq_eq_false_iff_ne.mpr c8
    clear c8
    by_cases c16 : a1 = 16
    · rw [if_pos c16] at h
      have c16b : (a1 == 16) = true := beq_iff_eq.mpr c16
      clear c16
      obtain ⟨t_, ht, h⟩ := Option.bind_eq_some_iff.mp h
      obtain rfl := Option.some.inj h
      have ht' := Aside0.mk ht
      clear h ht
      go_enter Try.func25, Try.ntmps25
      go_wp2_with (first | (go_at_call 62; go_in) | (go_at_call 64; refine (word_shl_uint16.calls _ _ _ _ ht'.out).mono ?_; rintro e w' ⟨rfl, ⟨nd, rfl⟩⟩))
      go_ret
      exact ⟨by first | rfl | (simp; done) | (simp [*]; done), by repeat (first | exact Drawn0.refl _ | apply Drawn0.step)⟩
    · rw [if_neg c16] at h
      have c16b : (a1 == 16) = false := beq_eq_false_iff_ne.mpr c16
      clear c16
      by_cases c32 : a1 = 32
      · rw [if_pos c32] at h
        have c32b : (a1 == 32) = true := beq_iff_eq.mpr c32
        clear c32
        obtain ⟨t_, ht, h⟩ := Option.bind_eq_some_iff.mp h
        obtain rfl := Option.some.inj h
        have ht' := Aside0.mk ht
        clear h ht
        go_enter Try.func25, Try.ntmps25
        go_wp2_with (first | (go_at_call 62; go_in) | (go_at_call 65; refine (word_shl_uint32.calls _ _ _ _ ht'.out).mono ?_; rintro e w' ⟨rfl, ⟨nd, rfl⟩⟩))
        go_ret
        exact ⟨by first | rfl | (simp; done) | (simp [*]; done), by repeat (first | exact Drawn0.refl _ | apply Drawn0.step)⟩
      · rw [if_neg c32] at h
        have c32b : (a1 == 32) = false := beq_eq_false_iff_ne.mpr c32
        clear c32
        have ht' := Aside0.mk h
        clear h
        go_enter Try.func25, Try.ntmps25
        go_wp2_with (first | (go_at_call 62; go_in) | (go_at_call 66; refine (word_shl_uint64.calls _ _ _ _ ht'.out).mono ?_; rintro e w' ⟨rfl, ⟨nd, rfl⟩⟩))
        go_ret
        exact ⟨by first | rfl | (simp; done) | (simp [*]; done), by repeat (first | exact Drawn0.refl _ | apply Drawn0.step)⟩

end Go.Proofs.Ythmeojeehemlaaa.PM
