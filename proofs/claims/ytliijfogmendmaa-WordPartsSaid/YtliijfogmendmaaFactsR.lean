import Derived.Test.YtliijfogmendmaaFactsC
import Derived.Test.YtliijfogmendmaaPWx7
namespace Go.Proofs.Ytliijfogmendmaa.Facts
open Go.RowKit Go.Proofs.Ytliijfogmendmaa.PW Go.Proofs.YtliijfogmendmaaW.PrintWords Go.Proofs.YtliijfogmendmaaW.PrintLast Go.Proofs.YtliijfogmendmaaW.PrintMore
set_option linter.unusedVariables false
set_option linter.unusedSimpArgs false
/-! The references' functions come to the same closed forms. -/

theorem w64 (n : Int) (h0 : -9223372036854775808 ≤ n) (h1 : n < 9223372036854775808) : wrap64 n = n := by unfold wrap64; omega

theorem power_l0 (d : Nat) : ∀ (n i k : Nat), i + d = n → n < 64 → d < k → spindleref1_power.l0 k n (2 ^ i) i = some (2 ^ n) := by
  induction d with
  | zero =>
    intro n i k h _ hk
    obtain ⟨k, rfl⟩ : ∃ m, k = m + 1 := ⟨k - 1, by omega⟩
    obtain rfl : i = n := by omega
    simp only [spindleref1_power.l0]
    rw [if_neg (by omega)]
  | succ d ih =>
    intro n i k h hn hk
    obtain ⟨k, rfl⟩ : ∃ m, k = m + 1 := ⟨k - 1, by omega⟩
    obtain ⟨p1, p2⟩ := pow_range (i + 1) (by omega)
    have e : (2 : Int) ^ (i + 1) = 2 ^ i * 2 := Int.pow_succ 2 i
    simp only [spindleref1_power.l0]
    have e1 : IntKind.u64.wrap ((2 : Int) ^ i + 2 ^ i) = 2 ^ (i + 1) := by rw [IntKind.wrap_u64]; omega
    have e2 : wrap64 ((i : Int) + 1) = ((i + 1 : Nat) : Int) := by rw [w64 _ (by omega) (by omega)]; rfl
    rw [if_pos (by omega), e1, e2]
    exact ih n (i + 1) k (by omega) hn (by omega)
theorem power_nat (n k : Nat) (h : n < 64) (hk : n < k) : spindleref1_power.f k n = some (2 ^ n) := by
  have := power_l0 n n 0 k (by omega) h hk
  exact this
theorem power_eq (x : Int) (k : Nat) (h0 : 0 ≤ x) (h1 : x < 64) (hk : 64 ≤ k) : spindleref1_power.f k x = some (2 ^ x.toNat) := by
  have e : x = (x.toNat : Int) := by omega
  have := power_nat x.toNat k (by omega) (by omega)
  rw [← e] at this
  exact this

theorem mod_as (a m : Int) (h0 : 0 ≤ a) (h1 : a < 18446744073709551616) (hm : 0 < m) (hm1 : m < 18446744073709551616) :
    IntKind.u64.wrap (a - IntKind.u64.wrap (IntKind.u64.wrap (Int.tdiv a m) * m)) = a % m := by
  have q0 : 0 ≤ a / m := Int.ediv_nonneg h0 (by omega)
  have q1 : a / m ≤ a := Int.ediv_le_self _ h0
  have e := Int.emod_add_ediv_mul a m
  have r0 : 0 ≤ a % m := Int.emod_nonneg _ (by omega)
  have r1 : a % m < m := Int.emod_lt_of_pos _ hm
  rw [Int.tdiv_eq_ediv_of_nonneg h0, IntKind.wrap_u64, IntKind.wrap_u64, IntKind.wrap_u64, Int.emod_eq_of_lt q0 (by omega)]
  generalize a / m * m = z at *
  omega

theorem narrow_ref (a w : Int) (k : Nat) (h0 : 0 ≤ a) (h1 : a < 18446744073709551616) (hk : 64 ≤ k) : spindleref1_Narrow.f k a w = some (a % M w) := by
  have hK := K_pos w
  have mk := M_K w
  unfold spindleref1_Narrow.f
  rw [wide_eq, Option.bind_some]
  split
  · rename_i e
    rcases four w with ⟨_, h, h'⟩ | ⟨_, h, h'⟩ | ⟨_, h, h'⟩ | ⟨_, h, h'⟩
    · rw [h'] at e; exact absurd e (by decide)
    · rw [h'] at e; exact absurd e (by decide)
    · rw [h'] at e; exact absurd e (by decide)
    · rw [h, Int.emod_eq_of_lt h0 h1]
  · rename_i e
    have hm := M_pos w
    obtain ⟨p1, p2⟩ := pow_range (K w).toNat (by omega)
    rw [power_eq (K w) k (by omega) (by omega) hk, Option.bind_some, ← mk, if_neg (by omega), mod_as a (M w) h0 h1 (by omega) (by rw [mk]; exact p2)]

theorem MK (w : Int) : M (K w) = M w := by
  rcases four w with ⟨_, h, h'⟩ | ⟨_, h, h'⟩ | ⟨_, h, h'⟩ | ⟨_, h, h'⟩ <;> rw [h, h'] <;> rfl
theorem KK (w : Int) : K (K w) = K w := by
  rcases four w with ⟨_, h, h'⟩ | ⟨_, h, h'⟩ | ⟨_, h, h'⟩ | ⟨_, h, h'⟩ <;> rw [h'] <;> rfl
theorem sgK (w x : Int) : sg (K w) x = sg w x := by unfold sg; rw [MK]
theorem narrowK_ref (a w : Int) (k : Nat) (h0 : 0 ≤ a) (h1 : a < 18446744073709551616) (hk : 64 ≤ k) : spindleref1_Narrow.f k a (K w) = some (a % M w) := by
  rw [narrow_ref a (K w) k h0 h1 hk, MK]
theorem half_pow (w : Int) : (2 : Int) ^ (K w - 1).toNat = M w / 2 := by
  rcases four w with ⟨_, h, h'⟩ | ⟨_, h, h'⟩ | ⟨_, h, h'⟩ | ⟨_, h, h'⟩ <;> rw [h, h'] <;> rfl
theorem power_top (w : Int) (k : Nat) (hk : 64 ≤ k) : spindleref1_power.f k (wrap64 (K w - 1)) = some (M w / 2) := by
  have hK := K_pos w
  rw [w64 _ (by omega) (by omega), power_eq _ k (by omega) (by omega) hk, half_pow]
theorem minus_ref (x w : Int) (k : Nat) (hk : 64 ≤ k) : spindleref1_minus.f k x (K w) = some (decide (M w / 2 ≤ x)) := by
  unfold spindleref1_minus.f
  rw [power_top w k hk, Option.bind_some]

theorem sign_ref (a w : Int) (k : Nat) (h0 : 0 ≤ a) (h1 : a < 18446744073709551616) (hk : 64 ≤ k) : spindleref1_Sign.f k a w = some (sg w a % 18446744073709551616) := by
  have hK := K_pos w
  have hm := M_pos w
  have ma := M_lt w a
  have mk := M_K w
  unfold spindleref1_Sign.f
  rw [wide_eq, Option.bind_some, narrowK_ref a w k h0 h1 hk, Option.bind_some, minus_ref _ w k hk, Option.bind_some]
  by_cases h64 : K w < 64
  · obtain ⟨p1, p2⟩ := pow_range (K w).toNat (by omega)
    rw [if_pos h64]
    unfold sg
    by_cases hs : M w / 2 ≤ a % M w
    · rw [if_pos (decide_eq_true hs), power_eq (K w) k (by omega) h64 hk, Option.bind_some, ← mk, if_neg (by omega), IntKind.wrap_u64]
    · rw [if_neg (by simpa using hs), if_pos (by omega), Int.emod_eq_of_lt ma.1 (by omega)]
  · rw [if_neg h64]
    have hM : M w = 18446744073709551616 := by
      rcases four w with ⟨_, h, h'⟩ | ⟨_, h, h'⟩ | ⟨_, h, h'⟩ | ⟨_, h, h'⟩ <;> first | exact h | (rw [h'] at h64; omega)
    have e := sg_mod w a
    rw [hM] at e ⊢
    rw [e]

theorem less_ref (a b w : Int) (k : Nat) (h0 : 0 ≤ a) (h1 : a < 18446744073709551616) (h2 : 0 ≤ b) (h3 : b < 18446744073709551616) (hk : 64 ≤ k) : spindleref1_Less.f k a b w = some (decide (a % M w < b % M w)) := by
  unfold spindleref1_Less.f
  rw [narrow_ref a w k h0 h1 hk, narrow_ref b w k h2 h3 hk]; rfl

theorem sless_ref (a b w : Int) (k : Nat) (h0 : 0 ≤ a) (h1 : a < 18446744073709551616) (h2 : 0 ≤ b) (h3 : b < 18446744073709551616) (hk : 64 ≤ k) : spindleref1_SLess.f k a b w = some (decide (sg w a < sg w b)) := by
  have ma := M_lt w a
  have mb := M_lt w b
  unfold spindleref1_SLess.f
  rw [wide_eq, Option.bind_some, narrowK_ref a w k h0 h1 hk, Option.bind_some, narrowK_ref b w k h2 h3 hk, Option.bind_some, minus_ref _ w k hk, Option.bind_some, minus_ref _ w k hk, Option.bind_some]
  unfold sg
  by_cases p : M w / 2 ≤ a % M w <;> by_cases q : M w / 2 ≤ b % M w
  · rw [decide_eq_true p, decide_eq_true q, if_neg (by simp), if_neg (show ¬ a % M w < M w / 2 by omega), if_neg (show ¬ b % M w < M w / 2 by omega)]
    congr 1; rw [decide_eq_decide]; omega
  · rw [decide_eq_true p, decide_eq_false q, if_pos (by simp), if_neg (show ¬ a % M w < M w / 2 by omega), if_pos (show b % M w < M w / 2 by omega)]
    rw [decide_eq_true (by omega)]
  · rw [decide_eq_false p, decide_eq_true q, if_pos (by simp), if_pos (show a % M w < M w / 2 by omega), if_neg (show ¬ b % M w < M w / 2 by omega)]
    rw [decide_eq_false (by omega)]
  · rw [decide_eq_false p, decide_eq_false q, if_neg (by simp), if_pos (show a % M w < M w / 2 by omega), if_pos (show b % M w < M w / 2 by omega)]

theorem swap_l0 (w : Int) (n : Nat) : ∀ (j : Nat) (x y : Int) (k : Nat), j + n = bytesOf w → n < k → 0 ≤ x → x < 18446744073709551616 → 0 ≤ y → y < 256 ^ j →
    spindleref1_Swap.l0 k w x y (8 * j : Nat) = some (rev n x y) := by
  have hK := K_pos w
  have hb : (bytesOf w : Int) * 8 = K w := by
    unfold bytesOf
    rcases four w with ⟨_, h, h'⟩ | ⟨_, h, h'⟩ | ⟨_, h, h'⟩ | ⟨_, h, h'⟩ <;> rw [h'] <;> rfl
  induction n with
  | zero =>
    intro j x y k hj hk _ _ _ _
    obtain ⟨k, rfl⟩ : ∃ m, k = m + 1 := ⟨k - 1, by omega⟩
    simp only [spindleref1_Swap.l0]
    rw [wide_eq, Option.bind_some, if_neg (by omega)]; rfl
  | succ n ih =>
    intro j x y k hj hk hx0 hx1 hy0 hy1
    obtain ⟨k, rfl⟩ : ∃ m, k = m + 1 := ⟨k - 1, by omega⟩
    obtain ⟨_, h1, h2, h3, h4, h5⟩ := turn_step x y j (by omega) hx0 hx1 hy0 hy1
    have hlt : y * 256 < 18446744073709551616 := by omega
    simp only [spindleref1_Swap.l0]
    rw [wide_eq, Option.bind_some, if_pos (by omega), Int.tdiv_eq_ediv_of_nonneg hx0, Int.tmod_eq_emod_of_nonneg hx0]
    have e1 : IntKind.u64.wrap (x / 256) = x / 256 := by rw [IntKind.wrap_u64]; omega
    have e2 : IntKind.u64.wrap (IntKind.u64.wrap (y * 256) + x % 256) = y * 256 + x % 256 := by rw [IntKind.wrap_u64, IntKind.wrap_u64]; omega
    have e3 : wrap64 (((8 * j : Nat) : Int) + 8) = ((8 * (j + 1) : Nat) : Int) := by rw [w64 _ (by omega) (by omega)]; omega
    rw [e1, e2, e3]
    exact ih (j + 1) (x / 256) _ k (by omega) (by omega) h3 h4 h1 h2
theorem swap_ref (a w : Int) (k : Nat) (h0 : 0 ≤ a) (h1 : a < 18446744073709551616) (hk : 64 ≤ k) : spindleref1_Swap.f k a w = some (rev (bytesOf w) (a % M w) 0) := by
  have ma := M_lt w a
  have hm := M_pos w
  have hK := K_pos w
  unfold spindleref1_Swap.f
  rw [narrow_ref a w k h0 h1 hk, Option.bind_some]
  have := swap_l0 w (bytesOf w) 0 (a % M w) 0 k (by omega) (by unfold bytesOf; omega) ma.1 (by omega) (by omega) (by decide)
  exact this

/-- one round of the division -/
theorem div_round (A b q left bit : Int) (hb0 : 0 < b) (hb1 : b < 18446744073709551616) (hl0 : 0 ≤ left) (hl1 : left < b) (hq : 0 ≤ q) (hbit : bit = 0 ∨ bit = 1) (hA : A = 2 * (q * b + left) + bit) (hA1 : A < 18446744073709551616) :
    (left ≥ 9223372036854775808 ∨ IntKind.u64.wrap (IntKind.u64.wrap (left + left) + bit) ≥ b →
      ∃ q' l', IntKind.u64.wrap (IntKind.u64.wrap (q + q) + 1) = q' ∧ IntKind.u64.wrap (IntKind.u64.wrap (IntKind.u64.wrap (left + left) + bit) - b) = l' ∧ 0 ≤ q' ∧ 0 ≤ l' ∧ l' < b ∧ A = q' * b + l') ∧
    (¬ (left ≥ 9223372036854775808 ∨ IntKind.u64.wrap (IntKind.u64.wrap (left + left) + bit) ≥ b) →
      ∃ q' l', IntKind.u64.wrap (q + q) = q' ∧ IntKind.u64.wrap (IntKind.u64.wrap (left + left) + bit) = l' ∧ 0 ≤ q' ∧ 0 ≤ l' ∧ l' < b ∧ A = q' * b + l') := by
  have hqm : q * 1 ≤ q * b := Int.mul_le_mul_of_nonneg_left (by omega) hq
  have e1 : (2 * q + 1) * b = 2 * (q * b) + b := by rw [Int.add_mul, Int.one_mul, Int.mul_assoc]
  have e2 : (2 * q) * b = 2 * (q * b) := by rw [Int.mul_assoc]
  simp only [IntKind.wrap_u64]
  constructor
  · intro h
    refine ⟨2 * q + 1, 2 * left + bit - b, ?_, ?_, by omega, ?_, ?_, ?_⟩
    · generalize q * b = m at *; omega
    · generalize q * b = m at *; omega
    · generalize q * b = m at *; omega
    · omega
    · rw [e1]; generalize q * b = m at *; omega
  · intro h
    refine ⟨2 * q, 2 * left + bit, ?_, ?_, by omega, by omega, ?_, ?_⟩
    · generalize q * b = m at *; omega
    · generalize q * b = m at *; omega
    · generalize q * b = m at *; omega
    · rw [e2]; generalize q * b = m at *; omega

theorem pow_step (a : Int) (n : Nat) (h0 : 0 ≤ a) : a / 2 ^ n = 2 * (a / 2 ^ (n + 1)) + a / 2 ^ n % 2 := by
  rw [Int.pow_succ, ← Int.ediv_ediv_of_nonneg (by have := (show (0 : Int) < 2 ^ n from by exact_mod_cast Nat.two_pow_pos n); omega)]
  omega

theorem divide_l0 (a b : Int) (ha0 : 0 ≤ a) (ha1 : a < 18446744073709551616) (hb0 : 0 < b) (hb1 : b < 18446744073709551616) (n : Nat) : ∀ (q left : Int) (k : Nat), n ≤ 64 → n + 64 < k → 0 ≤ q → 0 ≤ left → left < b → a / 2 ^ n = q * b + left →
    ∃ q' l', spindleref1_divide.l0 k a b q left ((n : Int) - 1) = some (q', l') ∧ 0 ≤ q' ∧ 0 ≤ l' ∧ l' < b ∧ a = q' * b + l' := by
  induction n with
  | zero =>
    intro q left k _ hk hq hl0 hl1 h
    obtain ⟨k, rfl⟩ : ∃ m, k = m + 1 := ⟨k - 1, by omega⟩
    simp only [spindleref1_divide.l0]
    rw [if_neg (by omega)]
    exact ⟨q, left, rfl, hq, hl0, hl1, by rw [Int.pow_zero, Int.ediv_one] at h; exact h⟩
  | succ n ih =>
    intro q left k hn hk hq hl0 hl1 h
    obtain ⟨k, rfl⟩ : ∃ m, k = m + 1 := ⟨k - 1, by omega⟩
    have hx : ((n + 1 : Nat) : Int) - 1 = (n : Int) := by omega
    obtain ⟨p1, p2⟩ := pow_range n (by omega)
    have hd0 : 0 ≤ a / 2 ^ n := Int.ediv_nonneg ha0 (by omega)
    have hd1 : a / 2 ^ n ≤ a := Int.ediv_le_self _ ha0
    have ebit : Int.tmod (IntKind.u64.wrap (Int.tdiv a (2 ^ n))) 2 = a / 2 ^ n % 2 := by
      rw [Int.tdiv_eq_ediv_of_nonneg ha0, IntKind.wrap_u64, Int.emod_eq_of_lt hd0 (by omega), Int.tmod_eq_emod_of_nonneg hd0]
    have hs := pow_step a n ha0
    rw [h] at hs
    obtain ⟨r1, r2⟩ := div_round (a / 2 ^ n) b q left (a / 2 ^ n % 2) hb0 hb1 hl0 hl1 hq (by omega) hs (by omega)
    have e63 : (2 : Int) ^ (63 : Int).toNat = 9223372036854775808 := rfl
    have en : wrap64 ((n : Int) - 1) = (n : Int) - 1 := w64 _ (by omega) (by omega)
    rw [hx]
    simp only [spindleref1_divide.l0]
    rw [if_pos (by omega), power_eq 63 k (by omega) (by omega) (by omega), Option.bind_some, power_nat n k (by omega) (by omega), Option.bind_some, if_neg (by omega), e63, ebit, en]
    by_cases c1 : left ≥ 9223372036854775808
    · obtain ⟨q', l', f1, f2, f3, f4, f5, f6⟩ := r1 (.inl c1)
      rw [if_pos c1, f1, f2]
      exact ih q' l' k (by omega) (by omega) f3 f4 f5 f6
    · rw [if_neg c1]
      by_cases c2 : IntKind.u64.wrap (IntKind.u64.wrap (left + left) + a / 2 ^ n % 2) ≥ b
      · obtain ⟨q', l', f1, f2, f3, f4, f5, f6⟩ := r1 (.inr c2)
        rw [if_pos c2, f1, f2]
        exact ih q' l' k (by omega) (by omega) f3 f4 f5 f6
      · obtain ⟨q', l', f1, f2, f3, f4, f5, f6⟩ := r2 (by rintro (h | h); exact c1 h; exact c2 h)
        rw [if_neg c2, f1, f2]
        exact ih q' l' k (by omega) (by omega) f3 f4 f5 f6

theorem divide_ref (a b : Int) (k : Nat) (ha0 : 0 ≤ a) (ha1 : a < 18446744073709551616) (hb0 : 0 < b) (hb1 : b < 18446744073709551616) (hk : 130 ≤ k) : spindleref1_divide.f k a b = some (a / b, a % b) := by
  have e64 : a / 2 ^ 64 = 0 := Int.ediv_eq_zero_of_lt ha0 (by rw [show (2 : Int) ^ 64 = 18446744073709551616 from rfl]; exact ha1)
  obtain ⟨q', l', h, h0, h1, h2, h3⟩ := divide_l0 a b ha0 ha1 hb0 hb1 64 0 0 k (by omega) (by omega) (by omega) (by omega) hb0 (by rw [e64]; simp)
  have eq : a / b = q' := by
    rw [h3, Int.add_comm, Int.add_mul_ediv_right _ _ (by omega), Int.ediv_eq_zero_of_lt h1 h2, Int.zero_add]
  have er : a % b = l' := by
    rw [h3, Int.add_comm, Int.add_mul_emod_self_right, Int.emod_eq_of_lt h1 h2]
  rw [eq, er]
  exact h

theorem div_ref (a b w : Int) (k : Nat) (h0 : 0 ≤ a) (h1 : a < 18446744073709551616) (h2 : 0 ≤ b) (h3 : b < 18446744073709551616) (hk : 130 ≤ k) : spindleref1_Div.f k a b w = some (a % M w / (b % M w)) := by
  have ma := M_lt w a
  have mb := M_lt w b
  have hm := M_pos w
  unfold spindleref1_Div.f
  rw [narrow_ref b w k h2 h3 (by omega), Option.bind_some]
  split
  · rename_i e; rw [e, Int.ediv_zero]
  · rw [narrow_ref a w k h0 h1 (by omega), Option.bind_some, divide_ref _ _ k ma.1 (by omega) (by omega) (by omega) hk]; rfl
theorem mod_ref (a b w : Int) (k : Nat) (h0 : 0 ≤ a) (h1 : a < 18446744073709551616) (h2 : 0 ≤ b) (h3 : b < 18446744073709551616) (hk : 130 ≤ k) : spindleref1_Mod.f k a b w = some (a % M w % (b % M w)) := by
  have ma := M_lt w a
  have mb := M_lt w b
  have hm := M_pos w
  unfold spindleref1_Mod.f
  rw [narrow_ref a w k h0 h1 (by omega), Option.bind_some, narrow_ref b w k h2 h3 (by omega), Option.bind_some]
  split
  · rename_i e; rw [e, Int.emod_zero]
  · rw [divide_ref _ _ k ma.1 (by omega) (by omega) (by omega) hk]; rfl

theorem size_ref (a w : Int) (k : Nat) (hk : 130 ≤ k) : spindleref1_size.f k (a % M w) (K w) = some ((sg w a).natAbs : Int) := by
  have ma := M_lt w a
  have hm := M_pos w
  have hh := M_half w
  unfold spindleref1_size.f
  rw [minus_ref _ w k (by omega), Option.bind_some]
  unfold sg
  by_cases p : M w / 2 ≤ a % M w
  · rw [if_pos (decide_eq_true p), if_neg (by omega), IntKind.wrap_u64, narrowK_ref _ w k (by omega) (by omega) (by omega), modM, Option.bind_some]
    congr 1
    rw [← Int.add_emod_right, Int.emod_eq_of_lt (by omega) (by omega)]
    omega
  · rw [if_neg (by simpa using p), if_pos (by omega)]
    congr 1; omega

theorem tdiv_abs (x y : Int) : Int.tdiv x y = if (x < 0) ≠ (y < 0) then - ((x.natAbs : Int) / (y.natAbs : Int)) else (x.natAbs : Int) / (y.natAbs : Int) := by
  by_cases hx : x < 0 <;> by_cases hy' : y < 0
  · rw [if_neg (by rw [eq_true hx, eq_true hy']; simp)]
    obtain ⟨m, rfl⟩ : ∃ m : Nat, x = -(m : Int) := ⟨x.natAbs, by omega⟩
    obtain ⟨n, rfl⟩ : ∃ n : Nat, y = -(n : Int) := ⟨y.natAbs, by omega⟩
    rw [Int.neg_tdiv, Int.tdiv_neg, Int.neg_neg, Int.tdiv_eq_ediv_of_nonneg (by omega), Int.natAbs_neg, Int.natAbs_neg, Int.natAbs_natCast, Int.natAbs_natCast]
  · rw [if_pos (by rw [eq_true hx, eq_false hy']; simp)]
    obtain ⟨m, rfl⟩ : ∃ m : Nat, x = -(m : Int) := ⟨x.natAbs, by omega⟩
    obtain ⟨n, rfl⟩ : ∃ n : Nat, y = (n : Int) := ⟨y.natAbs, by omega⟩
    rw [Int.neg_tdiv, Int.tdiv_eq_ediv_of_nonneg (by omega), Int.natAbs_neg, Int.natAbs_natCast, Int.natAbs_natCast]
  · rw [if_pos (by rw [eq_false hx, eq_true hy']; simp)]
    obtain ⟨m, rfl⟩ : ∃ m : Nat, x = (m : Int) := ⟨x.natAbs, by omega⟩
    obtain ⟨n, rfl⟩ : ∃ n : Nat, y = -(n : Int) := ⟨y.natAbs, by omega⟩
    rw [Int.tdiv_neg, Int.tdiv_eq_ediv_of_nonneg (by omega), Int.natAbs_neg, Int.natAbs_natCast, Int.natAbs_natCast]
  · rw [if_neg (by rw [eq_false hx, eq_false hy']; simp)]
    obtain ⟨m, rfl⟩ : ∃ m : Nat, x = (m : Int) := ⟨x.natAbs, by omega⟩
    obtain ⟨n, rfl⟩ : ∃ n : Nat, y = (n : Int) := ⟨y.natAbs, by omega⟩
    rw [Int.tdiv_eq_ediv_of_nonneg (by omega), Int.natAbs_natCast, Int.natAbs_natCast]
theorem tmod_abs (x y : Int) : Int.tmod x y = if x < 0 then - ((x.natAbs : Int) % (y.natAbs : Int)) else (x.natAbs : Int) % (y.natAbs : Int) := by
  have hp : Int.tmod x y = Int.tmod x (y.natAbs : Int) := by
    by_cases hy' : y < 0
    · obtain ⟨n, rfl⟩ : ∃ n : Nat, y = -(n : Int) := ⟨y.natAbs, by omega⟩
      rw [Int.tmod_neg]; simp
    · obtain ⟨n, rfl⟩ : ∃ n : Nat, y = (n : Int) := ⟨y.natAbs, by omega⟩
      simp
  rw [hp]
  by_cases hx : x < 0
  · obtain ⟨m, rfl⟩ : ∃ m : Nat, x = -(m : Int) := ⟨x.natAbs, by omega⟩
    rw [if_pos hx, Int.neg_tmod, Int.tmod_eq_emod_of_nonneg (by omega)]
    simp
  · obtain ⟨m, rfl⟩ : ∃ m : Nat, x = (m : Int) := ⟨x.natAbs, by omega⟩
    rw [if_neg hx, Int.tmod_eq_emod_of_nonneg (by omega)]
    simp

theorem sg_neg (w a : Int) : decide (M w / 2 ≤ a % M w) = decide (sg w a < 0) := by
  have ma := M_lt w a
  have hm := M_pos w
  unfold sg
  rw [decide_eq_decide]
  split <;> omega
theorem sg_zero_iff (w b : Int) (h : b % M w ≠ 0) : sg w b ≠ 0 := by
  intro e
  have := sg_mod w b
  rw [e, Int.zero_emod] at this
  exact h this.symm
theorem abs_lt (w a : Int) : ((sg w a).natAbs : Int) ≤ M w / 2 := by
  have := sg_lt w a
  omega

theorem sdiv_ref (a b w : Int) (k : Nat) (h0 : 0 ≤ a) (h1 : a < 18446744073709551616) (h2 : 0 ≤ b) (h3 : b < 18446744073709551616) (hk : 130 ≤ k) : spindleref1_SDiv.f k a b w = some (Int.tdiv (sg w a) (sg w b) % M w) := by
  have ma := M_lt w a
  have mb := M_lt w b
  have hm := M_pos w
  have xa := abs_lt w a
  have xb := abs_lt w b
  unfold spindleref1_SDiv.f
  rw [wide_eq, Option.bind_some, narrowK_ref a w k h0 h1 (by omega), Option.bind_some, narrowK_ref b w k h2 h3 (by omega), Option.bind_some]
  by_cases hz : b % M w = 0
  · have z : sg w b = 0 := by unfold sg; rw [hz, if_pos (by omega)]
    rw [if_pos hz, z, Int.tdiv_zero, Int.zero_emod]
  · have nz := sg_zero_iff w b hz
    have d0 : 0 ≤ ((sg w a).natAbs : Int) / ((sg w b).natAbs : Int) := Int.ediv_nonneg (by omega) (by omega)
    have d1 : ((sg w a).natAbs : Int) / ((sg w b).natAbs : Int) ≤ (sg w a).natAbs := Int.ediv_le_self _ (by omega)
    rw [if_neg hz, size_ref a w k hk, Option.bind_some, size_ref b w k hk, Option.bind_some, divide_ref _ _ k (by omega) (by omega) (by omega) (by omega) hk, Option.bind_some, minus_ref _ w k (by omega), Option.bind_some, minus_ref _ w k (by omega), Option.bind_some,
      sg_neg, sg_neg, tdiv_abs]
    by_cases hs : (sg w a < 0) = (sg w b < 0)
    · rw [if_neg (by simp [hs]), if_neg (by simp [hs]), narrowK_ref _ w k (by omega) (by omega) (by omega)]; rfl
    · have hs' : (decide (sg w a < 0) != decide (sg w b < 0)) = true := by
        rw [bne_iff_ne]; intro e; exact hs (by simpa using e)
      rw [if_pos hs', if_pos hs, IntKind.wrap_u64, narrowK_ref _ w k (by omega) (by omega) (by omega), modM]; rfl
theorem smod_ref (a b w : Int) (k : Nat) (h0 : 0 ≤ a) (h1 : a < 18446744073709551616) (h2 : 0 ≤ b) (h3 : b < 18446744073709551616) (hk : 130 ≤ k) : spindleref1_SMod.f k a b w = some (Int.tmod (sg w a) (sg w b) % M w) := by
  have ma := M_lt w a
  have mb := M_lt w b
  have hm := M_pos w
  have xa := abs_lt w a
  have xb := abs_lt w b
  have ea := sg_mod w a
  unfold spindleref1_SMod.f
  rw [wide_eq, Option.bind_some, narrowK_ref a w k h0 h1 (by omega), Option.bind_some, narrowK_ref b w k h2 h3 (by omega), Option.bind_some]
  by_cases hz : b % M w = 0
  · have z : sg w b = 0 := by unfold sg; rw [hz, if_pos (by omega)]
    rw [if_pos hz, z, Int.tmod_zero, ea]
  · have nz := sg_zero_iff w b hz
    have d0 : 0 ≤ ((sg w a).natAbs : Int) % ((sg w b).natAbs : Int) := Int.emod_nonneg _ (by omega)
    have d1 : ((sg w a).natAbs : Int) % ((sg w b).natAbs : Int) < (sg w b).natAbs := Int.emod_lt_of_pos _ (by omega)
    rw [if_neg hz, size_ref a w k hk, Option.bind_some, size_ref b w k hk, Option.bind_some, divide_ref _ _ k (by omega) (by omega) (by omega) (by omega) hk, Option.bind_some, minus_ref _ w k (by omega), Option.bind_some,
      sg_neg, tmod_abs]
    by_cases hs : sg w a < 0
    · rw [if_pos (decide_eq_true hs), if_pos hs, IntKind.wrap_u64, narrowK_ref _ w k (by omega) (by omega) (by omega), modM]; rfl
    · rw [if_neg (by simpa using hs), if_neg hs, narrowK_ref _ w k (by omega) (by omega) (by omega)]; rfl

theorem shl_l0 (w : Int) (n : Nat) : ∀ (x : Int) (k : Nat), n ≤ 64 → n + 64 < k → 0 ≤ x → x < M w → spindleref1_Shl.l0 k (K w) x n = some (x * 2 ^ n % M w) := by
  have hm := M_pos w
  induction n with
  | zero =>
    intro x k _ hk h0 h1
    obtain ⟨k, rfl⟩ : ∃ m, k = m + 1 := ⟨k - 1, by omega⟩
    simp only [spindleref1_Shl.l0]
    rw [if_neg (by omega), Int.pow_zero, Int.mul_one, Int.emod_eq_of_lt h0 h1]
  | succ n ih =>
    intro x k hn hk h0 h1
    obtain ⟨k, rfl⟩ : ∃ m, k = m + 1 := ⟨k - 1, by omega⟩
    have mx := M_lt w (x + x)
    simp only [spindleref1_Shl.l0]
    have e : IntKind.u64.wrap (((n + 1 : Nat) : Int) - 1) = (n : Int) := by rw [IntKind.wrap_u64]; omega
    rw [if_pos (by omega), IntKind.wrap_u64, narrowK_ref _ w k (by omega) (by omega) (by omega), modM, Option.bind_some, e, ih _ k (by omega) (by omega) mx.1 mx.2, mod_mul, Int.pow_succ]
    congr 2
    rw [← Int.two_mul, Int.mul_comm 2 x, Int.mul_assoc, Int.mul_comm 2]
theorem shift_count (b w : Int) (h2 : 0 ≤ b) : Int.tmod b (IntKind.u64.wrap (K w)) = ((b % K w).toNat : Int) ∧ (b % K w).toNat ≤ 64 := by
  have hK := K_pos w
  have s0 : 0 ≤ b % K w := Int.emod_nonneg _ (by omega)
  have s1 : b % K w < K w := Int.emod_lt_of_pos _ (by omega)
  rw [wrapK, Int.tmod_eq_emod_of_nonneg h2]
  omega
theorem shl_ref (a b w : Int) (k : Nat) (h0 : 0 ≤ a) (h1 : a < 18446744073709551616) (h2 : 0 ≤ b) (hk : 130 ≤ k) : spindleref1_Shl.f k a b w = some (a % M w * 2 ^ (b % K w).toNat % M w) := by
  have hK := K_pos w
  have ma := M_lt w a
  obtain ⟨e1, e2⟩ := shift_count b w h2
  unfold spindleref1_Shl.f
  rw [wide_eq, Option.bind_some, narrowK_ref a w k h0 h1 (by omega), Option.bind_some, if_neg (by rw [wrapK]; omega), e1, shl_l0 w _ _ k e2 (by omega) ma.1 ma.2]

theorem half_step (x : Int) (n : Nat) : x / 2 / 2 ^ n = x / 2 ^ (n + 1) := by
  rw [Int.ediv_ediv_of_nonneg (by omega), Int.pow_succ, Int.mul_comm]
theorem shr_l0 (n : Nat) : ∀ (x : Int) (k : Nat), n ≤ 64 → n < k → 0 ≤ x → x < 18446744073709551616 → spindleref1_Shr.l0 k x n = some (x / 2 ^ n) := by
  induction n with
  | zero =>
    intro x k _ hk h0 h1
    obtain ⟨k, rfl⟩ : ∃ m, k = m + 1 := ⟨k - 1, by omega⟩
    simp only [spindleref1_Shr.l0]
    rw [if_neg (by omega), Int.pow_zero, Int.ediv_one]
  | succ n ih =>
    intro x k hn hk h0 h1
    obtain ⟨k, rfl⟩ : ∃ m, k = m + 1 := ⟨k - 1, by omega⟩
    simp only [spindleref1_Shr.l0]
    have e : IntKind.u64.wrap (((n + 1 : Nat) : Int) - 1) = (n : Int) := by rw [IntKind.wrap_u64]; omega
    have e2 : IntKind.u64.wrap (x / 2) = x / 2 := by rw [IntKind.wrap_u64]; omega
    rw [if_pos (by omega), Int.tdiv_eq_ediv_of_nonneg h0, e, e2, ih _ k (by omega) (by omega) (by omega) (by omega), half_step]
theorem shr_ref (a b w : Int) (k : Nat) (h0 : 0 ≤ a) (h1 : a < 18446744073709551616) (h2 : 0 ≤ b) (hk : 130 ≤ k) : spindleref1_Shr.f k a b w = some (a % M w / 2 ^ (b % K w).toNat) := by
  have hK := K_pos w
  have hm := M_pos w
  have ma := M_lt w a
  obtain ⟨e1, e2⟩ := shift_count b w h2
  unfold spindleref1_Shr.f
  rw [wide_eq, Option.bind_some, narrowK_ref a w k h0 h1 (by omega), Option.bind_some, if_neg (by rw [wrapK]; omega), e1, shr_l0 _ _ k e2 (by omega) ma.1 (by omega)]

theorem sar_l0 (w : Int) (n : Nat) : ∀ (s : Int) (k : Nat), n ≤ 64 → n + 64 < k → -(M w / 2) ≤ s → s < M w / 2 → spindleref1_Sar.l0 k (K w) (s % M w) n = some (s / 2 ^ n % M w) := by
  have hm := M_pos w
  have hh := M_half w
  induction n with
  | zero =>
    intro s k _ hk h0 h1
    obtain ⟨k, rfl⟩ : ∃ m, k = m + 1 := ⟨k - 1, by omega⟩
    simp only [spindleref1_Sar.l0]
    rw [if_neg (by omega), Int.pow_zero, Int.ediv_one]
  | succ n ih =>
    intro s k hn hk h0 h1
    obtain ⟨k, rfl⟩ : ∃ m, k = m + 1 := ⟨k - 1, by omega⟩
    simp only [spindleref1_Sar.l0]
    have e : IntKind.u64.wrap (((n + 1 : Nat) : Int) - 1) = (n : Int) := by rw [IntKind.wrap_u64]; omega
    have es := ih (s / 2) k (by omega) (by omega) (by omega) (by omega)
    rw [half_step] at es
    have ms := M_lt w s
    rw [if_pos (by omega), minus_ref _ w k (by omega), Option.bind_some, Int.tdiv_eq_ediv_of_nonneg ms.1, e]
    by_cases hn : s < 0
    · have e1 : s % M w = s + M w := by rw [← Int.add_emod_right, Int.emod_eq_of_lt (by omega) (by omega)]
      have e2 : s / 2 % M w = s / 2 + M w := by rw [← Int.add_emod_right, Int.emod_eq_of_lt (by omega) (by omega)]
      have e3 : IntKind.u64.wrap (IntKind.u64.wrap ((s + M w) / 2) + M w / 2) = s / 2 + M w := by
        rw [IntKind.wrap_u64, IntKind.wrap_u64]; omega
      rw [e2] at es
      rw [e1, if_pos (by simp; omega), power_top w k (by omega), Option.bind_some, e3]
      exact es
    · have e1 : s % M w = s := Int.emod_eq_of_lt (by omega) (by omega)
      have e2 : s / 2 % M w = s / 2 := Int.emod_eq_of_lt (by omega) (by omega)
      have e3 : IntKind.u64.wrap (s / 2) = s / 2 := by rw [IntKind.wrap_u64]; omega
      rw [e2] at es
      rw [e1, if_neg (by simp; omega), e3]
      exact es
theorem sar_ref (a b w : Int) (k : Nat) (h0 : 0 ≤ a) (h1 : a < 18446744073709551616) (h2 : 0 ≤ b) (hk : 130 ≤ k) : spindleref1_Sar.f k a b w = some (sg w a / 2 ^ (b % K w).toNat % M w) := by
  have hK := K_pos w
  have hs := sg_lt w a
  obtain ⟨e1, e2⟩ := shift_count b w h2
  unfold spindleref1_Sar.f
  rw [wide_eq, Option.bind_some, narrowK_ref a w k h0 h1 (by omega), Option.bind_some, if_neg (by rw [wrapK]; omega), e1, ← sg_mod w a, sar_l0 w _ _ k e2 (by omega) hs.1 hs.2]

theorem mul_l0 (n : Nat) : ∀ (x y s : Int) (k : Nat), n ≤ 64 → n < k → 0 ≤ x → 0 ≤ y → y < 2 ^ n → 0 ≤ s → s < 18446744073709551616 →
    spindleref1_Mul.l0 k x y s (64 - (n : Int)) = some ((s + x * y) % 18446744073709551616) := by
  induction n with
  | zero =>
    intro x y s k _ hk hx hy0 hy1 hs0 hs1
    obtain ⟨k, rfl⟩ : ∃ m, k = m + 1 := ⟨k - 1, by omega⟩
    obtain rfl : y = 0 := by
      rw [Int.pow_zero] at hy1; omega
    simp only [spindleref1_Mul.l0]
    rw [if_neg (by omega), Int.mul_zero, Int.add_zero, Int.emod_eq_of_lt hs0 hs1]
  | succ n ih =>
    intro x y s k hn hk hx hy0 hy1 hs0 hs1
    obtain ⟨k, rfl⟩ : ∃ m, k = m + 1 := ⟨k - 1, by omega⟩
    have hy2 : y < 18446744073709551616 := by
      have : (2 : Int) ^ (n + 1) ≤ 2 ^ 64 := by exact_mod_cast Nat.pow_le_pow_right (by decide) hn
      rw [show (2 : Int) ^ 64 = 18446744073709551616 from rfl] at this
      omega
    rw [Int.pow_succ] at hy1
    simp only [spindleref1_Mul.l0]
    have e1 : IntKind.u64.wrap (y / 2) = y / 2 := by rw [IntKind.wrap_u64]; omega
    have e2 : wrap64 (64 - ((n + 1 : Nat) : Int) + 1) = 64 - (n : Int) := by rw [w64 _ (by omega) (by omega)]; omega
    rw [if_pos (by omega), Int.tmod_eq_emod_of_nonneg hy0, Int.tdiv_eq_ediv_of_nonneg hy0, e1, e2, IntKind.wrap_u64, IntKind.wrap_u64]
    obtain ⟨c, hc⟩ : ∃ c, (x + x) % 18446744073709551616 = 2 * x - 18446744073709551616 * c := ⟨(x + x) / 18446744073709551616, by omega⟩
    by_cases hb : y % 2 = 1
    · obtain ⟨d, hd⟩ : ∃ d, (s + x) % 18446744073709551616 = s + x - 18446744073709551616 * d := ⟨(s + x) / 18446744073709551616, by omega⟩
      rw [if_pos hb, ih _ _ _ k (by omega) (by omega) (by omega) (by omega) (by omega) (by omega) (by omega), hc, hd]
      congr 1
      have ey : y = 2 * (y / 2) + 1 := by omega
      generalize y / 2 = z at *
      subst ey
      have : s + x - 18446744073709551616 * d + (2 * x - 18446744073709551616 * c) * z = s + x * (2 * z + 1) + 18446744073709551616 * (-(d + c * z)) := by
        rw [Int.sub_mul, Int.mul_add, Int.mul_one, Int.mul_assoc, Int.mul_assoc, ← Int.mul_assoc x 2 z, Int.mul_comm x 2, Int.mul_assoc 2 x z]
        generalize x * z = p
        generalize c * z = r
        omega
      rw [this, Int.add_mul_emod_self_left]
    · rw [if_neg hb, ih _ _ _ k (by omega) (by omega) (by omega) (by omega) (by omega) hs0 hs1, hc]
      congr 1
      have ey : y = 2 * (y / 2) := by omega
      generalize y / 2 = z at *
      subst ey
      have : s + (2 * x - 18446744073709551616 * c) * z = s + x * (2 * z) + 18446744073709551616 * (-(c * z)) := by
        rw [Int.sub_mul, Int.mul_assoc, Int.mul_assoc, ← Int.mul_assoc x 2 z, Int.mul_comm x 2, Int.mul_assoc 2 x z]
        generalize x * z = p
        generalize c * z = r
        omega
      rw [this, Int.add_mul_emod_self_left]
theorem mul_ref (a b : Int) (k : Nat) (h0 : 0 ≤ a) (h2 : 0 ≤ b) (h3 : b < 18446744073709551616) (hk : 130 ≤ k) : spindleref1_Mul.f k a b = some (a * b % 18446744073709551616) := by
  have := mul_l0 64 a b 0 k (by omega) (by omega) h0 h2 (by rw [show (2 : Int) ^ 64 = 18446744073709551616 from rfl]; exact h3) (by omega) (by omega)
  rw [Int.zero_add] at this
  exact this

theorem digit (a : Int) (n : Nat) (h0 : 0 ≤ a) (h1 : a < 18446744073709551616) : Int.tmod (IntKind.u64.wrap (Int.tdiv a (2 ^ n))) 2 = ((a.toNat / 2 ^ n % 2 : Nat) : Int) ∧ a.toNat / 2 ^ n % 2 < 2 := by
  obtain ⟨A, rfl⟩ := Int.eq_ofNat_of_zero_le h0
  have hle : A / 2 ^ n ≤ A := Nat.div_le_self _ _
  have e : (A : Int) / 2 ^ n = ((A / 2 ^ n : Nat) : Int) := by simp
  rw [Int.tdiv_eq_ediv_of_nonneg h0, e, IntKind.wrap_u64, Int.toNat_natCast]
  generalize A / 2 ^ n = q at *
  rw [Int.emod_eq_of_lt (by omega) (by omega), Int.tmod_eq_emod_of_nonneg (by omega)]
  omega
theorem step0 (A B : Nat) : (A &&& B) = 2 * (A / 2 &&& B / 2) + (A % 2 + B % 2) / 2 := by
  have e := Nat.and_div_two (a := A) (b := B)
  have f := Nat.and_mod_two_eq_one (a := A) (b := B)
  rw [← e]
  generalize (A &&& B) = p at *
  omega
theorem step1 (A B : Nat) : (A ||| B) = 2 * (A / 2 ||| B / 2) + (A % 2 + B % 2 + 1) / 2 := by
  have e := Nat.or_div_two (a := A) (b := B)
  have f := Nat.or_mod_two_eq_one (a := A) (b := B)
  rw [← e]
  generalize (A ||| B) = p at *
  omega
theorem step2 (A B : Nat) : (A ^^^ B) = 2 * (A / 2 ^^^ B / 2) + (A % 2 + B % 2) % 2 := by
  have e := Nat.xor_div_two (a := A) (b := B)
  have f := Nat.xor_mod_two_eq_one (a := A) (b := B)
  rw [← e]
  generalize (A ^^^ B) = p at *
  omega

theorem bit0_l0 (a b : Int) (h0 : 0 ≤ a) (h1 : a < 18446744073709551616) (h2 : 0 ≤ b) (h3 : b < 18446744073709551616) (n : Nat) : ∀ (k : Nat), n ≤ 64 → n + 64 < k →
    spindleref1_Bits.l0 k 0 a b (((a.toNat / 2 ^ n) &&& (b.toNat / 2 ^ n) : Nat) : Int) ((n : Int) - 1) = some ((a.toNat &&& b.toNat : Nat) : Int) := by
  induction n with
  | zero =>
    intro k _ hk
    obtain ⟨k, rfl⟩ : ∃ m, k = m + 1 := ⟨k - 1, by omega⟩
    simp only [spindleref1_Bits.l0]
    rw [if_neg (by omega), Nat.pow_zero, Nat.div_one, Nat.div_one]
  | succ n ih =>
    intro k hn hk
    obtain ⟨k, rfl⟩ : ∃ m, k = m + 1 := ⟨k - 1, by omega⟩
    have hx : ((n + 1 : Nat) : Int) - 1 = (n : Int) := by omega
    obtain ⟨p1, p2⟩ := pow_range n (by omega)
    have en : wrap64 ((n : Int) - 1) = (n : Int) - 1 := w64 _ (by omega) (by omega)
    obtain ⟨da, la⟩ := digit a n h0 h1
    obtain ⟨db, lb⟩ := digit b n h2 h3
    have hs := step0 (a.toNat / 2 ^ n) (b.toNat / 2 ^ n)
    have ea : a.toNat / 2 ^ n / 2 = a.toNat / 2 ^ (n + 1) := by rw [Nat.div_div_eq_div_mul, Nat.pow_succ]
    have eb : b.toNat / 2 ^ n / 2 = b.toNat / 2 ^ (n + 1) := by rw [Nat.div_div_eq_div_mul, Nat.pow_succ]
    have hlt : ((a.toNat / 2 ^ n) &&& (b.toNat / 2 ^ n)) < 2 ^ 64 := by exact Nat.and_lt_two_pow _ (Nat.lt_of_le_of_lt (Nat.div_le_self _ _) (by omega))
    have hi := ih k (by omega) (by omega)
    rw [ea, eb] at hs
    rw [hx]
    simp only [spindleref1_Bits.l0]
    rw [if_pos (by omega), power_nat n k (by omega) (by omega), Option.bind_some, if_neg (by omega), da, db, en]
    simp only [IntKind.wrap_u64]
    generalize ((a.toNat / 2 ^ (n + 1)) &&& (b.toNat / 2 ^ (n + 1))) = z at *
    generalize ((a.toNat / 2 ^ n) &&& (b.toNat / 2 ^ n)) = y at *
    generalize a.toNat / 2 ^ n % 2 = u at *
    generalize b.toNat / 2 ^ n % 2 = v at *
    simp only [show ¬ ((0 : Int) = 1) by decide, show ¬ ((0 : Int) = 2) by decide, show ¬ ((1 : Int) = 2) by decide, show ¬ ((2 : Int) = 1) by decide, if_true, if_false]
    rw [← hi]
    congr 1
    rw [Int.tdiv_eq_ediv_of_nonneg (by omega)]; omega
theorem bit0_ref (a b : Int) (k : Nat) (h0 : 0 ≤ a) (h1 : a < 18446744073709551616) (h2 : 0 ≤ b) (h3 : b < 18446744073709551616) (hk : 130 ≤ k) : spindleref1_Bits.f k 0 a b = some ((a.toNat &&& b.toNat : Nat) : Int) := by
  have h := bit0_l0 a b h0 h1 h2 h3 64 k (by omega) (by omega)
  rw [Nat.div_eq_of_lt (by omega), Nat.div_eq_of_lt (by omega)] at h
  exact h

theorem bit1_l0 (a b : Int) (h0 : 0 ≤ a) (h1 : a < 18446744073709551616) (h2 : 0 ≤ b) (h3 : b < 18446744073709551616) (n : Nat) : ∀ (k : Nat), n ≤ 64 → n + 64 < k →
    spindleref1_Bits.l0 k 1 a b (((a.toNat / 2 ^ n) ||| (b.toNat / 2 ^ n) : Nat) : Int) ((n : Int) - 1) = some ((a.toNat ||| b.toNat : Nat) : Int) := by
  induction n with
  | zero =>
    intro k _ hk
    obtain ⟨k, rfl⟩ : ∃ m, k = m + 1 := ⟨k - 1, by omega⟩
    simp only [spindleref1_Bits.l0]
    rw [if_neg (by omega), Nat.pow_zero, Nat.div_one, Nat.div_one]
  | succ n ih =>
    intro k hn hk
    obtain ⟨k, rfl⟩ : ∃ m, k = m + 1 := ⟨k - 1, by omega⟩
    have hx : ((n + 1 : Nat) : Int) - 1 = (n : Int) := by omega
    obtain ⟨p1, p2⟩ := pow_range n (by omega)
    have en : wrap64 ((n : Int) - 1) = (n : Int) - 1 := w64 _ (by omega) (by omega)
    obtain ⟨da, la⟩ := digit a n h0 h1
    obtain ⟨db, lb⟩ := digit b n h2 h3
    have hs := step1 (a.toNat / 2 ^ n) (b.toNat / 2 ^ n)
    have ea : a.toNat / 2 ^ n / 2 = a.toNat / 2 ^ (n + 1) := by rw [Nat.div_div_eq_div_mul, Nat.pow_succ]
    have eb : b.toNat / 2 ^ n / 2 = b.toNat / 2 ^ (n + 1) := by rw [Nat.div_div_eq_div_mul, Nat.pow_succ]
    have hlt : ((a.toNat / 2 ^ n) ||| (b.toNat / 2 ^ n)) < 2 ^ 64 := by exact Nat.or_lt_two_pow (Nat.lt_of_le_of_lt (Nat.div_le_self _ _) (by omega)) (Nat.lt_of_le_of_lt (Nat.div_le_self _ _) (by omega))
    have hi := ih k (by omega) (by omega)
    rw [ea, eb] at hs
    rw [hx]
    simp only [spindleref1_Bits.l0]
    rw [if_pos (by omega), power_nat n k (by omega) (by omega), Option.bind_some, if_neg (by omega), da, db, en]
    simp only [IntKind.wrap_u64]
    generalize ((a.toNat / 2 ^ (n + 1)) ||| (b.toNat / 2 ^ (n + 1))) = z at *
    generalize ((a.toNat / 2 ^ n) ||| (b.toNat / 2 ^ n)) = y at *
    generalize a.toNat / 2 ^ n % 2 = u at *
    generalize b.toNat / 2 ^ n % 2 = v at *
    simp only [show ¬ ((0 : Int) = 1) by decide, show ¬ ((0 : Int) = 2) by decide, show ¬ ((1 : Int) = 2) by decide, show ¬ ((2 : Int) = 1) by decide, if_true, if_false]
    rw [← hi]
    congr 1
    rw [Int.tdiv_eq_ediv_of_nonneg (by omega)]; omega
theorem bit1_ref (a b : Int) (k : Nat) (h0 : 0 ≤ a) (h1 : a < 18446744073709551616) (h2 : 0 ≤ b) (h3 : b < 18446744073709551616) (hk : 130 ≤ k) : spindleref1_Bits.f k 1 a b = some ((a.toNat ||| b.toNat : Nat) : Int) := by
  have h := bit1_l0 a b h0 h1 h2 h3 64 k (by omega) (by omega)
  rw [Nat.div_eq_of_lt (by omega), Nat.div_eq_of_lt (by omega)] at h
  exact h

theorem bit2_l0 (a b : Int) (h0 : 0 ≤ a) (h1 : a < 18446744073709551616) (h2 : 0 ≤ b) (h3 : b < 18446744073709551616) (n : Nat) : ∀ (k : Nat), n ≤ 64 → n + 64 < k →
    spindleref1_Bits.l0 k 2 a b (((a.toNat / 2 ^ n) ^^^ (b.toNat / 2 ^ n) : Nat) : Int) ((n : Int) - 1) = some ((a.toNat ^^^ b.toNat : Nat) : Int) := by
  induction n with
  | zero =>
    intro k _ hk
    obtain ⟨k, rfl⟩ : ∃ m, k = m + 1 := ⟨k - 1, by omega⟩
    simp only [spindleref1_Bits.l0]
    rw [if_neg (by omega), Nat.pow_zero, Nat.div_one, Nat.div_one]
  | succ n ih =>
    intro k hn hk
    obtain ⟨k, rfl⟩ : ∃ m, k = m + 1 := ⟨k - 1, by omega⟩
    have hx : ((n + 1 : Nat) : Int) - 1 = (n : Int) := by omega
    obtain ⟨p1, p2⟩ := pow_range n (by omega)
    have en : wrap64 ((n : Int) - 1) = (n : Int) - 1 := w64 _ (by omega) (by omega)
    obtain ⟨da, la⟩ := digit a n h0 h1
    obtain ⟨db, lb⟩ := digit b n h2 h3
    have hs := step2 (a.toNat / 2 ^ n) (b.toNat / 2 ^ n)
    have ea : a.toNat / 2 ^ n / 2 = a.toNat / 2 ^ (n + 1) := by rw [Nat.div_div_eq_div_mul, Nat.pow_succ]
    have eb : b.toNat / 2 ^ n / 2 = b.toNat / 2 ^ (n + 1) := by rw [Nat.div_div_eq_div_mul, Nat.pow_succ]
    have hlt : ((a.toNat / 2 ^ n) ^^^ (b.toNat / 2 ^ n)) < 2 ^ 64 := by exact Nat.xor_lt_two_pow (Nat.lt_of_le_of_lt (Nat.div_le_self _ _) (by omega)) (Nat.lt_of_le_of_lt (Nat.div_le_self _ _) (by omega))
    have hi := ih k (by omega) (by omega)
    rw [ea, eb] at hs
    rw [hx]
    simp only [spindleref1_Bits.l0]
    rw [if_pos (by omega), power_nat n k (by omega) (by omega), Option.bind_some, if_neg (by omega), da, db, en]
    simp only [IntKind.wrap_u64]
    generalize ((a.toNat / 2 ^ (n + 1)) ^^^ (b.toNat / 2 ^ (n + 1))) = z at *
    generalize ((a.toNat / 2 ^ n) ^^^ (b.toNat / 2 ^ n)) = y at *
    generalize a.toNat / 2 ^ n % 2 = u at *
    generalize b.toNat / 2 ^ n % 2 = v at *
    simp only [show ¬ ((0 : Int) = 1) by decide, show ¬ ((0 : Int) = 2) by decide, show ¬ ((1 : Int) = 2) by decide, show ¬ ((2 : Int) = 1) by decide, if_true, if_false]
    rw [← hi]
    congr 1
    rw [Int.tmod_eq_emod_of_nonneg (by omega)]; omega
theorem bit2_ref (a b : Int) (k : Nat) (h0 : 0 ≤ a) (h1 : a < 18446744073709551616) (h2 : 0 ≤ b) (h3 : b < 18446744073709551616) (hk : 130 ≤ k) : spindleref1_Bits.f k 2 a b = some ((a.toNat ^^^ b.toNat : Nat) : Int) := by
  have h := bit2_l0 a b h0 h1 h2 h3 64 k (by omega) (by omega)
  rw [Nat.div_eq_of_lt (by omega), Nat.div_eq_of_lt (by omega)] at h
  exact h

end Go.Proofs.Ytliijfogmendmaa.Facts
