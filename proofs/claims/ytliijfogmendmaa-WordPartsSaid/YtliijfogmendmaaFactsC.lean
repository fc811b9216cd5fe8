import Derived.Test.YtliijfogmendmaaFactsB
import Derived.Test.YtliijfogmendmaaPWx5
namespace Go.Proofs.Ytliijfogmendmaa.Facts
open Go.RowKit Go.Proofs.Ytliijfogmendmaa.PW Go.Proofs.YtliijfogmendmaaW.PrintWords Go.Proofs.YtliijfogmendmaaW.PrintLast Go.Proofs.YtliijfogmendmaaW.PrintMore
set_option linter.unusedVariables false
/-! Further facts: the width, the highest bit, shifted numbers with signs. -/

theorem wide_eq (w : Int) : spindleref1_Wide.f w = some (K w) := by
  unfold spindleref1_Wide.f K
  by_cases h1 : w = 8
  · rw [if_pos h1, if_pos h1, h1]
  by_cases h2 : w = 16
  · rw [if_neg h1, if_pos h2, if_neg h1, if_pos h2, h2]
  by_cases h3 : w = 32
  · rw [if_neg h1, if_neg h2, if_pos h3, if_neg h1, if_neg h2, if_pos h3, h3]
  · rw [if_neg h1, if_neg h2, if_neg h3, if_neg h1, if_neg h2, if_neg h3]
theorem M64 : M 64 = 18446744073709551616 := by unfold M; simp
theorem K64 : K 64 = 64 := by unfold K; simp
theorem wrapK (w : Int) : IntKind.u64.wrap (K w) = K w := by
  have := K_pos w
  rw [IntKind.wrap_u64]; omega

theorem flip (A n : Nat) : (A ^^^ 2 ^ n) % (2 ^ n * 2) = if A % (2 ^ n * 2) < 2 ^ n then A % (2 ^ n * 2) + 2 ^ n else A % (2 ^ n * 2) - 2 ^ n := by
  have hp : 0 < 2 ^ n := Nat.two_pow_pos n
  have e := Nat.xor_mod_two_pow (a := A) (b := 2 ^ n) (n := n + 1)
  rw [Nat.pow_succ] at e
  rw [e, Nat.mod_eq_of_lt (a := 2 ^ n) (by omega)]
  exact xor_top _ n (Nat.mod_lt _ (by omega))

theorem flip_top (w a : Int) (h0 : 0 ≤ a) : ((a.toNat ^^^ (M w / 2).toNat : Nat) : Int) % M w = sg w a + M w / 2 := by
  obtain ⟨A, rfl⟩ := Int.eq_ofNat_of_zero_le h0
  have e : (M w = 256 ∨ M w = 65536 ∨ M w = 4294967296 ∨ M w = 18446744073709551616) := by
    rcases four w with ⟨_, h, _⟩ | ⟨_, h, _⟩ | ⟨_, h, _⟩ | ⟨_, h, _⟩ <;> simp [h]
  unfold sg
  rcases e with h | h | h | h
  · have f := flip A 7
    rw [h, show ((256 : Int) / 2).toNat = 2 ^ 7 from rfl, Int.toNat_natCast]
    rw [show 2 ^ 7 * 2 = 256 from rfl, show 2 ^ 7 = 128 from rfl] at f
    rw [show 2 ^ 7 = 128 from rfl]
    split at f <;> split <;> omega
  · have f := flip A 15
    rw [h, show ((65536 : Int) / 2).toNat = 2 ^ 15 from rfl, Int.toNat_natCast]
    rw [show 2 ^ 15 * 2 = 65536 from rfl, show 2 ^ 15 = 32768 from rfl] at f
    rw [show 2 ^ 15 = 32768 from rfl]
    split at f <;> split <;> omega
  · have f := flip A 31
    rw [h, show ((4294967296 : Int) / 2).toNat = 2 ^ 31 from rfl, Int.toNat_natCast]
    rw [show 2 ^ 31 * 2 = 4294967296 from rfl, show 2 ^ 31 = 2147483648 from rfl] at f
    rw [show 2 ^ 31 = 2147483648 from rfl]
    split at f <;> split <;> omega
  · have f := flip A 63
    rw [h, show ((18446744073709551616 : Int) / 2).toNat = 2 ^ 63 from rfl, Int.toNat_natCast]
    rw [show 2 ^ 63 * 2 = 18446744073709551616 from rfl, show 2 ^ 63 = 9223372036854775808 from rfl] at f
    rw [show 2 ^ 63 = 9223372036854775808 from rfl]
    split at f <;> split <;> omega

theorem top_eq (w : Int) : word_Shl.f 1 (IntKind.u64.wrap (wrap64 (K w - 1))) w = some (M w / 2) := by
  have hk := K_pos w
  have e : IntKind.u64.wrap (wrap64 (K w - 1)) = K w - 1 := by rw [IntKind.wrap_u64]; unfold wrap64; omega
  rw [e, shl_eq _ _ _ (by omega)]
  rcases four w with ⟨_, h, h'⟩ | ⟨_, h, h'⟩ | ⟨_, h, h'⟩ | ⟨_, h, h'⟩ <;> rw [h, h'] <;> rfl

theorem half_range (w : Int) : 128 ≤ M w / 2 ∧ M w / 2 < 18446744073709551616 := by
  have := M_pos w
  omega

theorem pow_range (n : Nat) (h : n < 64) : (1 : Int) ≤ 2 ^ n ∧ (2 : Int) ^ n < 18446744073709551616 := by
  have h1 : 0 < 2 ^ n := Nat.two_pow_pos n
  have h2 : 2 ^ n < 2 ^ 64 := Nat.pow_lt_pow_right (by decide) h
  have c : ((2 ^ n : Nat) : Int) = (2 : Int) ^ n := by simp
  omega

theorem sg_div (w x p : Int) (hp : 1 ≤ p) : sg w (sg w x / p) = sg w x / p := by
  have hs := sg_lt w x
  have hh := half_range w
  generalize sg w x = y at *
  have g1 : M w / 2 * 1 ≤ M w / 2 * p := Int.mul_le_mul_of_nonneg_left hp (by omega)
  refine sg_of w _ ?_ ?_
  · refine Int.le_ediv_of_mul_le (by omega) ?_
    rw [Int.neg_mul]; omega
  · refine Int.ediv_lt_of_lt_mul (by omega) ?_
    omega

theorem mod_mul (x p m : Int) : x % m * p % m = x * p % m := by
  rw [Int.mul_emod, Int.emod_emod_of_dvd _ (Int.dvd_refl _), ← Int.mul_emod]

/-- signed quotients: what is left has the sign of what is divided, and is smaller than the divisor -/
theorem tmod_facts (x y : Int) (hy : y ≠ 0) : (x.tmod y).natAbs < y.natAbs ∧ (0 ≤ x → 0 ≤ x.tmod y) ∧ (x ≤ 0 → x.tmod y ≤ 0) := by
  refine ⟨?_, fun h => Int.tmod_nonneg y h, fun h => ?_⟩
  · rw [Int.natAbs_tmod]
    exact Nat.mod_lt _ (by omega)
  · have e : (-x).tmod y = -(x.tmod y) := Int.neg_tmod x y
    have := Int.tmod_nonneg y (show 0 ≤ -x by omega)
    omega

end Go.Proofs.Ytliijfogmendmaa.Facts
