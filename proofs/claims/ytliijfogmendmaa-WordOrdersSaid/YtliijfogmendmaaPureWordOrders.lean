/- Of two words just one is less, or they are one; with signs the order is that of the words with the highest bit turned; what is less than a lesser word is less. No condition: every a, b, c, every number as a width. -/
import Derived.Test.YtliijfogmendmaaFactsC
import Derived.Test.YtliijfogmendmaaPWx9
namespace Go.Proofs.Ytliijfogmendmaa.Pure
open Go.RowKit Go.Proofs.Ytliijfogmendmaa.PW Go.Proofs.YtliijfogmendmaaW.PrintWords Go.Proofs.YtliijfogmendmaaW.PrintLast Go.Proofs.Ytliijfogmendmaa.Facts

theorem orders_j0 (a b c w : Int) (k : Nat) (one : Bool) (a0 : 0 ≤ a) (a1 : a < 18446744073709551616) (b0 : 0 ≤ b) (b1 : b < 18446744073709551616) (c0 : 0 ≤ c) (c1 : c < 18446744073709551616)
    (ho : one = true → a % M w < b % M w) : spindlelaw1_WordOrders.j0 (k + 1) a b c w one false = some true := by
  have hh := half_range w
  have xa : (a.toNat ^^^ (M w / 2).toNat) < 2 ^ 64 := Nat.xor_lt_two_pow (by omega) (by omega)
  have xb : (b.toNat ^^^ (M w / 2).toNat) < 2 ^ 64 := Nat.xor_lt_two_pow (by omega) (by omega)
  have fa := flip_top w a a0
  have fb := flip_top w b b0
  simp only [spindlelaw1_WordOrders.j0]
  rw [if_neg (by decide), wide_eq, Option.bind_some, top_eq, Option.bind_some, sless_eq a b w a0 a1 b0 b1, Option.bind_some]
  unfold word_Xor.f
  rw [u64_xor a _ a0 a1 (by omega) hh.2, u64_xor b _ b0 b1 (by omega) hh.2, Option.bind_some, Option.bind_some, less_eq _ _ w (by omega) (by omega) (by omega) (by omega), Option.bind_some, fa, fb]
  have e : decide (sg w a < sg w b) = decide (sg w a + M w / 2 < sg w b + M w / 2) := by
    rw [decide_eq_decide]; omega
  rw [if_neg (by rw [e]; simp)]
  cases one with
  | false => rfl
  | true =>
    have hab := ho rfl
    rw [if_pos rfl, less_eq b c w b0 b1 c0 c1, Option.bind_some]
    split
    · rename_i hbc
      rw [less_eq a c w a0 a1 c0 c1, Option.bind_some]
      have := of_decide_eq_true hbc
      rw [decide_eq_true (by omega)]
    · rfl

theorem WordOrders : spindlelaw1_WordOrders.Pure := by
  intro a b c w ha hb hc _
  obtain ⟨a0, a1⟩ := u64_in ha
  obtain ⟨b0, b1⟩ := u64_in hb
  obtain ⟨c0, c1⟩ := u64_in hc
  refine ⟨100, ?_⟩
  unfold spindlelaw1_WordOrders.f
  rw [show (100 : Nat) = 70 + 30 from rfl, awake_k 70, Option.bind_some, if_pos rfl, narrow_eq a w a0 a1, narrow_eq b w b0 b1, Option.bind_some, Option.bind_some, less_eq a b w a0 a1 b0 b1, less_eq b a w b0 b1 a0 a1, Option.bind_some, Option.bind_some]
  rw [show (70 + 30 : Nat) = 99 + 1 from rfl]
  by_cases h1 : a % M w < b % M w
  · have h2 : ¬ b % M w < a % M w := by omega
    have h3 : ¬ a % M w = b % M w := by omega
    rw [if_pos (decide_eq_true h1), if_neg (by simp; omega)]
    have e : (true == (a % M w == b % M w)) = false := by simp [h3]
    rw [e]
    exact orders_j0 a b c w 99 _ a0 a1 b0 b1 c0 c1 (fun _ => h1)
  · rw [if_neg (by simp; omega)]
    have e : (decide (b % M w < a % M w) == (a % M w == b % M w)) = false := by
      by_cases h3 : a % M w = b % M w
      · rw [h3]; simp
      · have h4 : b % M w < a % M w := by omega
        simp [h4]; omega
    rw [e]
    exact orders_j0 a b c w 99 _ a0 a1 b0 b1 c0 c1 (fun h => absurd (of_decide_eq_true h) h1)

end Go.Proofs.Ytliijfogmendmaa.Pure
