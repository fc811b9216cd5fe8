/- Sums and products of words narrow as their parts do; And, Or and Xor add up as they must; a difference undoes a sum. No condition: every a, b, every number as a width. -/
import Derived.Test.YtliijfogmendmaaFactsB
import Derived.Test.YtliijfogmendmaaPWx9
namespace Go.Proofs.Ytliijfogmendmaa.Pure
open Go.RowKit Go.Proofs.Ytliijfogmendmaa.PW Go.Proofs.YtliijfogmendmaaW.PrintWords Go.Proofs.YtliijfogmendmaaW.PrintLast Go.Proofs.Ytliijfogmendmaa.Facts

theorem WordJoins : spindlelaw1_WordJoins.Pure := by
  intro a b w ha hb _
  obtain ⟨a0, a1⟩ := u64_in ha
  obtain ⟨b0, b1⟩ := u64_in hb
  have ma := M_lt w a
  have mb := M_lt w b
  have mp := M_pos w
  refine ⟨100, ?_⟩
  unfold spindlelaw1_WordJoins.f
  rw [show (100 : Nat) = 70 + 30 from rfl, awake_k 70]
  have s0 : 0 ≤ (a + b) % 18446744073709551616 ∧ (a + b) % 18446744073709551616 < 18446744073709551616 := by omega
  have s1 : 0 ≤ (a % M w + b % M w) % 18446744073709551616 ∧ (a % M w + b % M w) % 18446744073709551616 < 18446744073709551616 := by omega
  have s2 : 0 ≤ (a * b) % 18446744073709551616 ∧ (a * b) % 18446744073709551616 < 18446744073709551616 := by omega
  have s3 : 0 ≤ (a % M w * (b % M w)) % 18446744073709551616 ∧ (a % M w * (b % M w)) % 18446744073709551616 < 18446744073709551616 := by omega
  simp only [Option.bind_some, if_true, narrow_eq a w a0 a1, narrow_eq b w b0 b1, word_Add.f, word_Mul.f, word_And.f, word_Or.f, word_Sub.f, word_Xor.f, IntKind.wrap_u64]
  rw [narrow_eq _ w s0.1 s0.2, narrow_eq _ w s1.1 s1.2, narrow_eq _ w s2.1 s2.2, narrow_eq _ w s3.1 s3.2]
  simp only [Option.bind_some]
  rw [modM, modM, modM, modM, ← Int.add_emod, ← Int.mul_emod, u64_and a b a0 a1 b0 b1, u64_or a b a0 a1 b0 b1, u64_xor a b a0 a1 b0 b1]
  obtain ⟨t1, t2⟩ := bits_three a.toNat b.toNat
  have o0 : (a.toNat ||| b.toNat) < 2 ^ 64 := Nat.or_lt_two_pow (by omega) (by omega)
  have x0 : (a.toNat ^^^ b.toNat) < 2 ^ 64 := Nat.xor_lt_two_pow (by omega) (by omega)
  generalize (a.toNat &&& b.toNat) = p at *
  generalize (a.toNat ||| b.toNat) = q at *
  generalize (a.toNat ^^^ b.toNat) = r at *
  have e1 : ((p : Int) + (q : Int)) % 18446744073709551616 = (a + b) % 18446744073709551616 := by omega
  have e2 : ((q : Int) - (p : Int)) % 18446744073709551616 = (r : Int) := by omega
  rw [if_pos e1, e2]
  rw [show (70 + 30 : Nat) = 99 + 1 from rfl]
  have e3 : ((a + b) % 18446744073709551616 - b) % 18446744073709551616 = a := by omega
  have e4 : (a + (0 - a) % 18446744073709551616) % 18446744073709551616 = 0 := by omega
  simp only [spindlelaw1_WordJoins.j0, word_Add.f, word_Sub.f, word_Neg.f, IntKind.wrap_u64, Option.bind_some, beq_self_eq_true, if_true, e3, e4]

end Go.Proofs.Ytliijfogmendmaa.Pure
