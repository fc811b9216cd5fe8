/- Shifting a word up is a product, shifting it down a quotient by a power of two, with signs too; by as many bits as the width it is no shift. No condition: every a, every shift, every number as a width. -/
import Derived.Test.YtliijfogmendmaaFactsC
import Derived.Test.YtliijfogmendmaaPWx8
namespace Go.Proofs.Ytliijfogmendmaa.Pure
open Go.RowKit Go.Proofs.Ytliijfogmendmaa.PW Go.Proofs.YtliijfogmendmaaW.PrintWords Go.Proofs.YtliijfogmendmaaW.PrintLast Go.Proofs.Ytliijfogmendmaa.Facts

theorem WordShifts : spindlelaw1_WordShifts.Pure := by
  intro a b w ha hb _
  obtain ⟨a0, a1⟩ := u64_in ha
  obtain ⟨b0, b1⟩ := u64_in hb
  have hk := K_pos w
  have hm := M_pos w
  have ma := M_lt w a
  have s0 : 0 ≤ b % K w := Int.emod_nonneg _ (by omega)
  have s1 : b % K w < K w := Int.emod_lt_of_pos _ (by omega)
  refine ⟨100, ?_⟩
  unfold spindlelaw1_WordShifts.f
  rw [show (100 : Nat) = 70 + 30 from rfl, awake_k 70, Option.bind_some, if_pos rfl, wide_eq, Option.bind_some, wrapK]
  rw [mod_eq b (K w) 64 b0 b1 (by omega) (by omega), M64, Int.emod_eq_of_lt b0 b1, Int.emod_eq_of_lt (show 0 ≤ K w by omega) (by omega), Option.bind_some]
  obtain ⟨p1, p2⟩ := pow_range (b % K w).toNat (by omega)
  have ep : word_Shl.f 1 (b % K w) 64 = some (2 ^ (b % K w).toNat) := by
    rw [shl_eq 1 (b % K w) 64 s0, M64, K64, Int.emod_eq_of_lt s0 (by omega), show (1 : Int) % 18446744073709551616 = 1 from rfl, Int.one_mul, Int.emod_eq_of_lt (by omega) p2]
  rw [ep, Option.bind_some, shl_eq a b w b0, Option.bind_some]
  have es := sg_div w a (2 ^ (b % K w).toNat) p1
  have er : sg w (sg w a / 2 ^ (b % K w).toNat % M w) = sg w a / 2 ^ (b % K w).toNat := by rw [sg_mod', es]
  have d0 := M_lt w (sg w a / 2 ^ (b % K w).toNat)
  rw [shr_eq a b w a0 a1 b0, sar_eq a b w b0, narrow_eq a w a0 a1]
  have n1 : word_Narrow.f (a * 2 ^ (b % K w).toNat % 18446744073709551616) w = some (a * 2 ^ (b % K w).toNat % M w) := by
    rw [narrow_eq _ w (by omega) (by omega), modM]
  have n2 : word_Sign.f (sg w a / 2 ^ (b % K w).toNat % M w) w = some (sg w a / 2 ^ (b % K w).toNat % 18446744073709551616) := by
    rw [sign_eq _ w d0.1 (by omega), er]
  have n3 : word_Div.f (a % M w) (2 ^ (b % K w).toNat) 64 = some (a % M w / 2 ^ (b % K w).toNat) := by
    rw [div_eq _ _ 64 ma.1 (by omega) (by omega) p2, M64, Int.emod_eq_of_lt ma.1 (by omega), Int.emod_eq_of_lt (by omega) p2]
  have n4 : word_Shl.f a (K w) w = some (a % M w) := by
    rw [shl_eq a (K w) w (by omega), Int.emod_self, show (0 : Int).toNat = 0 from rfl, Int.pow_zero, Int.mul_one, Int.emod_emod_of_dvd _ (Int.dvd_refl _)]
  have n5 : word_Sar.f a (K w) w = some (a % M w) := by
    rw [sar_eq a (K w) w (by omega), Int.emod_self, show (0 : Int).toNat = 0 from rfl, Int.pow_zero, Int.ediv_one, sg_mod]
  have n6 : (sg w a % 18446744073709551616 - sg w a / 2 ^ (b % K w).toNat % 18446744073709551616 * 2 ^ (b % K w).toNat % 18446744073709551616) % 18446744073709551616 = sg w a % 2 ^ (b % K w).toNat := by
    rw [mod_mul, ← Int.sub_emod]
    have e := Int.emod_add_ediv_mul (sg w a) (2 ^ (b % K w).toNat)
    have g0 : 0 ≤ sg w a % 2 ^ (b % K w).toNat := Int.emod_nonneg _ (by omega)
    have g1 : sg w a % 2 ^ (b % K w).toNat < 2 ^ (b % K w).toNat := Int.emod_lt_of_pos _ (by omega)
    rw [show sg w a - sg w a / 2 ^ (b % K w).toNat * 2 ^ (b % K w).toNat = sg w a % 2 ^ (b % K w).toNat from by omega]
    exact Int.emod_eq_of_lt g0 (by omega)
  have g1 : sg w a % 2 ^ (b % K w).toNat < 2 ^ (b % K w).toNat := Int.emod_lt_of_pos _ (by omega)
  simp only [word_Mul.f, word_Sub.f, IntKind.wrap_u64, Option.bind_some, n1, n2, sign_eq a w a0 a1, n3, n6, n4, n5]
  rw [if_pos (mod_mul _ _ _), if_pos trivial, if_pos g1, if_pos trivial]
  simp

end Go.Proofs.Ytliijfogmendmaa.Pure
