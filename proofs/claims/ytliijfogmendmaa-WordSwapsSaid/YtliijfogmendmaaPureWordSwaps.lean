/- A word turned round twice is what it was, its lowest byte is the highest one then; a number with its sign carried is the number, and its sign stands in all bits above. No condition: every a, every number as a width. -/
import Derived.Test.YtliijfogmendmaaFactsC
import Derived.Test.YtliijfogmendmaaPWx9
namespace Go.Proofs.Ytliijfogmendmaa.Pure
open Go.RowKit Go.Proofs.Ytliijfogmendmaa.PW Go.Proofs.YtliijfogmendmaaW.PrintWords Go.Proofs.YtliijfogmendmaaW.PrintLast Go.Proofs.Ytliijfogmendmaa.Facts

theorem swaps_j0 (a w : Int) (k : Nat) (a0 : 0 ≤ a) (a1 : a < 18446744073709551616) :
    spindlelaw1_WordSwaps.j0 (k + 1) a w (K w) (sg w a % 18446744073709551616) false = some true := by
  have hk := K_pos w
  have hm := M_pos w
  have ma := M_lt w a
  have hs := sg_lt w a
  have hh := M_half w
  have x0 : 0 ≤ sg w a % 18446744073709551616 ∧ sg w a % 18446744073709551616 < 18446744073709551616 := by omega
  have e1 : IntKind.u64.wrap (K w - 1) = K w - 1 := by rw [IntKind.wrap_u64]; omega
  have ek : ((K w - 1) % K 64).toNat = (K w - 1).toNat := by rw [K64, Int.emod_eq_of_lt (by omega) (by omega)]
  simp only [spindlelaw1_WordSwaps.j0]
  rw [if_neg (by decide), narrow_eq _ w x0.1 x0.2, modM, sg_mod, narrow_eq a w a0 a1, Option.bind_some, Option.bind_some, if_pos rfl, e1]
  rw [sar_eq _ (K w - 1) 64 (by omega), shr_eq _ (K w - 1) 64 ma.1 (by omega) (by omega), Option.bind_some, Option.bind_some, M64, ek, sg_T, Int.emod_eq_of_lt ma.1 (by omega)]
  have e2 : sg 64 (sg w a) = sg w a := sg_of 64 _ (by rw [M64]; omega) (by rw [M64]; omega)
  have e3 : (2 : Int) ^ (K w - 1).toNat = M w / 2 := by
    rcases four w with ⟨_, h, h'⟩ | ⟨_, h, h'⟩ | ⟨_, h, h'⟩ | ⟨_, h, h'⟩ <;> rw [h, h'] <;> rfl
  rw [e2, e3]
  unfold word_Neg.f word_Sub.f
  rw [Option.bind_some, Option.bind_some, IntKind.wrap_u64, sign_eq _ w x0.1 x0.2, sg_T, Option.bind_some]
  have e4 : sg w (sg w a) = sg w a := sg_of w _ hs.1 hs.2
  rw [e4]
  have e5 : sg w a / (M w / 2) % 18446744073709551616 = (0 - a % M w / (M w / 2)) % 18446744073709551616 := by
    unfold sg
    have hc : (a % M w < M w / 2) ∨ ¬ (a % M w < M w / 2) := by omega
    rcases hc with h | h
    · rw [if_pos h, Int.ediv_eq_zero_of_lt ma.1 h]; rfl
    · rw [if_neg h]
      have d1 : a % M w / (M w / 2) = 1 := by
        apply Int.le_antisymm
        · have : a % M w / (M w / 2) < 2 := Int.ediv_lt_of_lt_mul (by omega) (by omega)
          omega
        · exact Int.le_ediv_of_mul_le (by omega) (by omega)
      have d2 : (a % M w - M w) / (M w / 2) = -1 := by
        apply Int.le_antisymm
        · have : (a % M w - M w) / (M w / 2) < 0 := Int.ediv_lt_of_lt_mul (by omega) (by omega)
          omega
        · exact Int.le_ediv_of_mul_le (by omega) (by omega)
      rw [d1, d2]; rfl
  rw [if_pos e5]
  simp

theorem WordSwaps : spindlelaw1_WordSwaps.Pure := by
  intro a w ha _
  obtain ⟨a0, a1⟩ := u64_in ha
  have hk := K_pos w
  have hm := M_pos w
  have ma := M_lt w a
  have ri := rev_in w a
  obtain ⟨r1, r2⟩ := rev_rev w a
  refine ⟨100, ?_⟩
  unfold spindlelaw1_WordSwaps.f
  rw [awake_k 70, Option.bind_some, if_pos rfl, wide_eq, Option.bind_some, wrapK, swap_eq a w 100 a0 a1 (by decide), Option.bind_some, sign_eq a w a0 a1, Option.bind_some,
    swap_eq _ w 100 ri.1 (by omega) (by decide), Int.emod_eq_of_lt ri.1 ri.2, r1, Option.bind_some, narrow_eq a w a0 a1, Option.bind_some, if_pos rfl, narrow_eq a 8 a0 a1, Option.bind_some]
  have e1 : IntKind.u64.wrap (K w - 8) = K w - 8 := by rw [IntKind.wrap_u64]; omega
  have ek : ((K w - 8) % K 64).toNat = (K w - 8).toNat := by rw [K64, Int.emod_eq_of_lt (by omega) (by omega)]
  have e8 : M 8 = 256 := rfl
  rw [e1, shr_eq _ (K w - 8) 64 ri.1 (by omega) (by omega), Option.bind_some, M64, ek, Int.emod_eq_of_lt ri.1 (by omega), r2, e8, if_pos rfl, narrow_eq _ w ri.1 (by omega), Int.emod_eq_of_lt ri.1 ri.2, Option.bind_some]
  rw [show (rev (bytesOf w) (a % M w) 0 != rev (bytesOf w) (a % M w) 0) = false from by simp]
  exact swaps_j0 a w 99 a0 a1

end Go.Proofs.Ytliijfogmendmaa.Pure
