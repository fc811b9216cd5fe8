/- Quotient times divisor and what is left are what was divided, what is left is less than the divisor; with signs too, what is left having the sign of what is divided; by nothing the quotient is nothing. No condition: every a, b, every number as a width. -/
import Derived.Test.YtliijfogmendmaaFactsC
import Derived.Test.YtliijfogmendmaaPWx8
namespace Go.Proofs.Ytliijfogmendmaa.Pure
open Go.RowKit Go.Proofs.Ytliijfogmendmaa.PW Go.Proofs.YtliijfogmendmaaW.PrintWords Go.Proofs.YtliijfogmendmaaW.PrintLast Go.Proofs.Ytliijfogmendmaa.Facts

set_option linter.unusedVariables false
theorem sg_zero (w : Int) : sg w 0 = 0 := by
  have := half_range w
  exact sg_of w 0 (by omega) (by omega)

/-- 'less than nothing' of a small number with a sign, as a word -/
theorem sless0 (w t : Int) (h0 : - (M w / 2) ≤ t) (h1 : t < M w / 2) : word_SLess.f (t % M w) 0 w = some (decide (t < 0)) := by
  have hm := M_pos w
  have mt := M_lt w t
  rw [sless_eq _ _ w mt.1 (by omega) (by omega) (by omega), sg_mod', sg_of w t h0 h1, sg_zero]

theorem neg_narrow (w t : Int) : (word_Neg.f (t % M w)).bind (fun u => word_Narrow.f u w) = some ((-t) % M w) := by
  have mt := M_lt w t
  have hm := M_pos w
  unfold word_Neg.f word_Sub.f
  rw [Option.bind_some, Option.bind_some, IntKind.wrap_u64, narrow_eq _ w (by omega) (by omega), modM]
  congr 1
  rw [show 0 - t % M w = - (t % M w) from by omega]
  exact neg_emod_congr _ _ _ (Int.emod_emod_of_dvd t (Int.dvd_refl _))

theorem divides_j1 (a w y t : Int) (far : Int) (k : Nat) (hy : - (M w / 2) ≤ y) (hy' : y < M w / 2) (hy0 : y ≠ 0) (ht : t.natAbs < y.natAbs) (hp : 0 ≤ sg w a → 0 ≤ t) (hn : sg w a ≤ 0 → t ≤ 0) (hf : far = t.natAbs) :
    spindlelaw1_WordDivides.j1 (k + 1) w (a % M w) (y % M w) (t % M w) far = some true := by
  have hm := M_pos w
  have hh := M_half w
  have hs := sg_lt w a
  have ha := M_lt w a
  have t0 : - (M w / 2) ≤ t := by omega
  have t1 : t < M w / 2 := by omega
  have tail : (if t % M w = 0 then some true else ((word_SLess.f (t % M w) 0 w).bind fun t265 => ((word_SLess.f (a % M w) 0 w).bind fun t266 => (some (t265 == t266))))) = some true := by
    split
    · rfl
    · rename_i hz
      have tz : t ≠ 0 := by intro e; rw [e] at hz; exact hz (Int.zero_emod _)
      rw [sless0 w t t0 t1, Option.bind_some, sless_eq _ _ w ha.1 (by omega) (by omega) (by omega), sg_mod', sg_zero, Option.bind_some]
      have e : decide (t < 0) = decide (sg w a < 0) := by rw [decide_eq_decide]; omega
      rw [e]; simp
  simp only [spindlelaw1_WordDivides.j1]
  rw [sless0 w y hy hy', Option.bind_some]
  by_cases hneg : y < 0
  · have e := neg_narrow w y
    rw [Int.emod_eq_of_lt (show 0 ≤ -y by omega) (by omega)] at e
    rw [if_pos (decide_eq_true hneg), Option.bind_eq_some_iff.mpr (Option.bind_eq_some_iff.mp ?_)]
    obtain ⟨u, h1, h2⟩ := Option.bind_eq_some_iff.mp e
    rw [h1, Option.bind_some, h2, Option.bind_some, if_pos (by omega)]
    exact tail
  · rw [if_neg (by simp; omega), Int.emod_eq_of_lt (show 0 ≤ y by omega) (by omega), if_pos (by omega)]
    exact tail

theorem divides_j0 (a w y q t : Int) (k : Nat) (hy : - (M w / 2) ≤ y) (hy' : y < M w / 2) (hy0 : y ≠ 0) (ht : t.natAbs < y.natAbs) (hp : 0 ≤ sg w a → 0 ≤ t) (hn : sg w a ≤ 0 → t ≤ 0) (hq : y * q + t = sg w a) :
    spindlelaw1_WordDivides.j0 (k + 2) w (a % M w) (y % M w) (q % M w) (t % M w) false = some true := by
  have hm := M_pos w
  have hh := M_half w
  have t0 : - (M w / 2) ≤ t := by omega
  have t1 : t < M w / 2 := by omega
  simp only [spindlelaw1_WordDivides.j0]
  rw [if_neg (by decide)]
  unfold word_Mul.f word_Add.f
  rw [Option.bind_some, Option.bind_some, IntKind.wrap_u64, IntKind.wrap_u64, narrow_eq _ w (by omega) (by omega), modM, Option.bind_some]
  have e : (q % M w * (y % M w) % 18446744073709551616 + t % M w) % M w = a % M w := by
    rw [Int.add_emod, modM, ← Int.mul_emod, Int.emod_emod_of_dvd _ (Int.dvd_refl _), ← Int.add_emod, Int.mul_comm, hq, sg_mod]
  rw [if_pos e, sless0 w t t0 t1, Option.bind_some]
  by_cases hneg : t < 0
  · have e := neg_narrow w t
    rw [Int.emod_eq_of_lt (show 0 ≤ -t by omega) (by omega)] at e
    obtain ⟨u, h1, h2⟩ := Option.bind_eq_some_iff.mp e
    rw [if_pos (decide_eq_true hneg), h1, Option.bind_some, h2, Option.bind_some]
    exact divides_j1 a w y t _ k hy hy' hy0 ht hp hn (by omega)
  · rw [if_neg (by simp; omega)]
    exact divides_j1 a w y t _ k hy hy' hy0 ht hp hn (by rw [Int.emod_eq_of_lt (show 0 ≤ t by omega) (by omega)]; omega)

theorem WordDivides : spindlelaw1_WordDivides.Pure := by
  intro a b w ha hb _
  obtain ⟨a0, a1⟩ := u64_in ha
  obtain ⟨b0, b1⟩ := u64_in hb
  have hm := M_pos w
  have hh := M_half w
  have ma := M_lt w a
  have mb := M_lt w b
  have sb := sg_lt w b
  have eb := sg_mod w b
  have ea := sg_mod w a
  refine ⟨100, ?_⟩
  unfold spindlelaw1_WordDivides.f
  rw [awake_k 70, Option.bind_some, if_pos rfl, narrow_eq a w a0 a1, Option.bind_some, narrow_eq b w b0 b1, Option.bind_some, div_eq a b w a0 a1 b0 b1, Option.bind_some, mod_eq a b w a0 a1 b0 b1, Option.bind_some,
    sdiv_eq, Option.bind_some, smod_eq a b w a0 a1, Option.bind_some]
  by_cases hz : b % M w = 0
  · have z : sg w b = 0 := by
      unfold sg; rw [hz, if_pos (by omega)]
    rw [if_pos hz, hz, Int.ediv_zero, if_pos rfl, Int.emod_zero, if_pos rfl, z, Int.tdiv_zero, if_pos (Int.zero_emod _), Int.tmod_zero, ea]
    simp
  · have nz : sg w b ≠ 0 := by
      intro e; rw [e, Int.zero_emod] at eb; exact hz eb.symm
    obtain ⟨g1, g2, g3⟩ := tmod_facts (sg w a) (sg w b) nz
    have l1 : a % M w % (b % M w) < b % M w := Int.emod_lt_of_pos _ (by omega)
    have l2 : a % M w / (b % M w) ≤ a % M w := Int.ediv_le_self _ ma.1
    have l3 : 0 ≤ a % M w % (b % M w) := Int.emod_nonneg _ hz
    have l4 := Int.emod_add_ediv_mul (a % M w) (b % M w)
    have l5 : 0 ≤ a % M w / (b % M w) := Int.ediv_nonneg ma.1 mb.1
    have l6 : 0 ≤ a % M w / (b % M w) * (b % M w) := Int.mul_nonneg l5 mb.1
    rw [if_neg hz, if_neg (by omega), if_neg (by omega)]
    unfold word_Mul.f word_Add.f
    rw [Option.bind_some, Option.bind_some, IntKind.wrap_u64, IntKind.wrap_u64, Int.emod_eq_of_lt (a := a % M w / (b % M w) * (b % M w)) l6 (by omega), Int.emod_eq_of_lt (a := a % M w / (b % M w) * (b % M w) + a % M w % (b % M w)) (by omega) (by omega), show a % M w / (b % M w) * (b % M w) + a % M w % (b % M w) = a % M w from by omega]
    rw [show (a % M w != a % M w) = false from by simp, ← eb]
    exact divides_j0 a w (sg w b) _ _ 98 sb.1 sb.2 nz g1 g2 g3 (Int.mul_tdiv_add_tmod _ _)

end Go.Proofs.Ytliijfogmendmaa.Pure
