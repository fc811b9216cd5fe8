/- Every sum, difference, product and negation of words, and what is done bit by bit, is the document's answer. No condition: every list of cases. -/
import Derived.Test.YtliijfogmendmaaOkWordSums
import Derived.Test.YtliijfogmendmaaFactsR
namespace Go.Proofs.Ytliijfogmendmaa.Pure
open Go.RowKit Go.Proofs.Ytliijfogmendmaa.PW Go.Proofs.YtliijfogmendmaaW.PrintWords Go.Proofs.YtliijfogmendmaaW.PrintLast Go.Proofs.Ytliijfogmendmaa.Facts

theorem rd_mem (xs : List S26) (j : Nat) (h : j < xs.length) : rd_T26 xs j ∈ xs := by
  unfold rd_T26
  rw [Int.toNat_natCast, List.getD_eq_getElem?_getD, List.getElem?_eq_getElem h]
  exact List.getElem_mem h

theorem sums_l0 (xs : List S26) (hok : ∀ v ∈ xs, okT26 v) (hl : xs.length < 140737488351232) (d : Nat) : ∀ j k : Nat, j + d = xs.length → 2 * d + 200 < k → spindlelaw1_WordSums.l0 k xs j = some true := by
  induction d with
  | zero =>
    intro j k hj hk
    obtain ⟨k, rfl⟩ : ∃ m, k = m + 1 := ⟨k - 1, by omega⟩
    simp only [spindlelaw1_WordSums.l0]
    rw [if_neg (by omega)]
  | succ d ih =>
    intro j k hj hk
    obtain ⟨k, rfl⟩ : ∃ m, k = m + 2 := ⟨k - 2, by omega⟩
    obtain ⟨ha, hb, _, _⟩ := hok _ (rd_mem xs j (by omega))
    obtain ⟨a0, a1⟩ := u64_in ha
    obtain ⟨b0, b1⟩ := u64_in hb
    have hi := ih (j + 1) k (by omega) (by omega)
    have ew : wrap64 ((j : Int) + 1) = ((j + 1 : Nat) : Int) := by rw [w64 _ (by omega) (by omega)]; rfl
    simp only [spindlelaw1_WordSums.l0]
    rw [if_pos (by omega), if_pos (by omega)]
    unfold word_Add.f word_Neg.f word_Sub.f word_Mul.f
    rw [Option.bind_some, if_pos rfl, Option.bind_some, if_pos rfl, Option.bind_some, Option.bind_some, Int.zero_sub, if_pos rfl, Option.bind_some, mul_ref _ _ _ a0 b0 b1 (by omega), Option.bind_some, IntKind.wrap_u64, beq_self_eq_true]
    simp only [spindlelaw1_WordSums.j1]
    unfold word_And.f word_Or.f word_Xor.f
    rw [if_pos trivial, Option.bind_some, bit0_ref _ _ _ a0 a1 b0 b1 (by omega), Option.bind_some, u64_and _ _ a0 a1 b0 b1, if_pos rfl, Option.bind_some, bit1_ref _ _ _ a0 a1 b0 b1 (by omega), Option.bind_some, u64_or _ _ a0 a1 b0 b1, if_pos rfl,
      Option.bind_some, bit2_ref _ _ _ a0 a1 b0 b1 (by omega), Option.bind_some, u64_xor _ _ a0 a1 b0 b1, if_pos rfl, ew]
    exact hi

theorem WordSums : spindlelaw1_WordSums.Pure := by
  intro xs hok
  have hr : reachBytes = 140737488351232 := rfl
  refine ⟨(2 * xs.length + 300) + 30, ?_⟩
  unfold spindlelaw1_WordSums.f
  rw [awake_k, Option.bind_some, if_pos rfl]
  exact sums_l0 xs hok.1 (by omega) xs.length 0 _ (by omega) (by omega)

end Go.Proofs.Ytliijfogmendmaa.Pure
