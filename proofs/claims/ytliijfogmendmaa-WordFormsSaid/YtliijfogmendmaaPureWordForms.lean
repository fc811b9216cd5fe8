/- Every narrowed word, every sign carried, every word turned round, every comparison is the document's answer, of any number as a width. No condition: every list of cases. -/
import Derived.Test.YtliijfogmendmaaOkWordForms
import Derived.Test.YtliijfogmendmaaFactsR
namespace Go.Proofs.Ytliijfogmendmaa.Pure
open Go.RowKit Go.Proofs.Ytliijfogmendmaa.PW Go.Proofs.YtliijfogmendmaaW.PrintWords Go.Proofs.YtliijfogmendmaaW.PrintLast Go.Proofs.Ytliijfogmendmaa.Facts

theorem rd_mem (xs : List S26) (j : Nat) (h : j < xs.length) : rd_T26 xs j ∈ xs := by
  unfold rd_T26
  rw [Int.toNat_natCast, List.getD_eq_getElem?_getD, List.getElem?_eq_getElem h]
  exact List.getElem_mem h

theorem rounds_l0 (xs : List S26) (hok : ∀ v ∈ xs, okT26 v) (hl : xs.length < 140737488351232) (d : Nat) : ∀ j k : Nat, j + d = xs.length → 2 * d + 200 < k → spindlelaw1_WordForms.l0 k xs j = some true := by
  induction d with
  | zero =>
    intro j k hj hk
    obtain ⟨k, rfl⟩ : ∃ m, k = m + 1 := ⟨k - 1, by omega⟩
    simp only [spindlelaw1_WordForms.l0]
    rw [if_neg (by omega)]
  | succ d ih =>
    intro j k hj hk
    obtain ⟨k, rfl⟩ : ∃ m, k = m + 2 := ⟨k - 2, by omega⟩
    obtain ⟨ha, hb, hc, _⟩ := hok _ (rd_mem xs j (by omega))
    obtain ⟨a0, a1⟩ := u64_in ha
    obtain ⟨b0, b1⟩ := u64_in hb
    obtain ⟨c0, c1⟩ := u64_in hc
    have hi := ih (j + 1) k (by omega) (by omega)
    have ew : wrap64 ((j : Int) + 1) = ((j + 1 : Nat) : Int) := by rw [w64 _ (by omega) (by omega)]; rfl
    simp only [spindlelaw1_WordForms.l0]
    rw [if_pos (by omega), if_pos (by omega)]
    rw [narrow_eq _ _ a0 a1, Option.bind_some, narrow_ref _ _ _ a0 a1 (by omega), Option.bind_some, if_pos rfl, sign_eq _ _ a0 a1, Option.bind_some, sign_ref _ _ _ a0 a1 (by omega), Option.bind_some, if_pos rfl,
      swap_eq _ _ _ a0 a1 (by omega), Option.bind_some, swap_ref _ _ _ a0 a1 (by omega), Option.bind_some, beq_self_eq_true]
    simp only [spindlelaw1_WordForms.j1]
    rw [if_pos trivial, less_eq _ _ _ a0 a1 b0 b1, Option.bind_some, less_ref _ _ _ _ a0 a1 b0 b1 (by omega), Option.bind_some, if_neg (by simp), sless_eq _ _ _ a0 a1 b0 b1, Option.bind_some, sless_ref _ _ _ _ a0 a1 b0 b1 (by omega), Option.bind_some, if_neg (by simp), ew]
    exact hi

theorem WordForms : spindlelaw1_WordForms.Pure := by
  intro xs hok
  have hr : reachBytes = 140737488351232 := rfl
  refine ⟨(2 * xs.length + 300) + 30, ?_⟩
  unfold spindlelaw1_WordForms.f
  rw [awake_k, Option.bind_some, if_pos rfl]
  exact rounds_l0 xs hok.1 (by omega) xs.length 0 _ (by omega) (by omega)

end Go.Proofs.Ytliijfogmendmaa.Pure
