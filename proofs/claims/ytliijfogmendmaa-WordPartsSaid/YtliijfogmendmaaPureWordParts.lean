/- Every quotient, what is left, with signs and without, and every shift is the document's answer, of any number as a width. No condition: every list of cases. -/
import Derived.Test.YtliijfogmendmaaOkWordParts
import Derived.Test.YtliijfogmendmaaFactsR
namespace Go.Proofs.Ytliijfogmendmaa.Pure
open Go.RowKit Go.Proofs.Ytliijfogmendmaa.PW Go.Proofs.YtliijfogmendmaaW.PrintWords Go.Proofs.YtliijfogmendmaaW.PrintLast Go.Proofs.Ytliijfogmendmaa.Facts

theorem rd_mem (xs : List S26) (j : Nat) (h : j < xs.length) : rd_T26 xs j ∈ xs := by
  unfold rd_T26
  rw [Int.toNat_natCast, List.getD_eq_getElem?_getD, List.getElem?_eq_getElem h]
  exact List.getElem_mem h

theorem rounds_l0 (xs : List S26) (hok : ∀ v ∈ xs, okT26 v) (hl : xs.length < 140737488351232) (d : Nat) : ∀ j k : Nat, j + d = xs.length → 2 * d + 200 < k → spindlelaw1_WordParts.l0 k xs j = some true := by
  induction d with
  | zero =>
    intro j k hj hk
    obtain ⟨k, rfl⟩ : ∃ m, k = m + 1 := ⟨k - 1, by omega⟩
    simp only [spindlelaw1_WordParts.l0]
    rw [if_neg (by omega)]
  | succ d ih =>
    intro j k hj hk
    obtain ⟨k, rfl⟩ : ∃ m, k = m + 2 := ⟨k - 2, by omega⟩
    obtain ⟨ha, hb, hc, _⟩ := hok _ (rd_mem xs j (by omega))
    obtain ⟨a0, a1⟩ := u64_in ha
    obtain ⟨b0, b1⟩ := u64_in hb
    obtain ⟨c0, c1⟩ := u64_in hc
    have hi := ih (j + 1) k (by omega) (by omega)
    have ew : wrap64 ((j : Int) + 1) = ((j + 1 : Nat) : Int) := by rw [w64 _ (by omega) (by omega)]; rfl
    simp only [spindlelaw1_WordParts.l0]
    rw [if_pos (by omega), if_pos (by omega)]
    rw [div_eq _ _ _ a0 a1 b0 b1, Option.bind_some, div_ref _ _ _ _ a0 a1 b0 b1 (by omega), Option.bind_some, if_pos rfl, mod_eq _ _ _ a0 a1 b0 b1, Option.bind_some, mod_ref _ _ _ _ a0 a1 b0 b1 (by omega), Option.bind_some, if_pos rfl,
      sdiv_eq, Option.bind_some, sdiv_ref _ _ _ _ a0 a1 b0 b1 (by omega), Option.bind_some, if_pos rfl, smod_eq _ _ _ a0 a1, Option.bind_some, smod_ref _ _ _ _ a0 a1 b0 b1 (by omega), Option.bind_some, beq_self_eq_true]
    simp only [spindlelaw1_WordParts.j1]
    rw [if_pos trivial, shl_eq _ _ _ c0, Option.bind_some, shl_ref _ _ _ _ a0 a1 c0 (by omega), Option.bind_some, if_pos rfl, shr_eq _ _ _ a0 a1 c0, Option.bind_some, shr_ref _ _ _ _ a0 a1 c0 (by omega), Option.bind_some, if_pos rfl,
      sar_eq _ _ _ c0, Option.bind_some, sar_ref _ _ _ _ a0 a1 c0 (by omega), Option.bind_some, if_pos rfl, ew]
    exact hi

theorem WordParts : spindlelaw1_WordParts.Pure := by
  intro xs hok
  have hr : reachBytes = 140737488351232 := rfl
  refine ⟨(2 * xs.length + 300) + 30, ?_⟩
  unfold spindlelaw1_WordParts.f
  rw [awake_k, Option.bind_some, if_pos rfl]
  exact rounds_l0 xs hok.1 (by omega) xs.length 0 _ (by omega) (by omega)

end Go.Proofs.Ytliijfogmendmaa.Pure
