import Derived.Test.YtolhfcefpjfobaaFactsR
import Derived.Test.YtolhfcefpjfobaaPRx8
import Derived.Test.YtolhfcefpjfobaaPRx9
import Derived.Test.YtolhfcefpjfobaaPRx10
namespace Go.Proofs.Ytolhfcefpjfobaa.Facts
open Go.RowKit Go.Proofs.Ytolhfcefpjfobaa.PR Go.Proofs.YtolhfcefpjfobaaW.PrintWords Go.Proofs.YtolhfcefpjfobaaW.PrintLast
set_option linter.unusedVariables false
/-! The document's Write answers as the package's does. -/

theorem rlaid_l0 (n : Nat) (hn : n < 100) (d : Nat) : ∀ (j k : Nat) (x : Int) (out : List Int), j + d = n → d < k → 0 ≤ x → x < 9223372036854775808 → out.length + d < 140737488355328 → spindleref11_laid.l0 k x n out j = some (out ++ le d x) := by
  induction d with
  | zero =>
    intro j k x out hj hk _ _ _
    obtain ⟨k, rfl⟩ : ∃ m, k = m + 1 := ⟨k - 1, by omega⟩
    simp only [spindleref11_laid.l0]
    rw [if_neg (by omega)]; simp [le]
  | succ d ih =>
    intro j k x out hj hk h0 h1 hl
    obtain ⟨k, rfl⟩ : ∃ m, k = m + 1 := ⟨k - 1, by omega⟩
    simp only [spindleref11_laid.l0]
    have e : wrap64 ((j : Int) + 1) = ((j + 1 : Nat) : Int) := by rw [w64 _ (by omega) (by omega)]; rfl
    have e2 : wrap64 (Int.tdiv x 256) = x / 256 := by rw [Int.tdiv_eq_ediv_of_nonneg h0]; exact w64 _ (by omega) (by omega)
    rw [if_pos (by omega), if_pos (by omega), e, e2, ih (j + 1) k (x / 256) _ (by omega) (by omega) (by omega) (by omega) (by simp; omega)]
    simp [le]
theorem rlaid (n : Nat) (hn : n < 100) (k : Nat) (x : Int) (hk : n < k) (h0 : 0 ≤ x) (h1 : x < 9223372036854775808) : spindleref11_laid.f k x n = some (le n x) := by
  have h := rlaid_l0 n hn n 0 k x [] (by omega) hk h0 h1 (by simp; omega)
  rw [List.nil_append] at h
  exact h
theorem may_eq (r : S27) : spindleref11_may.f r.f0 r.f1 r.f2 = some (decide (Fit r)) := by
  unfold spindleref11_may.f
  by_cases c1 : r.f0 ≥ 0
  · rw [if_pos c1]
    by_cases c2 : r.f0 < 65536
    · rw [if_pos c2]
      by_cases c3 : r.f1 = 1
      · rw [if_pos c3]
        by_cases c4 : r.f2 ≥ 1
        · rw [if_pos c4]
          congr 1
          apply decide_eq_decide.2
          unfold Fit; omega
        · rw [if_neg c4, decide_eq_false (show ¬ Fit r by unfold Fit; omega)]
      · rw [if_neg c3]
        by_cases c5 : r.f1 = 2
        · rw [if_pos c5]
          by_cases c4 : r.f2 ≥ 1
          · rw [if_pos c4]
            congr 1
            apply decide_eq_decide.2
            unfold Fit; omega
          · rw [if_neg c4, decide_eq_false (show ¬ Fit r by unfold Fit; omega)]
        · rw [if_neg c5, decide_eq_false (show ¬ Fit r by unfold Fit; omega)]
    · rw [if_neg c2, decide_eq_false (show ¬ Fit r by unfold Fit; omega)]
  · rw [if_neg c1, decide_eq_false (show ¬ Fit r by unfold Fit; omega)]

/-- one round of the document's Write -/
theorem ref_wround (xs : List S27) (i k : Nat) (out : List Int) (last : Int) (hi : i < xs.length) (hk : 10 < k) (hl : out.length + 16 < 140737488355328) (hx : xs.length < 140737488355328) (hlast : (i = 0 ∧ last = -1) ∨ (0 < i ∧ last = (rd_T27 xs ((i : Int) - 1)).f0)) :
    spindleref11_Write.l0 (k + 2) xs out i =
      if Fit xs[i] then (if xs[i].f0 ≤ last then some ([], 111) else spindleref11_Write.l0 k xs (out ++ enc xs[i]) ((i + 1 : Nat) : Int)) else some ([], 110) := by
  have ew : wrap64 ((i : Int) + 1) = ((i + 1 : Nat) : Int) := by rw [w64 _ (by omega) (by omega)]; rfl
  have em : wrap64 ((i : Int) - 1) = (i : Int) - 1 := w64 _ (by omega) (by omega)
  have j1 : ∀ b : Bool, Fit xs[i] → spindleref11_Write.j1 (k + 1) xs out i b = if b = true then some ([], 111) else spindleref11_Write.l0 k xs (out ++ enc xs[i]) ((i + 1 : Nat) : Int) := by
    intro b hf
    simp only [spindleref11_Write.j1]
    by_cases hb : b = true
    · rw [if_pos hb, if_pos hb]
    · rw [if_neg hb, if_neg hb, if_pos (by omega), if_pos (by omega), rdT_at xs i hi]
      generalize xs[i] = r at hf
      obtain ⟨f1, f2, f3, f4, f5⟩ := hf
      have w8 : wrap64 (8 * r.f0) = 8 * r.f0 := w64 _ (by omega) (by omega)
      have l8 := rlaid 8 (by omega) k (8 * r.f0) (by omega) (by omega) (by omega)
      have l10 := rlaid 4 (by omega) k 10 (by omega) (by omega) (by omega)
      have l1 := rlaid 4 (by omega) k 1 (by omega) (by omega) (by omega)
      have l4 := rlaid 4 (by omega) k r.f2 (by omega) (by omega) (by omega)
      rw [show ((8 : Nat) : Int) = 8 from rfl] at l8
      rw [show ((4 : Nat) : Int) = 4 from rfl] at l10 l1 l4
      rcases f3 with h1 | h2
      · rw [if_neg (by omega), w8, l8, Option.bind_some, if_pos (by simp [le_length]; omega), Option.bind_some, l1, Option.bind_some, if_pos (by simp [le_length]; omega), Option.bind_some, l4, Option.bind_some, if_pos (by simp [le_length]; omega), ew]
        unfold enc ty
        rw [if_pos h1]
        simp only [List.append_assoc]
      · rw [if_pos h2, w8, l8, Option.bind_some, if_pos (by simp [le_length]; omega), Option.bind_some, l10, Option.bind_some, if_pos (by simp [le_length]; omega), Option.bind_some, l4, Option.bind_some, if_pos (by simp [le_length]; omega), ew]
        unfold enc ty
        rw [if_neg (by omega)]
        simp only [List.append_assoc]
  simp only [spindleref11_Write.l0]
  rw [if_pos (by omega), if_pos (by omega), rdT_at xs i hi, may_eq, Option.bind_some]
  by_cases hf : Fit xs[i]
  · rw [if_pos (decide_eq_true hf), if_pos hf]
    rcases hlast with ⟨h0, h1⟩ | ⟨h0, h1⟩
    · rw [if_neg (by omega), j1 false hf, if_neg (by decide), if_neg (by have := hf.1; omega)]
    · rw [if_pos (by omega), em, if_pos (by omega), if_pos (by omega), j1 _ hf, ← h1]
      by_cases hc : xs[i].f0 ≤ last
      · rw [if_pos (decide_eq_true hc), if_pos hc]
      · rw [if_neg (by simpa using hc), if_neg hc]
  · rw [if_neg (by simpa using hf), if_neg hf]

theorem wboth_l0 (xs : List S27) (hx : xs.length < 8000000000000) (d : Nat) : ∀ (i k k' : Nat) (out : List Int) (last : Int), i + d = xs.length → 2 * d + 20 < k → 2 * d + 20 < k' → out.length + 16 * d < 140737488355328 → ((i = 0 ∧ last = -1) ∨ (0 < i ∧ last = (rd_T27 xs ((i : Int) - 1)).f0)) →
    ∃ x, reloc_Write.l0 k out last xs xs.length i = some x ∧ spindleref11_Write.l0 k' xs out i = some x := by
  induction d with
  | zero =>
    intro i k k' out last hi hk hk' _ _
    obtain ⟨k, rfl⟩ : ∃ m, k = m + 1 := ⟨k - 1, by omega⟩
    obtain ⟨k', rfl⟩ : ∃ m, k' = m + 1 := ⟨k' - 1, by omega⟩
    refine ⟨(out, 0), ?_, ?_⟩
    · simp only [reloc_Write.l0]
      rw [if_neg (by omega)]
    · simp only [spindleref11_Write.l0]
      rw [if_neg (by omega)]
  | succ d ih =>
    intro i k k' out last hi hk hk' hl hlast
    obtain ⟨k, rfl⟩ : ∃ m, k = m + 2 := ⟨k - 2, by omega⟩
    obtain ⟨k', rfl⟩ : ∃ m, k' = m + 2 := ⟨k' - 2, by omega⟩
    have hlt : i < xs.length := by omega
    rw [write_round xs i k out last hlt (by omega) (by omega) (by omega), ref_wround xs i k' out last hlt (by omega) (by omega) (by omega) hlast]
    by_cases g1 : Fit xs[i]
    · rw [if_pos g1, if_pos g1]
      by_cases g2 : xs[i].f0 ≤ last
      · rw [if_pos g2, if_pos g2]; exact ⟨_, rfl, rfl⟩
      · rw [if_neg g2, if_neg g2]
        refine ih (i + 1) k k' (out ++ enc xs[i]) xs[i].f0 (by omega) (by omega) (by omega) (by rw [List.length_append, enc_length]; omega) (.inr ⟨by omega, ?_⟩)
        rw [show ((i + 1 : Nat) : Int) - 1 = (i : Int) from by omega, rdT_at xs i hlt]
    · rw [if_neg g1, if_neg g1]; exact ⟨_, rfl, rfl⟩
theorem wboth_eq (xs : List S27) (hx : xs.length < 8000000000000) (k : Nat) (hk : 2 * xs.length + 20 < k) : ∃ x, reloc_Write.f k xs = some x ∧ spindleref11_Write.f k xs = some x := by
  have h := wboth_l0 xs hx xs.length 0 k k [] (-1) (by omega) hk hk (by simp; omega) (.inl ⟨rfl, rfl⟩)
  unfold reloc_Write.f
  rw [w64 _ (by omega) (by omega), if_pos (by omega), if_pos (by omega)]
  exact h
theorem sameBytes_refl (b : List Int) : spindlelaw0_SameBytes.f b b = some true := by
  unfold spindlelaw0_SameBytes.f
  simp
end Go.Proofs.Ytolhfcefpjfobaa.Facts
