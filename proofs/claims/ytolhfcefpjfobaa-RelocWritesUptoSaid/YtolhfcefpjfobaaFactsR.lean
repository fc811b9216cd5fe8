import Derived.Test.YtolhfcefpjfobaaFactsB
import Derived.Test.YtolhfcefpjfobaaPRx11
import Derived.Test.YtolhfcefpjfobaaPRx12
import Derived.Test.YtolhfcefpjfobaaPRx13
namespace Go.Proofs.Ytolhfcefpjfobaa.Facts
open Go.RowKit Go.Proofs.Ytolhfcefpjfobaa.PR Go.Proofs.YtolhfcefpjfobaaW.PrintWords Go.Proofs.YtolhfcefpjfobaaW.PrintLast
set_option linter.unusedVariables false
/-! The document's Read answers as the package's does. -/

theorem num_drop_le (l : List Int) (hb : Bytes l) (n : Nat) : num (l.drop n) ≤ num l := by
  induction n with
  | zero => rw [List.drop_zero]; omega
  | succ n ih =>
    by_cases h : n < l.length
    · have hd : Bytes (l.drop (n + 1)) := fun b h => hb b (List.mem_of_mem_drop h)
      have h0 := (num_range _ hd).1
      have hbn := hb l[n] (List.getElem_mem h)
      rw [List.drop_eq_getElem_cons h] at ih
      simp only [num] at ih
      omega
    · rw [List.drop_of_length_le (by omega)]
      exact (num_range _ hb).1

theorem rtaken_l0 (l : List Int) (hb : Bytes l) (hv : num l < 9223372036854775808) (n : Nat) : ∀ k : Nat, n ≤ l.length → n < k → n ≤ 1000 → spindleref11_taken.l0 k l (num (l.drop n)) ((n : Int) - 1) = some (num l) := by
  induction n with
  | zero =>
    intro k _ hk _
    obtain ⟨k, rfl⟩ : ∃ m, k = m + 1 := ⟨k - 1, by omega⟩
    simp only [spindleref11_taken.l0]
    rw [if_neg (by omega), List.drop_zero]
  | succ n ih =>
    intro k hn hk h8
    obtain ⟨k, rfl⟩ : ∃ m, k = m + 1 := ⟨k - 1, by omega⟩
    have hx : ((n + 1 : Nat) : Int) - 1 = (n : Int) := by omega
    have hlt : n < l.length := by omega
    have hd : Bytes (l.drop (n + 1)) := fun b h => hb b (List.mem_of_mem_drop h)
    have r0 := (num_range _ hd).1
    have hbn := hb l[n] (List.getElem_mem hlt)
    have hs : num (l.drop n) = num (l.drop (n + 1)) * 256 + l[n] := by
      rw [List.drop_eq_getElem_cons hlt]; simp only [num]; omega
    have hle := num_drop_le l hb n
    have hi := ih k (by omega) (by omega) (by omega)
    rw [hx]
    simp only [spindleref11_taken.l0]
    rw [if_pos (by omega), if_pos (by omega), if_pos (by omega), rd_at l n hlt, w64 (num (l.drop (n + 1)) * 256) (by omega) (by omega), w64 l[n] (by omega) (by omega), ← hs, w64 (num (l.drop n)) (by omega) (by omega), w64 _ (by omega) (by omega)]
    exact hi
theorem rtaken_j0 (l : List Int) (hb : Bytes l) (hv : num l < 9223372036854775808) (k : Nat) (hk : 12 < k) (hl : l.length ≤ 8) : spindleref11_taken.j0 k l 0 false = some (num l) := by
  obtain ⟨k, rfl⟩ : ∃ m, k = m + 1 := ⟨k - 1, by omega⟩
  have h := rtaken_l0 l hb hv l.length k (Nat.le_refl _) (by omega) (by omega)
  rw [List.drop_length] at h
  simp only [spindleref11_taken.j0]
  rw [if_neg (by decide), w64 ((l.length : Int) - 1) (by omega) (by omega)]
  exact h
theorem rtaken4 (l : List Int) (hb : Bytes l) (h4 : l.length = 4) (k : Nat) (hk : 20 < k) : spindleref11_taken.f k l = some (num l) := by
  obtain ⟨r0, r1⟩ := num_range l hb
  rw [h4, show (256 : Int) ^ 4 = 4294967296 from rfl] at r1
  unfold spindleref11_taken.f
  rw [if_neg (by omega)]
  exact rtaken_j0 l hb (by omega) k (by omega) (by omega)
theorem rtaken8 (l : List Int) (hb : Bytes l) (h8 : l.length = 8) (k : Nat) (hk : 20 < k) : spindleref11_taken.f k l = some (if num l ≥ 9223372036854775808 then 9223372036854775807 else num l) := by
  obtain ⟨k, rfl⟩ : ∃ m, k = m + 1 := ⟨k - 1, by omega⟩
  have hr : rd l 7 ≥ 128 ↔ num l ≥ 9223372036854775808 := by
    match l, h8 with
    | [a, b, c, d, e, f, g, h], _ =>
      have ha := hb a (by simp)
      have hb' := hb b (by simp)
      have hc := hb c (by simp)
      have hd := hb d (by simp)
      have he := hb e (by simp)
      have hf := hb f (by simp)
      have hg := hb g (by simp)
      have hh := hb h (by simp)
      simp only [num]
      rw [show rd [a, b, c, d, e, f, g, h] 7 = h from rfl]
      omega
  unfold spindleref11_taken.f
  rw [if_pos (by omega), if_pos (by omega)]
  by_cases hc : rd l 7 ≥ 128
  · rw [decide_eq_true hc, if_pos (hr.1 hc)]
    simp only [spindleref11_taken.j0]
    rw [if_pos trivial]
  · rw [decide_eq_false hc, if_neg (fun h => hc (hr.2 h))]
    exact rtaken_j0 l hb (by have := mt hr.2 hc; omega) (k + 1) (by omega) (by omega)

/-- one round of the document's Read -/
theorem ref_round (b : List Int) (hb : Bytes b) (i k : Nat) (out : List S27) (last last8 : Int) (hi : i + 16 ≤ b.length) (hl : b.length < 1000000000) (hk : 30 < k) (hrel : (last8 = -1 ∧ last = -1) ∨ (0 ≤ last ∧ last8 = 8 * last)) (ho : out.length < 5864062014805) :
    spindleref11_Read.l0 (k + 3) b out last8 i = if (oneS ((b.drop i).take 16) last).2.2.2.2 = 0 then
        spindleref11_Read.l0 k b (out ++ [⟨(oneS ((b.drop i).take 16) last).1, (oneS ((b.drop i).take 16) last).2.1, (oneS ((b.drop i).take 16) last).2.2.1⟩]) (8 * (oneS ((b.drop i).take 16) last).1) ((i + 16 : Nat) : Int)
      else some ([], wrap64 ((i : Int) + (oneS ((b.drop i).take 16) last).2.2.2.1), (oneS ((b.drop i).take 16) last).2.2.2.2) := by
  have e8 : wrap64 ((i : Int) + 8) = ((i + 8 : Nat) : Int) := by rw [w64 _ (by omega) (by omega)]; rfl
  have e12 : wrap64 ((i : Int) + 12) = ((i + 12 : Nat) : Int) := by rw [w64 _ (by omega) (by omega)]; rfl
  have e16 : wrap64 ((i : Int) + 16) = ((i + 16 : Nat) : Int) := by rw [w64 _ (by omega) (by omega)]; rfl
  have s8 : (b.take (i + 8)).drop i = ((b.drop i).take 16).take 8 := by
    rw [List.take_take, List.drop_take]; congr 1; omega
  have s12 : (b.take (i + 12)).drop (i + 8) = (((b.drop i).take 16).take 12).drop 8 := by
    rw [List.take_take, List.drop_take, List.drop_take, List.drop_drop]; congr 1; omega
  have s16 : (b.take (i + 16)).drop (i + 12) = ((b.drop i).take 16).drop 12 := by
    rw [List.drop_take, List.drop_take, List.drop_drop]; congr 1; omega
  obtain ⟨c, hc0⟩ : ∃ c, c = (b.drop i).take 16 := ⟨_, rfl⟩
  have hc : Bytes c := fun x h => by rw [hc0] at h; exact hb x (List.mem_of_mem_drop (List.mem_of_mem_take h))
  have hcl : c.length = 16 := by rw [hc0]; simp; omega
  rw [← hc0] at s8 s12 s16 ⊢
  have b8 : Bytes (c.take 8) := fun x h => hc x (List.mem_of_mem_take h)
  have b4 : Bytes ((c.take 12).drop 8) := fun x h => hc x (List.mem_of_mem_take (List.mem_of_mem_drop h))
  have b12 : Bytes (c.drop 12) := fun x h => hc x (List.mem_of_mem_drop h)
  have t8 := rtaken8 (c.take 8) b8 (by simp [hcl]) (k + 2) (by omega)
  have t4 := rtaken4 ((c.take 12).drop 8) b4 (by simp [hcl]) (k + 2) (by omega)
  have t12 := rtaken4 (c.drop 12) b12 (by simp [hcl]) (k + 2) (by omega)
  obtain ⟨p0, p1⟩ := num_range _ b8
  unfold oneS
  obtain ⟨p, hp⟩ : ∃ p, p = num (c.take 8) := ⟨_, rfl⟩
  obtain ⟨t, ht⟩ : ∃ t, t = num ((c.take 12).drop 8) := ⟨_, rfl⟩
  obtain ⟨s, hs⟩ : ∃ s, s = num (c.drop 12) := ⟨_, rfl⟩
  rw [← hp] at t8 p0 p1
  rw [← ht] at t4
  rw [← hs] at t12
  rw [← hp, ← ht, ← hs]
  rw [show k + 3 = (k + 2) + 1 from rfl]
  simp only [spindleref11_Read.l0]
  rw [e8, e12, e16, if_pos (by omega), if_neg (by omega), if_pos (by omega), if_pos (by omega), if_pos (by omega)]
  simp only [Int.toNat_natCast]
  rw [s8, s12, s16, t8, Option.bind_some, if_pos (by omega), if_pos (by omega), if_pos (by omega), t4, Option.bind_some, if_pos (by omega), if_pos (by omega), if_pos (by omega), t12, Option.bind_some]
  have w0 : wrap64 ((i : Int) + 0) = (i : Int) := by rw [w64 _ (by omega) (by omega)]; omega
  by_cases c1 : p ≥ 524288 ∨ p % 8 ≠ 0
  · have hbad : ∀ q : Int, (q ≥ 524288 ∨ Int.tmod q 8 ≠ 0) → (if Int.tmod q 8 = 0 then spindleref11_Read.j1 (k + 2) b out last8 (i : Int) q t s (decide (q ≥ 524288)) else spindleref11_Read.j1 (k + 2) b out last8 (i : Int) q t s true) = some ([], (i : Int), 110) := by
      intro q hq
      have e : spindleref11_Read.j1 (k + 2) b out last8 (i : Int) q t s true = some ([], (i : Int), 110) := by
        simp only [spindleref11_Read.j1]
        rw [if_pos trivial]
      split
      · rename_i h
        rw [decide_eq_true (show q ≥ 524288 by rcases hq with hq | hq; exact hq; exact absurd h hq)]
        exact e
      · exact e
    rw [hbad _ (by
      split
      · exact .inl (by omega)
      · rcases c1 with c1 | c1
        · exact .inl c1
        · refine .inr ?_
          rw [Int.tmod_eq_emod_of_nonneg p0]; exact c1)]
    rw [if_pos c1]
    dsimp only
    rw [if_neg (by decide), w0]
  · have c2 : p < 524288 ∧ p % 8 = 0 := by omega
    obtain ⟨c2, c3⟩ := c2
    rw [if_neg c1, if_neg (show ¬ p ≥ 9223372036854775808 by omega), if_pos (by rw [Int.tmod_eq_emod_of_nonneg p0]; exact c3), decide_eq_false (show ¬ p ≥ 524288 by omega)]
    simp only [spindleref11_Read.j1]
    rw [if_neg (by decide)]
    by_cases c4 : p / 8 ≤ last
    · rw [if_pos c4, if_pos (by omega)]
      dsimp only
      rw [if_neg (by decide), w0]
    · rw [if_neg c4, if_neg (by omega)]
      have ed : wrap64 (Int.tdiv p 8) = p / 8 := by rw [Int.tdiv_eq_ediv_of_nonneg p0]; exact w64 _ (by omega) (by omega)
      have e88 : 8 * (p / 8) = p := by omega
      by_cases c5 : t = 1
      · rw [if_pos c5, if_pos c5]
        simp only [spindleref11_Read.j2]
        rw [if_neg (by decide)]
        by_cases c6 : s = 0
        · rw [if_pos c6, if_pos c6]
          dsimp only
          rw [if_neg (by decide)]
        · rw [if_neg c6, if_neg c6, if_neg (by omega), if_pos ho, ed, e16]
          dsimp only
          rw [if_pos rfl, e88]
      · rw [if_neg c5, if_neg c5]
        simp only [spindleref11_Read.j2]
        by_cases c7 : t = 10
        · rw [if_pos c7, if_neg (by simp [c7])]
          by_cases c6 : s = 0
          · rw [if_pos c6, if_pos c6]
            rw [if_pos c7]
            rw [if_neg (by decide)]
          · rw [if_neg c6, if_neg c6, if_pos c7, if_pos ho, ed, e16]
            dsimp only
            rw [if_pos rfl, e88]
        · rw [if_neg c7, if_pos (by simpa using c7)]
          rw [if_neg c7]
          rw [if_neg (by decide)]

theorem both_l0 (b : List Int) (hb : Bytes b) (hl : b.length < 1000000000) (d : Nat) : ∀ (i k k' : Nat) (out : List S27) (last last8 : Int), b.length < i + 16 * d → d + 40 < k → 3 * d + 40 < k' → i ≤ b.length + 15 → out.length + d < 5864062014805 → ((last8 = -1 ∧ last = -1) ∨ (0 ≤ last ∧ last8 = 8 * last)) →
    ∃ x, reloc_Read.l0 k b out last i = some x ∧ spindleref11_Read.l0 k' b out last8 i = some x := by
  induction d with
  | zero =>
    intro i k k' out last last8 hi hk hk' hib ho hr
    obtain ⟨k, rfl⟩ : ∃ m, k = m + 1 := ⟨k - 1, by omega⟩
    obtain ⟨k', rfl⟩ : ∃ m, k' = m + 1 := ⟨k' - 1, by omega⟩
    refine ⟨(out, 0, 0), ?_, ?_⟩
    · simp only [reloc_Read.l0]
      rw [if_neg (by omega)]
    · simp only [spindleref11_Read.l0]
      rw [if_neg (by omega)]
  | succ d ih =>
    intro i k k' out last last8 hi hk hk' hib ho hr
    obtain ⟨k, rfl⟩ : ∃ m, k = m + 1 := ⟨k - 1, by omega⟩
    obtain ⟨k', rfl⟩ : ∃ m, k' = m + 3 := ⟨k' - 3, by omega⟩
    by_cases h1 : i < b.length
    · by_cases h2 : i + 16 ≤ b.length
      · have hc : Bytes ((b.drop i).take 16) := fun x h => hb x (List.mem_of_mem_drop (List.mem_of_mem_take h))
        have hcl : ((b.drop i).take 16).length = 16 := by simp; omega
        rw [read_round b hb i k out last h2 (by omega) (by omega), ref_round b hb i k' out last last8 h2 hl (by omega) hr (by omega)]
        by_cases h3 : (oneS ((b.drop i).take 16) last).2.2.2.2 = 0
        · obtain ⟨r, e, f1, f2, f3⟩ := fit_of _ last hc hcl h3
          rw [if_pos h3, if_pos h3, if_pos (by omega), e]
          dsimp only
          exact ih (i + 16) k k' (out ++ [r]) r.f0 (8 * r.f0) (by omega) (by omega) (by omega) (by omega) (by simp; omega) (.inr ⟨f1.1, rfl⟩)
        · rw [if_neg h3, if_neg h3]
          exact ⟨_, rfl, rfl⟩
      · refine ⟨([], (i : Int), 110), ?_, ?_⟩
        · simp only [reloc_Read.l0]
          rw [if_pos (by omega), w64 _ (by omega) (by omega), if_pos (by omega)]
        · rw [show k' + 3 = (k' + 2) + 1 from rfl]
          simp only [spindleref11_Read.l0]
          rw [if_pos (by omega), w64 ((i : Int) + 16) (by omega) (by omega), if_pos (by omega)]
    · refine ⟨(out, 0, 0), ?_, ?_⟩
      · simp only [reloc_Read.l0]
        rw [if_neg (by omega)]
      · rw [show k' + 3 = (k' + 2) + 1 from rfl]
        simp only [spindleref11_Read.l0]
        rw [if_neg (by omega)]
theorem both_eq (b : List Int) (hb : Bytes b) (hl : b.length < 1000000000) (k : Nat) (hk : 3 * b.length + 100 < k) : ∃ x, reloc_Read.f k b = some x ∧ spindleref11_Read.f k b = some x :=
  both_l0 b hb hl (b.length + 1) 0 k k [] (-1) (-1) (by omega) (by omega) (by omega) (by omega) (by simp; omega) (.inl ⟨rfl, rfl⟩)

theorem turned_l0 (b : List Int) (hl : b.length < 1000000000) (d : Nat) : ∀ (i k : Nat) (out : List Int), i + d = b.length → d < k → out.length = i → ∃ r, spindlelaw11_turned.l0 k b out i = some r ∧ r.length = b.length ∧ (Bytes b → Bytes out → Bytes r) := by
  induction d with
  | zero =>
    intro i k out hi hk ho
    obtain ⟨k, rfl⟩ : ∃ m, k = m + 1 := ⟨k - 1, by omega⟩
    refine ⟨out, ?_, by omega, fun _ h => h⟩
    simp only [spindlelaw11_turned.l0]
    rw [if_neg (by omega)]
  | succ d ih =>
    intro i k out hi hk ho
    obtain ⟨k, rfl⟩ : ∃ m, k = m + 1 := ⟨k - 1, by omega⟩
    have hlt : i < b.length := by omega
    have e1 : wrap64 ((i : Int) + 1) = ((i + 1 : Nat) : Int) := by rw [w64 _ (by omega) (by omega)]; rfl
    simp only [spindlelaw11_turned.l0]
    rw [if_pos (by omega), if_pos (by omega), rd_at b i hlt, e1]
    have step : ∀ y : Int, (Bytes b → 0 ≤ y ∧ y < 256) → ∃ r, spindlelaw11_turned.l0 k b (out ++ [y]) ((i + 1 : Nat) : Int) = some r ∧ r.length = b.length ∧ (Bytes b → Bytes out → Bytes r) := by
      intro y hy
      obtain ⟨r, h1, h2, h3⟩ := ih (i + 1) k (out ++ [y]) (by omega) (by omega) (by simp; omega)
      refine ⟨r, h1, h2, fun hb ho2 => h3 hb ?_⟩
      intro x hx
      rcases List.mem_append.1 hx with h | h
      · exact ho2 x h
      · rw [List.mem_singleton.1 h]; exact hy hb
    split
    · rw [if_pos (by omega)]
      refine step _ (fun hb => ?_)
      obtain ⟨z0, z1⟩ := hb b[i] (List.getElem_mem hlt)
      generalize b[i] = z at z0 z1
      have h : ∀ n : Fin 256, 0 ≤ Go.bits .xor .u8 (n.val : Int) 2 ∧ Go.bits .xor .u8 (n.val : Int) 2 < 256 := by decide +kernel
      have h2 := h ⟨z.toNat, by omega⟩
      rw [show ((⟨z.toNat, by omega⟩ : Fin 256).val : Int) = z from by simp only; omega] at h2
      exact h2
    · rw [if_pos (by omega)]
      exact step _ (fun hb => hb b[i] (List.getElem_mem hlt))
theorem turned_eq (b : List Int) (hl : b.length < 1000000000) (hb : Bytes b) (k : Nat) (hk : b.length < k) : ∃ r, spindlelaw11_turned.f k b = some r ∧ r.length = b.length ∧ Bytes r := by
  obtain ⟨r, h1, h2, h3⟩ := turned_l0 b hl b.length 0 k [] (by omega) hk rfl
  exact ⟨r, h1, h2, h3 hb (fun _ h => by cases h)⟩
end Go.Proofs.Ytolhfcefpjfobaa.Facts
