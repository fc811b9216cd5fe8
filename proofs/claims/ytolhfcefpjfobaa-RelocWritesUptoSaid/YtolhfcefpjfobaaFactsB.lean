import Derived.Test.YtolhfcefpjfobaaFacts
import Derived.Test.YtolhfcefpjfobaaPRx5
import Derived.Test.YtolhfcefpjfobaaPRx6
namespace Go.Proofs.Ytolhfcefpjfobaa.Facts
open Go.RowKit Go.Proofs.Ytolhfcefpjfobaa.PR Go.Proofs.YtolhfcefpjfobaaW.PrintWords Go.Proofs.YtolhfcefpjfobaaW.PrintLast
set_option linter.unusedVariables false
/-! Reading: a relocation out of 16 bytes, and all of them. -/

theorem awake_k (k : Nat) : spindlelaw11_awake.f (k + 40) = some true := by
  have h : spindlelaw11_awake.f 40 = some true := by decide +kernel
  induction k with
  | zero => exact h
  | succ k ih => rw [show k + 1 + 40 = (k + 40) + 1 from by omega]; exact spindlelaw11_awake.mono (k + 40) _ ih

/-- what a reading of 16 bytes comes to -/
def oneS (c : List Int) (last : Int) : Int × Int × Int × Int × Int :=
  if num (c.take 8) ≥ 524288 ∨ num (c.take 8) % 8 ≠ 0 then (0, 0, 0, 0, 110)
  else if num (c.take 8) / 8 ≤ last then (0, 0, 0, 0, 111)
  else if num ((c.take 12).drop 8) = 1 then (if num (c.drop 12) = 0 then (0, 0, 0, 12, 110) else (num (c.take 8) / 8, 1, num (c.drop 12), 0, 0))
  else if num ((c.take 12).drop 8) = 10 then (if num (c.drop 12) = 0 then (0, 0, 0, 12, 110) else (num (c.take 8) / 8, 2, num (c.drop 12), 0, 0))
  else (0, 0, 0, 8, 110)

theorem one_eq (c : List Int) (last : Int) (k : Nat) (hb : Bytes c) (hl : c.length = 16) (hk : 20 < k) : reloc_one.f k c last = some (oneS c last) := by
  obtain ⟨k, rfl⟩ : ∃ m, k = m + 1 := ⟨k - 1, by omega⟩
  have b8 : Bytes (c.take 8) := fun b h => hb b (List.mem_of_mem_take h)
  have b4 : Bytes ((c.take 12).drop 8) := fun b h => hb b (List.mem_of_mem_take (List.mem_of_mem_drop h))
  have b12 : Bytes (c.drop 12) := fun b h => hb b (List.mem_of_mem_drop h)
  obtain ⟨p0, p1⟩ := num_range _ b8
  rw [show (c.take 8).length = 8 from by simp [hl], show (256 : Int) ^ 8 = 18446744073709551616 from rfl] at p1
  obtain ⟨e4, t0, t1⟩ := taken4 _ b4 (by simp [hl]) k (by omega)
  obtain ⟨e12, s0, s1⟩ := taken4 _ b12 (by simp [hl]) k (by omega)
  unfold reloc_one.f oneS
  rw [if_pos (by omega), taken_eq _ b8 (by simp [hl]) (k + 1) (by omega), Option.bind_some]
  simp only [reloc_one.j0, if_true]
  rw [if_pos (show (12 : Int) ≤ c.length by omega), e12, Option.bind_some, if_pos (show (8 : Nat) ≤ 12 by decide), e4, Option.bind_some, types1, Option.bind_some, types2, Option.bind_some]
  generalize num (c.take 8) = p at *
  generalize num ((c.take 12).drop 8) = t at *
  generalize num (c.drop 12) = s at *
  by_cases c1 : p ≥ 9223372036854775808
  · have : wrap64 p < 0 := by unfold wrap64; omega
    rw [if_pos this, if_pos (.inl (by omega))]
  have ep : wrap64 p = p := w64 p (by omega) (by omega)
  rw [ep, if_neg (by omega)]
  by_cases c2 : p ≥ 524288
  · rw [if_pos c2, if_pos (.inl c2)]
  rw [if_neg c2, Int.tmod_eq_emod_of_nonneg p0, Int.tdiv_eq_ediv_of_nonneg p0, w64 (p / 8) (by omega) (by omega)]
  by_cases c3 : p % 8 = 0
  · rw [show (p % 8 != 0) = false from by simp [c3], if_neg (by decide), if_neg (show ¬ (p ≥ 524288 ∨ p % 8 ≠ 0) by omega)]
    by_cases c4 : p / 8 ≤ last
    · rw [if_pos c4, if_pos c4]
    rw [if_neg c4, if_neg c4]
    by_cases c5 : t = 1
    · rw [if_pos c5, if_pos c5]
      by_cases c6 : s = 0
      · rw [if_pos c6, if_pos c6]
      · rw [if_neg c6, if_neg c6]
    rw [if_neg c5, if_neg c5]
    by_cases c6 : t = 10
    · rw [if_pos c6, if_pos c6]
      by_cases c7 : s = 0
      · rw [if_pos c7, if_pos c7]
      · rw [if_neg c7, if_neg c7]
    · rw [if_neg c6, if_neg c6]
  · rw [show (p % 8 != 0) = true from by simpa using c3, if_pos rfl, if_pos (.inr c3)]

/-- one round of Read -/
theorem read_round (b : List Int) (hb : Bytes b) (i k : Nat) (out : List S27) (last : Int) (hi : i + 16 ≤ b.length) (hl : b.length < 9000000000000000000) (hk : 20 < k) :
    reloc_Read.l0 (k + 1) b out last i = if (oneS ((b.drop i).take 16) last).2.2.2.2 = 0 then
        (if out.length < 5864062014805 then reloc_Read.l0 k b (out ++ [⟨(oneS ((b.drop i).take 16) last).1, (oneS ((b.drop i).take 16) last).2.1, (oneS ((b.drop i).take 16) last).2.2.1⟩]) (oneS ((b.drop i).take 16) last).1 ((i + 16 : Nat) : Int) else none)
      else some ([], wrap64 ((i : Int) + (oneS ((b.drop i).take 16) last).2.2.2.1), (oneS ((b.drop i).take 16) last).2.2.2.2) := by
  have e1 : wrap64 ((b.length : Int) - (i : Int)) = (b.length : Int) - i := w64 _ (by omega) (by omega)
  have e2 : wrap64 ((i : Int) + 16) = ((i + 16 : Nat) : Int) := by rw [w64 _ (by omega) (by omega)]; rfl
  have e3 : ((b.take (i + 16)).drop i) = (b.drop i).take 16 := by rw [List.drop_take]; congr 1; omega
  have hc : Bytes ((b.drop i).take 16) := fun x h => hb x (List.mem_of_mem_drop (List.mem_of_mem_take h))
  simp only [reloc_Read.l0]
  rw [e1, e2, if_pos (by omega), if_neg (by omega), if_pos (by omega), if_pos (by omega), if_pos (by omega), Int.toNat_natCast, Int.toNat_natCast, e3, one_eq _ last k hc (by simp; omega) hk, Option.bind_some]

/-- a run of relocations, from a slot to a slot -/
def Run : Int → List S27 → Int → Prop
  | l, [], l' => l = l'
  | l, r :: rs, l' => Fit r ∧ l < r.f0 ∧ Run r.f0 rs l'
theorem Run.good : ∀ (rs : List S27) (l l' : Int), Run l rs l' → Good l rs
  | [], _, _, _ => trivial
  | r :: rs, _, l', ⟨h1, h2, h3⟩ => ⟨h1, h2, Run.good rs r.f0 l' h3⟩
theorem Run.snoc : ∀ (rs : List S27) (l l' : Int) (r : S27), Run l rs l' → Fit r → l' < r.f0 → Run l (rs ++ [r]) r.f0
  | [], _, _, r, h, h1, h2 => by cases h; exact ⟨h1, h2, rfl⟩
  | _ :: rs, _, l', r, ⟨h1, h2, h3⟩, h4, h5 => ⟨h1, h2, Run.snoc rs _ l' r h3 h4 h5⟩
theorem Run.length : ∀ (rs : List S27) (l l' : Int), Run l rs l' → (rs.length : Int) ≤ l' - l
  | [], _, _, h => by cases h; simp
  | _ :: rs, l, l', ⟨h1, h2, h3⟩ => by
    have := Run.length rs _ l' h3
    rw [List.length_cons]; omega

theorem fit_of (c : List Int) (last : Int) (hb : Bytes c) (hl : c.length = 16) (h : (oneS c last).2.2.2.2 = 0) :
    ∃ r : S27, oneS c last = (r.f0, r.f1, r.f2, 0, 0) ∧ Fit r ∧ last < r.f0 ∧ enc r = c := by
  have b8 : Bytes (c.take 8) := fun b h => hb b (List.mem_of_mem_take h)
  have b4 : Bytes ((c.take 12).drop 8) := fun b h => hb b (List.mem_of_mem_take (List.mem_of_mem_drop h))
  have b12 : Bytes (c.drop 12) := fun b h => hb b (List.mem_of_mem_drop h)
  obtain ⟨p0, p1⟩ := num_range _ b8
  obtain ⟨s0, s1⟩ := num_range _ b12
  rw [show (c.drop 12).length = 4 from by simp [hl], show (256 : Int) ^ 4 = 4294967296 from rfl] at s1
  have l8 := le_num _ b8
  have l4 := le_num _ b4
  have l12 := le_num _ b12
  rw [show (c.take 8).length = 8 from by simp [hl]] at l8
  rw [show ((c.take 12).drop 8).length = 4 from by simp [hl]] at l4
  rw [show (c.drop 12).length = 4 from by simp [hl]] at l12
  have hc : c = c.take 8 ++ ((c.take 12).drop 8 ++ c.drop 12) := by
    have h1 := List.take_append_drop 12 c
    have h2 := List.take_append_drop 8 (c.take 12)
    rw [List.take_take, Nat.min_eq_left (by omega)] at h2
    rw [← List.append_assoc, h2, h1]
  unfold oneS at h ⊢
  by_cases c1 : num (c.take 8) ≥ 524288 ∨ num (c.take 8) % 8 ≠ 0
  · rw [if_pos c1] at h; simp at h
  rw [if_neg c1] at h ⊢
  by_cases c2 : num (c.take 8) / 8 ≤ last
  · rw [if_pos c2] at h; simp at h
  rw [if_neg c2] at h ⊢
  by_cases c3 : num ((c.take 12).drop 8) = 1
  · rw [if_pos c3] at h ⊢
    by_cases c4 : num (c.drop 12) = 0
    · rw [if_pos c4] at h; simp at h
    · rw [if_neg c4]
      refine ⟨⟨num (c.take 8) / 8, 1, num (c.drop 12)⟩, rfl, ⟨by dsimp only; omega, by dsimp only; omega, .inl rfl, by dsimp only; omega, s1⟩, by dsimp only; omega, ?_⟩
      unfold enc ty
      dsimp only
      rw [if_pos rfl, show 8 * (num (c.take 8) / 8) = num (c.take 8) from by omega, l8, ← c3, l4, l12]
      exact hc.symm
  rw [if_neg c3] at h ⊢
  by_cases c4 : num ((c.take 12).drop 8) = 10
  · rw [if_pos c4] at h ⊢
    by_cases c5 : num (c.drop 12) = 0
    · rw [if_pos c5] at h; simp at h
    · rw [if_neg c5]
      refine ⟨⟨num (c.take 8) / 8, 2, num (c.drop 12)⟩, rfl, ⟨by dsimp only; omega, by dsimp only; omega, .inr rfl, by dsimp only; omega, s1⟩, by dsimp only; omega, ?_⟩
      unfold enc ty
      dsimp only
      rw [if_neg (by decide), show 8 * (num (c.take 8) / 8) = num (c.take 8) from by omega, l8, ← c4, l4, l12]
      exact hc.symm
  · rw [if_neg c4] at h; simp at h

/-- the bytes of a relocation read as it -/
theorem one_enc (r : S27) (last : Int) (h : Fit r) (hl : last < r.f0) : oneS (enc r) last = (r.f0, r.f1, r.f2, 0, 0) := by
  obtain ⟨h1, h2, h3, h4, h5⟩ := h
  have e8 : (enc r).take 8 = le 8 (8 * r.f0) := by
    unfold enc; rw [List.take_append_of_le_length (by rw [le_length]; omega), List.take_of_length_le (by rw [le_length]; omega)]
  have e12 : (enc r).drop 12 = le 4 r.f2 := by
    unfold enc
    rw [← List.append_assoc, List.drop_append_of_le_length (by simp [le_length]), List.drop_eq_nil_of_le (by simp [le_length]), List.nil_append]
  have e4 : ((enc r).take 12).drop 8 = le 4 (ty r.f1) := by
    unfold enc
    rw [← List.append_assoc, List.take_append_of_le_length (by simp [le_length]), List.take_of_length_le (by simp [le_length]), List.drop_append_of_le_length (by rw [le_length]; omega), List.drop_eq_nil_of_le (by rw [le_length]; omega), List.nil_append]
  have n8 : num (le 8 (8 * r.f0)) = 8 * r.f0 := num_le 8 _ (by omega) (by rw [show (256 : Int) ^ 8 = 18446744073709551616 from rfl]; omega)
  have n12 : num (le 4 r.f2) = r.f2 := num_le 4 _ (by omega) (by rw [show (256 : Int) ^ 4 = 4294967296 from rfl]; omega)
  have n4 : num (le 4 (ty r.f1)) = ty r.f1 := num_le 4 _ (by unfold ty; split <;> omega) (by rw [show (256 : Int) ^ 4 = 4294967296 from rfl]; unfold ty; split <;> omega)
  unfold oneS
  rw [e8, e12, e4, n8, n12, n4, if_neg (show ¬ (8 * r.f0 ≥ 524288 ∨ 8 * r.f0 % 8 ≠ 0) by omega), if_neg (show ¬ 8 * r.f0 / 8 ≤ last by omega)]
  unfold ty
  rcases h3 with h3 | h3
  · rw [h3, if_pos rfl, if_pos rfl, if_neg (by omega)]
    rw [show 8 * r.f0 / 8 = r.f0 from by omega]
  · rw [h3, show (if (2 : Int) = 1 then (1 : Int) else 10) = 10 from by decide, if_neg (by decide), if_pos rfl, if_neg (by omega)]
    rw [show 8 * r.f0 / 8 = r.f0 from by omega]

/-- what a refusal says -/
theorem one_bad (c : List Int) (last : Int) (h : (oneS c last).2.2.2.2 ≠ 0) :
    ((oneS c last).2.2.2.2 = 110 ∧ ((oneS c last).2.2.2.1 = 0 ∨ (oneS c last).2.2.2.1 = 8 ∨ (oneS c last).2.2.2.1 = 12)) ∨ ((oneS c last).2.2.2.2 = 111 ∧ (oneS c last).2.2.2.1 = 0 ∧ num (c.take 8) / 8 ≤ last) := by
  unfold oneS at h ⊢
  by_cases c1 : num (c.take 8) ≥ 524288 ∨ num (c.take 8) % 8 ≠ 0
  · rw [if_pos c1]; exact .inl ⟨rfl, .inl rfl⟩
  rw [if_neg c1] at h ⊢
  by_cases c2 : num (c.take 8) / 8 ≤ last
  · rw [if_pos c2]; exact .inr ⟨rfl, rfl, c2⟩
  rw [if_neg c2] at h ⊢
  by_cases c3 : num ((c.take 12).drop 8) = 1
  · rw [if_pos c3] at h ⊢
    by_cases c4 : num (c.drop 12) = 0
    · rw [if_pos c4]; exact .inl ⟨rfl, .inr (.inr rfl)⟩
    · rw [if_neg c4] at h; exact absurd rfl h
  rw [if_neg c3] at h ⊢
  by_cases c4 : num ((c.take 12).drop 8) = 10
  · rw [if_pos c4] at h ⊢
    by_cases c5 : num (c.drop 12) = 0
    · rw [if_pos c5]; exact .inl ⟨rfl, .inr (.inr rfl)⟩
    · rw [if_neg c5] at h; exact absurd rfl h
  · rw [if_neg c4]; exact .inl ⟨rfl, .inr (.inl rfl)⟩

/-- what Read answers: the relocations whose bytes these are, or a place and an error -/
def Answer (b : List Int) (x : List S27 × Int × Int) : Prop :=
  (x.2.2 = 0 ∧ x.2.1 = 0 ∧ Good (-1) x.1 ∧ encs x.1 = b) ∨
  (x.1 = [] ∧ 0 ≤ x.2.1 ∧ x.2.1 < b.length ∧ x.2.1 % 4 = 0 ∧ (x.2.2 = 110 ∨ (x.2.2 = 111 ∧ x.2.1 % 16 = 0 ∧ 0 < x.2.1)))

theorem read_l0 (b : List Int) (hb : Bytes b) (hl : b.length < 9000000000000000000) (d : Nat) : ∀ (i k : Nat) (out : List S27) (last : Int), b.length < i + 16 * d → d + 20 < k → i ≤ b.length + 15 → Run (-1) out last → 16 * out.length = i → (i ≤ b.length → encs out = b.take i) → last < 65536 →
    ∃ x, reloc_Read.l0 k b out last i = some x ∧ (i ≤ b.length → Answer b x) := by
  induction d with
  | zero =>
    intro i k out last hi hk hib hr ho he hla
    obtain ⟨k, rfl⟩ : ∃ m, k = m + 1 := ⟨k - 1, by omega⟩
    refine ⟨(out, 0, 0), ?_, fun h => absurd h (by omega)⟩
    simp only [reloc_Read.l0]
    rw [if_neg (by omega)]
  | succ d ih =>
    intro i k out last hi hk hib hr ho he hla
    obtain ⟨k, rfl⟩ : ∃ m, k = m + 1 := ⟨k - 1, by omega⟩
    by_cases h1 : i < b.length
    · by_cases h2 : i + 16 ≤ b.length
      · have hc : Bytes ((b.drop i).take 16) := fun x h => hb x (List.mem_of_mem_drop (List.mem_of_mem_take h))
        have hcl : ((b.drop i).take 16).length = 16 := by simp; omega
        rw [read_round b hb i k out last h2 hl (by omega)]
        by_cases h3 : (oneS ((b.drop i).take 16) last).2.2.2.2 = 0
        · obtain ⟨r, e, f1, f2, f3⟩ := fit_of _ last hc hcl h3
          have hlen := Run.length out _ _ hr
          rw [if_pos h3, if_pos (by omega), e]
          dsimp only
          obtain ⟨x, hx, ha⟩ := ih (i + 16) k (out ++ [r]) r.f0 (by omega) (by omega) (by omega) (Run.snoc out _ _ r hr f1 f2) (by simp; omega) (fun _ => by
            rw [encs_append, he (by omega)]
            simp only [encs, List.append_nil]
            rw [f3, ← List.take_add]) f1.2.1
          exact ⟨x, hx, fun _ => ha h2⟩
        · rw [if_neg h3]
          refine ⟨_, rfl, fun _ => .inr ⟨rfl, ?_⟩⟩
          dsimp only
          rcases one_bad _ last h3 with ⟨e1, e2⟩ | ⟨e1, e2, e3⟩
          · rw [e1]
            rw [w64 _ (by omega) (by omega)]
            omega
          · rw [e1, e2, w64 _ (by omega) (by omega)]
            have hp : 0 < i := by
              rcases Nat.eq_zero_or_pos i with h0 | h0
              · exfalso
                have h8 : Bytes (((b.drop i).take 16).take 8) := fun x h => hc x (List.mem_of_mem_take h)
                have := (num_range _ h8).1
                have hn : out = [] := List.eq_nil_of_length_eq_zero (by omega)
                subst hn
                have : (-1 : Int) = last := hr
                omega
              · exact h0
            omega
      · refine ⟨([], (i : Int), 110), ?_, fun _ => .inr ⟨rfl, by dsimp only; omega, by dsimp only; omega, by dsimp only; omega, .inl rfl⟩⟩
        simp only [reloc_Read.l0]
        rw [if_pos (by omega), w64 _ (by omega) (by omega), if_pos (by omega)]
    · refine ⟨(out, 0, 0), ?_, fun h => .inl ⟨rfl, rfl, Run.good out _ _ hr, ?_⟩⟩
      · simp only [reloc_Read.l0]
        rw [if_neg (by omega)]
      · dsimp only
        rw [he h, List.take_of_length_le (by omega)]

theorem read_eq (b : List Int) (hb : Bytes b) (hl : b.length < 9000000000000000000) (k : Nat) (hk : b.length + 30 < k) : ∃ x, reloc_Read.f k b = some x ∧ Answer b x := by
  obtain ⟨x, hx, ha⟩ := read_l0 b hb hl (b.length + 1) 0 k [] (-1) (by omega) (by omega) (by omega) rfl rfl (fun _ => rfl) (by omega)
  exact ⟨x, hx, ha (by omega)⟩

/-- Read of what Write gives, and of its beginnings: 'tail' is a part of a relocation -/
theorem read_encs (b : List Int) (hb : Bytes b) (hl : b.length < 9000000000000000000) (tail : List Int) (ht : tail.length < 16) : ∀ (rs : List S27) (i k : Nat) (out : List S27) (last : Int),
    b.drop i = encs rs ++ tail → i ≤ b.length → Good last rs → rs.length + 25 < k → (out.length : Int) ≤ last + 1 → last < 65536 →
    reloc_Read.l0 k b out last i = some (if tail = [] then (out ++ rs, 0, 0) else ([], (i : Int) + 16 * rs.length, 110)) := by
  intro rs
  induction rs with
  | nil =>
    intro i k out last hd hi _ hk _ _
    obtain ⟨k, rfl⟩ : ∃ m, k = m + 1 := ⟨k - 1, by omega⟩
    have hlen : b.length - i = tail.length := by
      have := congrArg List.length hd
      simpa [encs] using this
    simp only [reloc_Read.l0]
    by_cases h : tail = []
    · subst h
      rw [if_neg (by simp at hlen; omega)]; simp
    · have hp : 0 < tail.length := List.length_pos_iff.2 h
      rw [if_pos (by omega), w64 _ (by omega) (by omega), if_pos (by omega), if_neg h]; simp
  | cons r rs ih =>
    intro i k out last hd hi hg hk ho hla
    obtain ⟨k, rfl⟩ : ∃ m, k = m + 1 := ⟨k - 1, by omega⟩
    obtain ⟨g1, g2, g3⟩ := hg
    have hlen : b.length - i = 16 + (encs rs).length + tail.length := by
      have := congrArg List.length hd
      simp [encs, enc_length] at this
      omega
    have hc : (b.drop i).take 16 = enc r := by
      rw [hd]; simp only [encs]
      rw [List.append_assoc, List.take_append_of_le_length (by rw [enc_length]; omega), List.take_of_length_le (by rw [enc_length]; omega)]
    have hd' : b.drop (i + 16) = encs rs ++ tail := by
      rw [← List.drop_drop, hd]; simp only [encs]
      rw [List.append_assoc, List.drop_append_of_le_length (by rw [enc_length]; omega), List.drop_eq_nil_of_le (by rw [enc_length]; omega), List.nil_append]
    have f := g1
    obtain ⟨f1, f2, _⟩ := f
    rw [read_round b hb i k out last (by omega) hl (by simp at hk; omega), hc, one_enc r last g1 g2, if_pos rfl, if_pos (by omega)]
    dsimp only
    rw [ih (i + 16) k (out ++ [r]) r.f0 hd' (by omega) g3 (by simp at hk; omega) (by simp; omega) f2]
    split
    · simp
    · simp; omega

theorem same_l0 (a : List S27) (hl : a.length < 9000000000000000000) (d : Nat) : ∀ i k : Nat, i + d = a.length → d < k → spindlelaw11_SameRels.l0 k a a i = some true := by
  induction d with
  | zero =>
    intro i k hi hk
    obtain ⟨k, rfl⟩ : ∃ m, k = m + 1 := ⟨k - 1, by omega⟩
    simp only [spindlelaw11_SameRels.l0]
    rw [if_neg (by omega)]
  | succ d ih =>
    intro i k hi hk
    obtain ⟨k, rfl⟩ : ∃ m, k = m + 1 := ⟨k - 1, by omega⟩
    simp only [spindlelaw11_SameRels.l0]
    have e : wrap64 ((i : Int) + 1) = ((i + 1 : Nat) : Int) := by rw [w64 _ (by omega) (by omega)]; rfl
    rw [if_pos (by omega), if_pos (by omega), if_pos (by omega), if_neg (by simp), e]
    exact ih (i + 1) k (by omega) (by omega)
theorem same_eq (a : List S27) (hl : a.length < 9000000000000000000) (k : Nat) (hk : a.length < k) : spindlelaw11_SameRels.f k a a = some true := by
  unfold spindlelaw11_SameRels.f
  rw [if_pos rfl]
  exact same_l0 a hl a.length 0 k (by omega) hk

theorem good_take : ∀ (rs : List S27) (l : Int) (n : Nat), Good l rs → Good l (rs.take n)
  | [], _, _, _ => by simp [Good]
  | _ :: _, _, 0, _ => trivial
  | _ :: rs, _, n + 1, ⟨h1, h2, h3⟩ => ⟨h1, h2, good_take rs _ n h3⟩
theorem good_length : ∀ (rs : List S27) (l : Int), Good l rs → -1 ≤ l → l < 65536 → (rs.length : Int) ≤ 65536 - l
  | [], _, _, _, _ => by simp; omega
  | _ :: rs, l, ⟨h1, h2, h3⟩, h4, h5 => by
    have := good_length rs _ h3 (by have := h1.1; omega) h1.2.1
    rw [List.length_cons]; omega
theorem encs_take : ∀ (rs : List S27) (n : Nat), (encs rs).take (16 * n) = encs (rs.take n)
  | [], n => by simp [encs]
  | r :: rs, 0 => by simp [encs]
  | r :: rs, n + 1 => by
    simp only [encs, List.take_succ_cons]
    rw [List.take_append, enc_length, List.take_of_length_le (by rw [enc_length]; omega), show 16 * (n + 1) - 16 = 16 * n from by omega, encs_take rs n]

end Go.Proofs.Ytolhfcefpjfobaa.Facts
