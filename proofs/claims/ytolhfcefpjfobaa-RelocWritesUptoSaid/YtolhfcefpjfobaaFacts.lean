
import Derived.Test.YtolhfcefpjfobaaPRx3
import Derived.Test.YtolhfcefpjfobaaPRx4

import Derived.Laws.BitsAllLaws
import Derived.Laws.Bits64
namespace Go.Proofs.Ytolhfcefpjfobaa.Facts
open Go.RowKit Go.Proofs.Ytolhfcefpjfobaa.PR Go.Proofs.YtolhfcefpjfobaaW.PrintWords Go.Proofs.YtolhfcefpjfobaaW.PrintLast
set_option linter.unusedVariables false
/-! Numbers as bytes, and what package reloc's functions come to. -/

def le : Nat → Int → List Int
  | 0, _ => []
  | n + 1, x => x % 256 :: le n (x / 256)
def num : List Int → Int
  | [] => 0
  | b :: l => b + 256 * num l
def Bytes (l : List Int) : Prop := ∀ b ∈ l, 0 ≤ b ∧ b < 256

theorem le_length (n : Nat) : ∀ x, (le n x).length = n := by
  induction n with
  | zero => intro x; rfl
  | succ n ih => intro x; simp [le, ih]
theorem le_bytes (n : Nat) : ∀ x, Bytes (le n x) := by
  induction n with
  | zero => intro x b hb; cases hb
  | succ n ih =>
    intro x b hb
    rcases List.mem_cons.1 hb with rfl | hb
    · omega
    · exact ih _ b hb
theorem num_le (n : Nat) : ∀ x : Int, 0 ≤ x → x < 256 ^ n → num (le n x) = x := by
  induction n with
  | zero => intro x h0 h1; rw [Int.pow_zero] at h1; simp only [le, num]; omega
  | succ n ih =>
    intro x h0 h1
    rw [Int.pow_succ] at h1
    simp only [le, num]
    rw [ih (x / 256) (by omega) (by omega)]; omega
theorem num_range : ∀ l : List Int, Bytes l → 0 ≤ num l ∧ num l < 256 ^ l.length := by
  intro l
  induction l with
  | nil => intro _; simp [num]
  | cons b l ih =>
    intro h
    obtain ⟨h0, h1⟩ := ih (fun c hc => h c (List.mem_cons_of_mem _ hc))
    have hb := h b List.mem_cons_self
    simp only [num, List.length_cons]
    rw [Int.pow_succ]
    omega
theorem le_num : ∀ l : List Int, Bytes l → le l.length (num l) = l := by
  intro l
  induction l with
  | nil => intro _; rfl
  | cons b l ih =>
    intro h
    have hb := h b List.mem_cons_self
    simp only [num, List.length_cons, le]
    rw [show (b + 256 * num l) % 256 = b from by omega, show (b + 256 * num l) / 256 = num l from by omega, ih (fun c hc => h c (List.mem_cons_of_mem _ hc))]

theorem w64 (n : Int) (h0 : -9223372036854775808 ≤ n) (h1 : n < 9223372036854775808) : wrap64 n = n := by unfold wrap64; omega

/-- a number laid behind a list -/
theorem laid_l0 (n : Nat) : ∀ (out : List Int) (x : Int) (k : Nat), n < k → n < 1000 → out.length + n < 140737488355328 → reloc_laid.l0 k out x n = some (out ++ le n x) := by
  induction n with
  | zero =>
    intro out x k hk _ _
    obtain ⟨k, rfl⟩ : ∃ m, k = m + 1 := ⟨k - 1, by omega⟩
    simp only [reloc_laid.l0]
    rw [if_neg (by omega)]; simp [le]
  | succ n ih =>
    intro out x k hk hn hl
    obtain ⟨k, rfl⟩ : ∃ m, k = m + 1 := ⟨k - 1, by omega⟩
    simp only [reloc_laid.l0]
    have e : wrap64 (((n + 1 : Nat) : Int) - 1) = (n : Int) := by rw [w64 _ (by omega) (by omega)]; omega
    rw [if_pos (by omega), if_pos (by omega), e, ih _ _ k (by omega) (by omega) (by simp; omega)]
    simp [le]
theorem laid8 (out : List Int) (x : Int) (k : Nat) (hk : 10 < k) (hl : out.length + 8 < 140737488355328) : reloc_laid.f k out x 8 = some (out ++ le 8 x) := laid_l0 8 out x k (by omega) (by omega) hl
theorem laid4 (out : List Int) (x : Int) (k : Nat) (hk : 10 < k) (hl : out.length + 4 < 140737488355328) : reloc_laid.f k out x 4 = some (out ++ le 4 x) := laid_l0 4 out x k (by omega) (by omega) hl

theorem u64_or_byte (x b : Int) (h0 : 0 ≤ x) (h1 : x * 256 < 18446744073709551616) (hb0 : 0 ≤ b) (hb1 : b < 256) : Go.bits .or .u64 (IntKind.u64.wrap (x * 256)) (IntKind.u64.wrap b) = x * 256 + b := by
  rw [IntKind.wrap_u64, IntKind.wrap_u64, Int.emod_eq_of_lt (by omega) h1, Int.emod_eq_of_lt (by omega) (by omega)]
  exact bits_join .u64 64 (by decide) (fun n h0 h1 => by rw [IntKind.wrap_u64]; omega) 8 (x * 256) b (by omega) (by rw [show ((2 : Int) ^ 8) = 256 from rfl]; omega) (by omega) hb0 (by rw [show ((2 : Int) ^ 8) = 256 from rfl]; omega) (by omega)

theorem pow256 (n : Nat) (h : n ≤ 8) : (256 : Int) ^ n ≤ 18446744073709551616 := by
  have : n = 0 ∨ n = 1 ∨ n = 2 ∨ n = 3 ∨ n = 4 ∨ n = 5 ∨ n = 6 ∨ n = 7 ∨ n = 8 := by omega
  rcases this with rfl | rfl | rfl | rfl | rfl | rfl | rfl | rfl | rfl <;> decide

theorem rd_at (l : List Int) (j : Nat) (h : j < l.length) : rd l (j : Int) = l[j] := by
  unfold rd
  rw [Int.toNat_natCast, List.getD_eq_getElem?_getD, List.getElem?_eq_getElem h]; rfl

theorem taken_l0 (l : List Int) (hb : Bytes l) (h8 : l.length ≤ 8) (n : Nat) : ∀ k : Nat, n ≤ l.length → n < k → reloc_taken.l0 k l (num (l.drop n)) ((n : Int) - 1) = some (wrap64 (num l)) := by
  induction n with
  | zero =>
    intro k _ hk
    obtain ⟨k, rfl⟩ : ∃ m, k = m + 1 := ⟨k - 1, by omega⟩
    simp only [reloc_taken.l0]
    rw [if_neg (by omega), List.drop_zero]
  | succ n ih =>
    intro k hn hk
    obtain ⟨k, rfl⟩ : ∃ m, k = m + 1 := ⟨k - 1, by omega⟩
    have hx : ((n + 1 : Nat) : Int) - 1 = (n : Int) := by omega
    have hlt : n < l.length := by omega
    have hd : Bytes (l.drop (n + 1)) := fun b h => hb b (List.mem_of_mem_drop h)
    obtain ⟨r0, r1⟩ := num_range _ hd
    have hbn := hb l[n] (List.getElem_mem hlt)
    have hpl : num (l.drop (n + 1)) * 256 < 18446744073709551616 := by
      have e : (l.drop (n + 1)).length = l.length - (n + 1) := by simp
      rw [e] at r1
      have h1 := pow256 (l.length - (n + 1) + 1) (by omega)
      rw [Int.pow_succ] at h1
      omega
    have hs : num (l.drop n) = num (l.drop (n + 1)) * 256 + l[n] := by
      rw [List.drop_eq_getElem_cons hlt]; simp only [num]; omega
    have hi := ih k (by omega) (by omega)
    rw [hx]
    simp only [reloc_taken.l0]
    rw [if_pos (by omega), if_pos (by omega), if_pos (by omega), rd_at l n hlt, u64_or_byte _ _ r0 hpl hbn.1 hbn.2, ← hs, w64 _ (by omega) (by omega)]
    exact hi
theorem taken_eq (l : List Int) (hb : Bytes l) (h8 : l.length ≤ 8) (k : Nat) (hk : 10 < k) : reloc_taken.f k l = some (wrap64 (num l)) := by
  have h := taken_l0 l hb h8 l.length k (Nat.le_refl _) (by omega)
  rw [List.drop_length] at h
  unfold reloc_taken.f
  rw [w64 ((l.length : Int) - 1) (by omega) (by omega)]
  exact h
theorem taken4 (l : List Int) (hb : Bytes l) (h4 : l.length = 4) (k : Nat) (hk : 10 < k) : reloc_taken.f k l = some (num l) ∧ 0 ≤ num l ∧ num l < 4294967296 := by
  obtain ⟨r0, r1⟩ := num_range l hb
  rw [h4, show (256 : Int) ^ 4 = 4294967296 from rfl] at r1
  rw [taken_eq l hb (by omega) k hk, w64 _ (by omega) (by omega)]
  exact ⟨rfl, r0, r1⟩

theorem types1 : reloc_types.f 1 = some 1 := rfl
theorem types2 : reloc_types.f 2 = some 10 := rfl

/-- may a relocation be -/
def Fit (r : S27) : Prop := 0 ≤ r.f0 ∧ r.f0 < 65536 ∧ (r.f1 = 1 ∨ r.f1 = 2) ∧ 1 ≤ r.f2 ∧ r.f2 < 4294967296
instance (r : S27) : Decidable (Fit r) := by unfold Fit; exact inferInstance
def ty (x : Int) : Int := if x = 1 then 1 else 10
def enc (r : S27) : List Int := le 8 (8 * r.f0) ++ (le 4 (ty r.f1) ++ le 4 r.f2)
def encs : List S27 → List Int
  | [] => []
  | r :: rs => enc r ++ encs rs
def Good : Int → List S27 → Prop
  | _, [] => True
  | last, r :: rs => Fit r ∧ last < r.f0 ∧ Good r.f0 rs

theorem enc_length (r : S27) : (enc r).length = 16 := by simp [enc, le_length]
theorem encs_length : ∀ rs : List S27, (encs rs).length = 16 * rs.length := by
  intro rs
  induction rs with
  | nil => rfl
  | cons r rs ih => simp [encs, enc_length, ih]; omega
theorem enc_bytes (r : S27) : Bytes (enc r) := by
  intro b hb
  unfold enc at hb
  rcases List.mem_append.1 hb with h | h
  · exact le_bytes _ _ b h
  · rcases List.mem_append.1 h with h | h
    · exact le_bytes _ _ b h
    · exact le_bytes _ _ b h
theorem encs_append : ∀ a b : List S27, encs (a ++ b) = encs a ++ encs b := by
  intro a b
  induction a with
  | nil => rfl
  | cons r a ih => simp [encs, ih]

theorem rdT_at (l : List S27) (j : Nat) (h : j < l.length) : rd_T27 l (j : Int) = l[j] := by
  unfold rd_T27
  rw [Int.toNat_natCast, List.getD_eq_getElem?_getD, List.getElem?_eq_getElem h]; rfl

/-- one round of Write -/
theorem write_round (xs : List S27) (i k : Nat) (out : List Int) (last : Int) (hi : i < xs.length) (hk : 10 < k) (hl : out.length + 16 < 140737488355328) (hx : xs.length < 140737488355328) :
    reloc_Write.l0 (k + 2) out last xs xs.length i =
      if Fit xs[i] then (if xs[i].f0 ≤ last then some ([], 111) else reloc_Write.l0 k (out ++ enc xs[i]) xs[i].f0 xs xs.length ((i + 1 : Nat) : Int)) else some ([], 110) := by
  have ew : wrap64 ((i : Int) + 1) = ((i + 1 : Nat) : Int) := by rw [w64 _ (by omega) (by omega)]; rfl
  simp only [reloc_Write.l0]
  rw [if_pos (by omega), if_pos (by omega), if_pos (by omega), rdT_at xs i hi]
  generalize xs[i] = r
  by_cases c1 : r.f0 < 0
  · rw [if_pos c1, if_neg (show ¬ Fit r by unfold Fit; omega)]; simp [reloc_Write.j1]
  rw [if_neg c1]
  by_cases c2 : r.f0 ≥ 65536
  · rw [if_pos c2, if_neg (show ¬ Fit r by unfold Fit; omega)]; simp [reloc_Write.j1]
  rw [if_neg c2]
  have c3 : (r.f1 = 1 ∧ reloc_types.f r.f1 = some (ty r.f1) ∧ ty r.f1 = 1) ∨ (r.f1 = 2 ∧ reloc_types.f r.f1 = some (ty r.f1) ∧ ty r.f1 = 10) ∨ ((r.f1 ≠ 1 ∧ r.f1 ≠ 2) ∧ reloc_types.f r.f1 = some 0) := by
    unfold reloc_types.f ty
    by_cases h1 : r.f1 = 1
    · exact .inl ⟨h1, by rw [if_pos h1, if_pos h1], by rw [if_pos h1]⟩
    by_cases h2 : r.f1 = 2
    · exact .inr (.inl ⟨h2, by rw [if_neg h1, if_pos h2, if_neg h1], by rw [if_neg h1]⟩)
    · exact .inr (.inr ⟨⟨h1, h2⟩, by rw [if_neg h1, if_neg h2]⟩)
  have fin : ∀ t : Int, reloc_types.f r.f1 = some t → t = ty r.f1 → (r.f1 = 1 ∨ r.f1 = 2) → ¬ t = 0 →
      ((if r.f2 < 1 then reloc_Write.j1 (k + 1) out last xs xs.length i true r.f0 r.f1 r.f2 else reloc_Write.j1 (k + 1) out last xs xs.length i (decide (r.f2 ≥ 4294967296)) r.f0 r.f1 r.f2) =
        if Fit r then (if r.f0 ≤ last then some ([], 111) else reloc_Write.l0 k (out ++ enc r) r.f0 xs xs.length ((i + 1 : Nat) : Int)) else some ([], 110)) := by
    intro t ht hty hkind hz
    by_cases c4 : r.f2 < 1
    · rw [if_pos c4, if_neg (show ¬ Fit r by unfold Fit; omega)]; simp [reloc_Write.j1]
    rw [if_neg c4]
    by_cases c5 : r.f2 ≥ 4294967296
    · rw [decide_eq_true c5, if_neg (show ¬ Fit r by unfold Fit; omega)]; simp [reloc_Write.j1]
    rw [decide_eq_false c5, if_pos (show Fit r from ⟨by omega, by omega, hkind, by omega, by omega⟩)]
    simp only [reloc_Write.j1]
    rw [if_neg (by decide)]
    by_cases c6 : r.f0 ≤ last
    · rw [if_pos c6, if_pos c6]
    rw [if_neg c6, if_neg c6, w64 _ (by omega) (by omega), laid8 _ _ k hk (by omega), Option.bind_some, ht, Option.bind_some, laid4 _ _ k hk (by simp [le_length]; omega), Option.bind_some,
      laid4 _ _ k hk (by simp [le_length]; omega), Option.bind_some, ew, hty]
    unfold enc
    simp only [List.append_assoc]
  rcases c3 with ⟨h1, h2, h3⟩ | ⟨h1, h2, h3⟩ | ⟨⟨h1, h1'⟩, h2⟩
  · rw [h2, Option.bind_some, if_neg (by omega)]
    exact fin _ h2 rfl (.inl h1) (by omega)
  · rw [h2, Option.bind_some, if_neg (by omega)]
    exact fin _ h2 rfl (.inr h1) (by omega)
  · rw [h2, Option.bind_some, if_pos rfl, if_neg (show ¬ Fit r by unfold Fit; omega)]; simp [reloc_Write.j1]

theorem write_l0 (xs : List S27) (hx : xs.length < 8000000000000) (d : Nat) : ∀ (i k : Nat) (out : List Int) (last : Int), i + d = xs.length → 2 * d + 20 < k → out.length + 16 * d < 140737488355328 →
    (Good last (xs.drop i) → reloc_Write.l0 k out last xs xs.length i = some (out ++ encs (xs.drop i), 0)) ∧
    (¬ Good last (xs.drop i) → ∃ e, reloc_Write.l0 k out last xs xs.length i = some ([], e) ∧ (e = 110 ∨ e = 111)) := by
  induction d with
  | zero =>
    intro i k out last hi hk _
    obtain ⟨k, rfl⟩ : ∃ m, k = m + 1 := ⟨k - 1, by omega⟩
    have hd : xs.drop i = [] := List.drop_eq_nil_of_le (by omega)
    rw [hd]
    refine ⟨fun _ => ?_, fun h => absurd trivial h⟩
    simp only [reloc_Write.l0]
    rw [if_neg (by omega)]; simp [encs]
  | succ d ih =>
    intro i k out last hi hk hl
    obtain ⟨k, rfl⟩ : ∃ m, k = m + 2 := ⟨k - 2, by omega⟩
    have hlt : i < xs.length := by omega
    have hd : xs.drop i = xs[i] :: xs.drop (i + 1) := List.drop_eq_getElem_cons hlt
    obtain ⟨i1, i2⟩ := ih (i + 1) k (out ++ enc xs[i]) xs[i].f0 (by omega) (by omega) (by rw [List.length_append, enc_length]; omega)
    rw [write_round xs i k out last hlt (by omega) (by omega) (by omega), hd]
    simp only [Good, encs]
    refine ⟨fun ⟨g1, g2, g3⟩ => ?_, fun h => ?_⟩
    · rw [if_pos g1, if_neg (by omega), i1 g3, List.append_assoc]
    · by_cases g1 : Fit xs[i]
      · rw [if_pos g1]
        by_cases g2 : xs[i].f0 ≤ last
        · rw [if_pos g2]; exact ⟨111, rfl, .inr rfl⟩
        · rw [if_neg g2]
          exact i2 (fun g3 => h ⟨g1, by omega, g3⟩)
      · rw [if_neg g1]; exact ⟨110, rfl, .inl rfl⟩

theorem write_eq (xs : List S27) (k : Nat) (hx : xs.length < 8000000000000) (hk : 2 * xs.length + 20 < k) :
    (Good (-1) xs → reloc_Write.f k xs = some (encs xs, 0)) ∧ (¬ Good (-1) xs → ∃ e, reloc_Write.f k xs = some ([], e) ∧ (e = 110 ∨ e = 111)) := by
  have h := write_l0 xs hx xs.length 0 k [] (-1) (by omega) hk (by simp; omega)
  rw [List.drop_zero, List.nil_append] at h
  unfold reloc_Write.f
  rw [w64 _ (by omega) (by omega), if_pos (by omega), if_pos (by omega)]
  exact h

end Go.Proofs.Ytolhfcefpjfobaa.Facts
