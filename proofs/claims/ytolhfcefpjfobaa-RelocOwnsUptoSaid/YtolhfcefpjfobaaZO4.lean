/- Parts of the proof, laid together by a program of this session (pack.py): Lend, Lend2, Lend3, Tray, Facts, FactsB, FactsR, FactsW, OkRelocBack. Of the kit's print what the claim does not use is left out. -/
import Derived.Test.YtolhfcefpjfobaaZO3
import Derived.Test.YtolhfcefpjfobaaProg
import Derived.RegionTactic
import Derived.WalkKit
import Derived.KernelRfl
import Derived.Deep.QuietTactic
import Derived.BigQuiet
import Derived.Laws.MakeOwn
import Derived.Laws.OwnMore
import Derived.OwnWalk
import Derived.Deep.LoopGhost
import Derived.Lib.Hide
import Derived.Deep.RegionWith
import Derived.Laws.IdiomCopy
import Derived.Laws.BitsAllLaws
import Derived.Laws.Bits64
section
namespace Go.Proofs.Ytolhfcefpjfobaa.Lend
open Go.RowKit Go.Proofs.YtolhfcefpjfobaaW.PrintWords
set_option linter.unusedVariables false
set_option linter.unusedSimpArgs false
attribute [local go_sem] isSome_setCell
def Blk (w : World) (g : Nat) (t : TypeId) (cs : Array Value) : Prop := w.heap[g]? = some (.cells cs t (0, 0))
section
variable {w w' : World} {g : Nat} {t : TypeId} {cs : Array Value}
theorem Blk.lt (h : Blk w g t cs) : g < w.heap.size := by
  rcases Nat.lt_or_ge g w.heap.size with hlt | hge
  · exact hlt
  · unfold Blk at h; rw [Array.getElem?_eq_none hge] at h; cases h
theorem Blk.cell (h : Blk w g t cs) (i : Nat) : w.cell? ⟨g, i, none⟩ = cs[i]? := by
  unfold Blk at h
  simp [World.cell?, h]
theorem Blk.frozen (h : Blk w g t cs) (i : Nat) : w.frozen? ⟨g, i, none⟩ = false := by
  unfold Blk at h
  simp [World.frozen?, h]
theorem Blk.set_ (h : Blk w g t cs) (i : Nat) (u : Value) : Blk (w.setCell ⟨g, i, none⟩ u) g t (cs.setIfInBounds i u) := by
  unfold Blk at h ⊢
  simp [World.setCell, Array.getElem?_modify, h]
theorem Blk.alloc (h : Blk w g t cs) (o : Obj) : Blk (w.alloc o) g t cs := by
  have hl := h.lt
  unfold Blk at h ⊢
  rw [← h]
  simp only [World.alloc, Array.getElem?_push]
  rw [if_neg (by omega)]
theorem Blk.new (w : World) (t : TypeId) (cs : Array Value) : Blk (w.alloc (.cells cs t)) w.heap.size t cs := heap_alloc_new w _
end
def ints (xs : List Int) : Array Value := (xs.map (Value.int .u8)).toArray
theorem ints_at (xs : List Int) (i : Nat) (h : i < xs.length) : (ints xs)[i]? = some (.int .u8 xs[i]) := by
  simp [ints, h]
theorem ints_set (xs : List Int) (i : Nat) (x : Int) : (ints xs).setIfInBounds i (.int .u8 x) = ints (xs.set i x) := by
  simp [ints, List.map_set]
theorem ints_made (n : Nat) : madeCells (Value.int .u8 0).cells (n * 1) = ints (List.replicate n 0) := by
  apply Array.ext
  · simp [ints, size_madeCells]
  · intro i h1 h2
    simp [ints, madeCells, Value.cells, Nat.mod_one]
/-- only the blocks g and gb may have changed of what was there -/
structure Keeps (w w' : World) (g gb : Nat) : Prop where
  os : w'.os = w.os
  tape : w'.tape = w.tape
  output : w'.output = w.output
  size : w.heap.size ≤ w'.heap.size
  block : ∀ i, i < w.heap.size → i ≠ g → i ≠ gb → w'.heap[i]? = w.heap[i]?
section
variable {w w' : World} {g gb : Nat}
theorem Keeps.refl (w : World) (g gb : Nat) : Keeps w w g gb := ⟨rfl, rfl, rfl, Nat.le_refl _, fun _ _ _ _ => rfl⟩
theorem Keeps.alloc (h : Keeps w w' g gb) (o : Obj) : Keeps w (w'.alloc o) g gb := by
  refine ⟨h.os, h.tape, h.output, by
    have := h.size
    show w.heap.size ≤ (w'.heap.push o).size
    rw [Array.size_push]; omega, fun i hi h1 h2 => ?_⟩
  rw [← h.block i hi h1 h2]
  simp only [World.alloc, Array.getElem?_push]
  rw [if_neg (by have := h.size; omega)]
theorem Keeps.cell (h : Keeps w w' g gb) {p : Addr} {v : Value} (hc : w.cell? p = some v) (h1 : p.block ≠ g) (h2 : p.block ≠ gb) : w'.cell? p = some v := by
  have hl := World.block_lt_of_cell? w p hc
  have := h.block p.block hl h1 h2
  simpa [World.cell?, this] using hc
end
theorem take_set (ys l : List Int) (k : Nat) (x : Int) (hk : k < ys.length) (h : ys.take k = l.take k) (hx : l[k]? = some x) : (ys.set k x).take (k + 1) = l.take (k + 1) := by
  have hl : k < l.length := (List.getElem?_eq_some_iff.1 hx).1
  have hx' : l[k] = x := (List.getElem?_eq_some_iff.1 hx).2
  rw [List.take_succ_eq_append_getElem (by simpa using hk), List.take_succ_eq_append_getElem hl, hx', List.take_set_of_le (Nat.le_refl _), h, List.getElem_set_self]
/-- what is lent, at its cells -/
def Rd (w : World) (A : Option Addr) (a : List Int) : Prop := 0 < a.length → ∃ b off, A = some ⟨b, off, none⟩ ∧ ∀ i (h : i < a.length), w.cell? ⟨b, off + i, none⟩ = some (.int .u8 a[i])
theorem Rd.of_C {w : World} {A : Option Addr} {a : List Int} (h : Kd.C (Kd.int .u8) w A a.length a) : Rd w A a := by
  intro hp
  obtain ⟨ad, e, hc⟩ := h.2.2 hp
  have one : ∀ i (hi : i < a.length), w.cell? (ad.add i) = some (.int .u8 a[i]) := by
    intro i hi
    obtain ⟨c, hs, hr, hcell⟩ := hc i a[i] (List.getElem?_eq_getElem hi)
    have : c = [.int .u8 a[i]] := hr
    subst this
    have := hcell 0 _ rfl
    simpa [Kd.int, Kd.scalar] using this
  have h0 := one 0 hp
  have hs : ad.spot = none := by
    rw [show ad.add 0 = ad from by simp [Addr.add]] at h0
    unfold World.cell? at h0
    split at h0
    · split at h0
      · cases h0
      · rename_i hn; simpa using hn
    · cases h0
  obtain ⟨b, off, sp⟩ := ad
  simp only at hs
  subst hs
  refine ⟨b, off, e, fun i hi => ?_⟩
  have := one i hi
  unfold Addr.add at this
  by_cases hi0 : i = 0
  · subst hi0; simpa using this
  · rw [if_neg hi0] at this; simpa using this
end Go.Proofs.Ytolhfcefpjfobaa.Lend
end
section
namespace Go.Proofs.Ytolhfcefpjfobaa.Lend
open Go.RowKit Go.Proofs.YtolhfcefpjfobaaW.PrintWords
open Go.Proofs.Ytolhfcefpjfobaa.PR
set_option linter.unusedVariables false
theorem Blk.below {w w' : World} {g B : Nat} {t : TypeId} {cs : Array Value} (h : Blk w g t cs) (hb : Below B w w') (hB : g < B) : Blk w' g t cs := (hb.block g hB).trans h
/-- The lender at block g: its buffer, if it has one, lies in a block from B on, below N. -/
def St (B N : Nat) (w : World) (g : Nat) : Prop := g < N ∧ ∃ v n, Blk w g 33 #[v, .int .i64 n] ∧ (v = .slice none 0 0 ∨ ∃ (gb : Nat) (xs : List Int), B ≤ gb ∧ gb < N ∧ g ≠ gb ∧ xs.length < 1099511627776 ∧ v = .slice (some ⟨gb, 0, none⟩) xs.length xs.length ∧ Blk w gb 5 (ints xs))
theorem St.below {B N : Nat} {w w' : World} {g : Nat} (h : St B N w g) (hb : Below w.heap.size w w') : St B N w' g := by
  obtain ⟨hg, v, n, h1, h2⟩ := h
  refine ⟨hg, v, n, h1.below hb h1.lt, ?_⟩
  rcases h2 with h2 | ⟨gb, xs, a1, a2, a3, a4, a5, a6⟩
  · exact .inl h2
  · exact .inr ⟨gb, xs, a1, a2, a3, a4, a5, a6.below hb a6.lt⟩
/-- below B, but for the lender's own block, the world is as it was -/
structure Round (B g : Nat) (w w' : World) : Prop where
  os : w'.os = w.os
  tape : w'.tape = w.tape
  output : w'.output = w.output
  size : w.heap.size ≤ w'.heap.size
  block : ∀ i, i < B → i ≠ g → w'.heap[i]? = w.heap[i]?
theorem Round.refl (B g : Nat) (w : World) : Round B g w w := ⟨rfl, rfl, rfl, Nat.le_refl _, fun _ _ _ => rfl⟩
theorem Round.below {B g : Nat} {w w1 w2 : World} (h : Round B g w w1) (hB : B ≤ w.heap.size) (hb : Below w1.heap.size w1 w2) : Round B g w w2 :=
  ⟨hb.os.trans h.os, hb.tape.trans h.tape, hb.output.trans h.output, Nat.le_trans h.size hb.size, fun i hi hg => (hb.block i (by have := h.size; omega)).trans (h.block i hi hg)⟩
theorem St.mono {B B' N : Nat} {w : World} {g : Nat} (h : St B N w g) (hB : B' ≤ B) : St B' N w g := by
  obtain ⟨hg, v, n, h1, h2⟩ := h
  refine ⟨hg, v, n, h1, ?_⟩
  rcases h2 with h2 | ⟨gb, xs, a1, a2⟩
  · exact .inl h2
  · exact .inr ⟨gb, xs, by omega, a2⟩
end Go.Proofs.Ytolhfcefpjfobaa.Lend
end
section
namespace Go.Proofs.Ytolhfcefpjfobaa.Lend
open Go.RowKit Go.Proofs.YtolhfcefpjfobaaW.PrintWords
open Go.Proofs.Ytolhfcefpjfobaa.PR
set_option linter.unusedVariables false
set_option linter.unusedSimpArgs false
attribute [local go_sem] isSome_setCell
def flat : List S27 → List Value
  | [] => []
  | x :: r => .int .i64 x.f0 :: .int .i64 x.f1 :: .int .i64 x.f2 :: flat r
theorem flat_length : ∀ xs : List S27, (flat xs).length = 3 * xs.length
  | [] => rfl
  | x :: r => by simp only [flat, List.length_cons, flat_length r]; omega
theorem flat_append : ∀ xs ys : List S27, flat (xs ++ ys) = flat xs ++ flat ys
  | [], _ => rfl
  | x :: r, ys => by simp only [List.cons_append, flat, flat_append r ys]
theorem flat_at : ∀ (xs : List S27) (i : Nat) (h : i < xs.length), (flat xs)[3 * i]? = some (.int .i64 xs[i].f0) ∧ (flat xs)[3 * i + 1]? = some (.int .i64 xs[i].f1) ∧ (flat xs)[3 * i + 2]? = some (.int .i64 xs[i].f2)
  | x :: r, 0, _ => ⟨rfl, rfl, rfl⟩
  | x :: r, i + 1, h => by
    have ih := flat_at r i (by simpa using h)
    rw [show 3 * (i + 1) = 3 * i + 1 + 1 + 1 from by omega]
    simp only [flat, List.getElem?_cons_succ, List.getElem_cons_succ]
    exact ih
theorem flat_set : ∀ (xs : List S27) (i : Nat) (y : S27), (((flat xs).set (3 * i) (.int .i64 y.f0)).set (3 * i + 1) (.int .i64 y.f1)).set (3 * i + 2) (.int .i64 y.f2) = flat (xs.set i y)
  | [], i, y => by simp [flat]
  | x :: r, 0, y => rfl
  | x :: r, i + 1, y => by
    have ih := flat_set r i y
    rw [show 3 * (i + 1) = 3 * i + 1 + 1 + 1 from by omega]
    simp only [flat, List.set_cons_succ]
    rw [ih]
section
variable {w : World} {g : Nat} {xs : List S27}
end
theorem take_set27 (ys l : List S27) (k : Nat) (x : S27) (hk : k < ys.length) (h : ys.take k = l.take k) (hx : l[k]? = some x) : (ys.set k x).take (k + 1) = l.take (k + 1) := by
  have hl : k < l.length := (List.getElem?_eq_some_iff.1 hx).1
  have hx' : l[k] = x := (List.getElem?_eq_some_iff.1 hx).2
  rw [List.take_succ_eq_append_getElem (by simpa using hk), List.take_succ_eq_append_getElem hl, hx', List.take_set_of_le (Nat.le_refl _), h, List.getElem_set_self]
theorem Keeps.below {w w1 w2 : World} {g gb : Nat} (h : Keeps w w1 g gb) (hb : Below w1.heap.size w1 w2) : Keeps w w2 g gb :=
  ⟨hb.os.trans h.os, hb.tape.trans h.tape, hb.output.trans h.output, Nat.le_trans h.size hb.size, fun i hi h1 h2 => (hb.block i (by have := h.size; omega)).trans (h.block i hi h1 h2)⟩
end Go.Proofs.Ytolhfcefpjfobaa.Lend
end
section
namespace Go.Proofs.Ytolhfcefpjfobaa.Facts
open Go.RowKit Go.Proofs.Ytolhfcefpjfobaa.PR Go.Proofs.YtolhfcefpjfobaaW.PrintWords Go.Proofs.YtolhfcefpjfobaaW.PrintLast
set_option linter.unusedVariables false
/-! Numbers as bytes, and what package reloc's functions come to. -/

def le : Nat → Int → List Int
  | 0, _ => []
  | n + 1, x => x % 256 :: le n (x / 256)
def num : List Int → Int
  | [] => 0
  | b :: l => b + 256 * num l
def Bytes (l : List Int) : Prop := ∀ b ∈ l, 0 ≤ b ∧ b < 256

theorem le_length (n : Nat) : ∀ x, (le n x).length = n := by
  induction n with
  | zero => intro x; rfl
  | succ n ih => intro x; simp [le, ih]
theorem le_bytes (n : Nat) : ∀ x, Bytes (le n x) := by
  induction n with
  | zero => intro x b hb; cases hb
  | succ n ih =>
    intro x b hb
    rcases List.mem_cons.1 hb with rfl | hb
    · omega
    · exact ih _ b hb
theorem num_le (n : Nat) : ∀ x : Int, 0 ≤ x → x < 256 ^ n → num (le n x) = x := by
  induction n with
  | zero => intro x h0 h1; rw [Int.pow_zero] at h1; simp only [le, num]; omega
  | succ n ih =>
    intro x h0 h1
    rw [Int.pow_succ] at h1
    simp only [le, num]
    rw [ih (x / 256) (by omega) (by omega)]; omega
theorem num_range : ∀ l : List Int, Bytes l → 0 ≤ num l ∧ num l < 256 ^ l.length := by
  intro l
  induction l with
  | nil => intro _; simp [num]
  | cons b l ih =>
    intro h
    obtain ⟨h0, h1⟩ := ih (fun c hc => h c (List.mem_cons_of_mem _ hc))
    have hb := h b List.mem_cons_self
    simp only [num, List.length_cons]
    rw [Int.pow_succ]
    omega
theorem le_num : ∀ l : List Int, Bytes l → le l.length (num l) = l := by
  intro l
  induction l with
  | nil => intro _; rfl
  | cons b l ih =>
    intro h
    have hb := h b List.mem_cons_self
    simp only [num, List.length_cons, le]
    rw [show (b + 256 * num l) % 256 = b from by omega, show (b + 256 * num l) / 256 = num l from by omega, ih (fun c hc => h c (List.mem_cons_of_mem _ hc))]

theorem w64 (n : Int) (h0 : -9223372036854775808 ≤ n) (h1 : n < 9223372036854775808) : wrap64 n = n := by unfold wrap64; omega

/-- a number laid behind a list -/
theorem laid_l0 (n : Nat) : ∀ (out : List Int) (x : Int) (k : Nat), n < k → n < 1000 → out.length + n < 140737488355328 → reloc_laid.l0 k out x n = some (out ++ le n x) := by
  induction n with
  | zero =>
    intro out x k hk _ _
    obtain ⟨k, rfl⟩ : ∃ m, k = m + 1 := ⟨k - 1, by omega⟩
    simp only [reloc_laid.l0]
    rw [if_neg (by omega)]; simp [le]
  | succ n ih =>
    intro out x k hk hn hl
    obtain ⟨k, rfl⟩ : ∃ m, k = m + 1 := ⟨k - 1, by omega⟩
    simp only [reloc_laid.l0]
    have e : wrap64 (((n + 1 : Nat) : Int) - 1) = (n : Int) := by rw [w64 _ (by omega) (by omega)]; omega
    rw [if_pos (by omega), if_pos (by omega), e, ih _ _ k (by omega) (by omega) (by simp; omega)]
    simp [le]
theorem laid8 (out : List Int) (x : Int) (k : Nat) (hk : 10 < k) (hl : out.length + 8 < 140737488355328) : reloc_laid.f k out x 8 = some (out ++ le 8 x) := laid_l0 8 out x k (by omega) (by omega) hl
theorem laid4 (out : List Int) (x : Int) (k : Nat) (hk : 10 < k) (hl : out.length + 4 < 140737488355328) : reloc_laid.f k out x 4 = some (out ++ le 4 x) := laid_l0 4 out x k (by omega) (by omega) hl

theorem u64_or_byte (x b : Int) (h0 : 0 ≤ x) (h1 : x * 256 < 18446744073709551616) (hb0 : 0 ≤ b) (hb1 : b < 256) : Go.bits .or .u64 (IntKind.u64.wrap (x * 256)) (IntKind.u64.wrap b) = x * 256 + b := by
  rw [IntKind.wrap_u64, IntKind.wrap_u64, Int.emod_eq_of_lt (by omega) h1, Int.emod_eq_of_lt (by omega) (by omega)]
  exact bits_join .u64 64 (by decide) (fun n h0 h1 => by rw [IntKind.wrap_u64]; omega) 8 (x * 256) b (by omega) (by rw [show ((2 : Int) ^ 8) = 256 from rfl]; omega) (by omega) hb0 (by rw [show ((2 : Int) ^ 8) = 256 from rfl]; omega) (by omega)

theorem pow256 (n : Nat) (h : n ≤ 8) : (256 : Int) ^ n ≤ 18446744073709551616 := by
  have : n = 0 ∨ n = 1 ∨ n = 2 ∨ n = 3 ∨ n = 4 ∨ n = 5 ∨ n = 6 ∨ n = 7 ∨ n = 8 := by omega
  rcases this with rfl | rfl | rfl | rfl | rfl | rfl | rfl | rfl | rfl <;> decide

theorem rd_at (l : List Int) (j : Nat) (h : j < l.length) : rd l (j : Int) = l[j] := by
  unfold rd
  rw [Int.toNat_natCast, List.getD_eq_getElem?_getD, List.getElem?_eq_getElem h]; rfl

theorem taken_l0 (l : List Int) (hb : Bytes l) (h8 : l.length ≤ 8) (n : Nat) : ∀ k : Nat, n ≤ l.length → n < k → reloc_taken.l0 k l (num (l.drop n)) ((n : Int) - 1) = some (wrap64 (num l)) := by
  induction n with
  | zero =>
    intro k _ hk
    obtain ⟨k, rfl⟩ : ∃ m, k = m + 1 := ⟨k - 1, by omega⟩
    simp only [reloc_taken.l0]
    rw [if_neg (by omega), List.drop_zero]
  | succ n ih =>
    intro k hn hk
    obtain ⟨k, rfl⟩ : ∃ m, k = m + 1 := ⟨k - 1, by omega⟩
    have hx : ((n + 1 : Nat) : Int) - 1 = (n : Int) := by omega
    have hlt : n < l.length := by omega
    have hd : Bytes (l.drop (n + 1)) := fun b h => hb b (List.mem_of_mem_drop h)
    obtain ⟨r0, r1⟩ := num_range _ hd
    have hbn := hb l[n] (List.getElem_mem hlt)
    have hpl : num (l.drop (n + 1)) * 256 < 18446744073709551616 := by
      have e : (l.drop (n + 1)).length = l.length - (n + 1) := by simp
      rw [e] at r1
      have h1 := pow256 (l.length - (n + 1) + 1) (by omega)
      rw [Int.pow_succ] at h1
      omega
    have hs : num (l.drop n) = num (l.drop (n + 1)) * 256 + l[n] := by
      rw [List.drop_eq_getElem_cons hlt]; simp only [num]; omega
    have hi := ih k (by omega) (by omega)
    rw [hx]
    simp only [reloc_taken.l0]
    rw [if_pos (by omega), if_pos (by omega), if_pos (by omega), rd_at l n hlt, u64_or_byte _ _ r0 hpl hbn.1 hbn.2, ← hs, w64 _ (by omega) (by omega)]
    exact hi
theorem taken_eq (l : List Int) (hb : Bytes l) (h8 : l.length ≤ 8) (k : Nat) (hk : 10 < k) : reloc_taken.f k l = some (wrap64 (num l)) := by
  have h := taken_l0 l hb h8 l.length k (Nat.le_refl _) (by omega)
  rw [List.drop_length] at h
  unfold reloc_taken.f
  rw [w64 ((l.length : Int) - 1) (by omega) (by omega)]
  exact h
theorem taken4 (l : List Int) (hb : Bytes l) (h4 : l.length = 4) (k : Nat) (hk : 10 < k) : reloc_taken.f k l = some (num l) ∧ 0 ≤ num l ∧ num l < 4294967296 := by
  obtain ⟨r0, r1⟩ := num_range l hb
  rw [h4, show (256 : Int) ^ 4 = 4294967296 from rfl] at r1
  rw [taken_eq l hb (by omega) k hk, w64 _ (by omega) (by omega)]
  exact ⟨rfl, r0, r1⟩

theorem types1 : reloc_types.f 1 = some 1 := rfl
theorem types2 : reloc_types.f 2 = some 10 := rfl

/-- may a relocation be -/
def Fit (r : S27) : Prop := 0 ≤ r.f0 ∧ r.f0 < 65536 ∧ (r.f1 = 1 ∨ r.f1 = 2) ∧ 1 ≤ r.f2 ∧ r.f2 < 4294967296
instance (r : S27) : Decidable (Fit r) := by unfold Fit; exact inferInstance
def ty (x : Int) : Int := if x = 1 then 1 else 10
def enc (r : S27) : List Int := le 8 (8 * r.f0) ++ (le 4 (ty r.f1) ++ le 4 r.f2)
def encs : List S27 → List Int
  | [] => []
  | r :: rs => enc r ++ encs rs
def Good : Int → List S27 → Prop
  | _, [] => True
  | last, r :: rs => Fit r ∧ last < r.f0 ∧ Good r.f0 rs

theorem enc_length (r : S27) : (enc r).length = 16 := by simp [enc, le_length]
theorem encs_length : ∀ rs : List S27, (encs rs).length = 16 * rs.length := by
  intro rs
  induction rs with
  | nil => rfl
  | cons r rs ih => simp [encs, enc_length, ih]; omega
theorem enc_bytes (r : S27) : Bytes (enc r) := by
  intro b hb
  unfold enc at hb
  rcases List.mem_append.1 hb with h | h
  · exact le_bytes _ _ b h
  · rcases List.mem_append.1 h with h | h
    · exact le_bytes _ _ b h
    · exact le_bytes _ _ b h
theorem encs_append : ∀ a b : List S27, encs (a ++ b) = encs a ++ encs b := by
  intro a b
  induction a with
  | nil => rfl
  | cons r a ih => simp [encs, ih]

theorem rdT_at (l : List S27) (j : Nat) (h : j < l.length) : rd_T27 l (j : Int) = l[j] := by
  unfold rd_T27
  rw [Int.toNat_natCast, List.getD_eq_getElem?_getD, List.getElem?_eq_getElem h]; rfl

/-- one round of Write -/
theorem write_round (xs : List S27) (i k : Nat) (out : List Int) (last : Int) (hi : i < xs.length) (hk : 10 < k) (hl : out.length + 16 < 140737488355328) (hx : xs.length < 140737488355328) :
    reloc_Write.l0 (k + 2) out last xs xs.length i =
      if Fit xs[i] then (if xs[i].f0 ≤ last then some ([], 111) else reloc_Write.l0 k (out ++ enc xs[i]) xs[i].f0 xs xs.length ((i + 1 : Nat) : Int)) else some ([], 110) := by
  have ew : wrap64 ((i : Int) + 1) = ((i + 1 : Nat) : Int) := by rw [w64 _ (by omega) (by omega)]; rfl
  simp only [reloc_Write.l0]
  rw [if_pos (by omega), if_pos (by omega), if_pos (by omega), rdT_at xs i hi]
  generalize xs[i] = r
  by_cases c1 : r.f0 < 0
  · rw [if_pos c1, if_neg (show ¬ Fit r by unfold Fit; omega)]; simp [reloc_Write.j1]
  rw [if_neg c1]
  by_cases c2 : r.f0 ≥ 65536
  · rw [if_pos c2, if_neg (show ¬ Fit r by unfold Fit; omega)]; simp [reloc_Write.j1]
  rw [if_neg c2]
  have c3 : (r.f1 = 1 ∧ reloc_types.f r.f1 = some (ty r.f1) ∧ ty r.f1 = 1) ∨ (r.f1 = 2 ∧ reloc_types.f r.f1 = some (ty r.f1) ∧ ty r.f1 = 10) ∨ ((r.f1 ≠ 1 ∧ r.f1 ≠ 2) ∧ reloc_types.f r.f1 = some 0) := by
    unfold reloc_types.f ty
    by_cases h1 : r.f1 = 1
    · exact .inl ⟨h1, by rw [if_pos h1, if_pos h1], by rw [if_pos h1]⟩
    by_cases h2 : r.f1 = 2
    · exact .inr (.inl ⟨h2, by rw [if_neg h1, if_pos h2, if_neg h1], by rw [if_neg h1]⟩)
    · exact .inr (.inr ⟨⟨h1, h2⟩, by rw [if_neg h1, if_neg h2]⟩)
  have fin : ∀ t : Int, reloc_types.f r.f1 = some t → t = ty r.f1 → (r.f1 = 1 ∨ r.f1 = 2) → ¬ t = 0 →
      ((if r.f2 < 1 then reloc_Write.j1 (k + 1) out last xs xs.length i true r.f0 r.f1 r.f2 else reloc_Write.j1 (k + 1) out last xs xs.length i (decide (r.f2 ≥ 4294967296)) r.f0 r.f1 r.f2) =
        if Fit r then (if r.f0 ≤ last then some ([], 111) else reloc_Write.l0 k (out ++ enc r) r.f0 xs xs.length ((i + 1 : Nat) : Int)) else some ([], 110)) := by
    intro t ht hty hkind hz
    by_cases c4 : r.f2 < 1
    · rw [if_pos c4, if_neg (show ¬ Fit r by unfold Fit; omega)]; simp [reloc_Write.j1]
    rw [if_neg c4]
    by_cases c5 : r.f2 ≥ 4294967296
    · rw [decide_eq_true c5, if_neg (show ¬ Fit r by unfold Fit; omega)]; simp [reloc_Write.j1]
    rw [decide_eq_false c5, if_pos (show Fit r from ⟨by omega, by omega, hkind, by omega, by omega⟩)]
    simp only [reloc_Write.j1]
    rw [if_neg (by decide)]
    by_cases c6 : r.f0 ≤ last
    · rw [if_pos c6, if_pos c6]
    rw [if_neg c6, if_neg c6, w64 _ (by omega) (by omega), laid8 _ _ k hk (by omega), Option.bind_some, ht, Option.bind_some, laid4 _ _ k hk (by simp [le_length]; omega), Option.bind_some,
      laid4 _ _ k hk (by simp [le_length]; omega), Option.bind_some, ew, hty]
    unfold enc
    simp only [List.append_assoc]
  rcases c3 with ⟨h1, h2, h3⟩ | ⟨h1, h2, h3⟩ | ⟨⟨h1, h1'⟩, h2⟩
  · rw [h2, Option.bind_some, if_neg (by omega)]
    exact fin _ h2 rfl (.inl h1) (by omega)
  · rw [h2, Option.bind_some, if_neg (by omega)]
    exact fin _ h2 rfl (.inr h1) (by omega)
  · rw [h2, Option.bind_some, if_pos rfl, if_neg (show ¬ Fit r by unfold Fit; omega)]; simp [reloc_Write.j1]

theorem write_l0 (xs : List S27) (hx : xs.length < 8000000000000) (d : Nat) : ∀ (i k : Nat) (out : List Int) (last : Int), i + d = xs.length → 2 * d + 20 < k → out.length + 16 * d < 140737488355328 →
    (Good last (xs.drop i) → reloc_Write.l0 k out last xs xs.length i = some (out ++ encs (xs.drop i), 0)) ∧
    (¬ Good last (xs.drop i) → ∃ e, reloc_Write.l0 k out last xs xs.length i = some ([], e) ∧ (e = 110 ∨ e = 111)) := by
  induction d with
  | zero =>
    intro i k out last hi hk _
    obtain ⟨k, rfl⟩ : ∃ m, k = m + 1 := ⟨k - 1, by omega⟩
    have hd : xs.drop i = [] := List.drop_eq_nil_of_le (by omega)
    rw [hd]
    refine ⟨fun _ => ?_, fun h => absurd trivial h⟩
    simp only [reloc_Write.l0]
    rw [if_neg (by omega)]; simp [encs]
  | succ d ih =>
    intro i k out last hi hk hl
    obtain ⟨k, rfl⟩ : ∃ m, k = m + 2 := ⟨k - 2, by omega⟩
    have hlt : i < xs.length := by omega
    have hd : xs.drop i = xs[i] :: xs.drop (i + 1) := List.drop_eq_getElem_cons hlt
    obtain ⟨i1, i2⟩ := ih (i + 1) k (out ++ enc xs[i]) xs[i].f0 (by omega) (by omega) (by rw [List.length_append, enc_length]; omega)
    rw [write_round xs i k out last hlt (by omega) (by omega) (by omega), hd]
    simp only [Good, encs]
    refine ⟨fun ⟨g1, g2, g3⟩ => ?_, fun h => ?_⟩
    · rw [if_pos g1, if_neg (by omega), i1 g3, List.append_assoc]
    · by_cases g1 : Fit xs[i]
      · rw [if_pos g1]
        by_cases g2 : xs[i].f0 ≤ last
        · rw [if_pos g2]; exact ⟨111, rfl, .inr rfl⟩
        · rw [if_neg g2]
          exact i2 (fun g3 => h ⟨g1, by omega, g3⟩)
      · rw [if_neg g1]; exact ⟨110, rfl, .inl rfl⟩

theorem write_eq (xs : List S27) (k : Nat) (hx : xs.length < 8000000000000) (hk : 2 * xs.length + 20 < k) :
    (Good (-1) xs → reloc_Write.f k xs = some (encs xs, 0)) ∧ (¬ Good (-1) xs → ∃ e, reloc_Write.f k xs = some ([], e) ∧ (e = 110 ∨ e = 111)) := by
  have h := write_l0 xs hx xs.length 0 k [] (-1) (by omega) hk (by simp; omega)
  rw [List.drop_zero, List.nil_append] at h
  unfold reloc_Write.f
  rw [w64 _ (by omega) (by omega), if_pos (by omega), if_pos (by omega)]
  exact h

end Go.Proofs.Ytolhfcefpjfobaa.Facts
end
section
namespace Go.Proofs.Ytolhfcefpjfobaa.Facts
open Go.RowKit Go.Proofs.Ytolhfcefpjfobaa.PR Go.Proofs.YtolhfcefpjfobaaW.PrintWords Go.Proofs.YtolhfcefpjfobaaW.PrintLast
set_option linter.unusedVariables false
/-! Reading: a relocation out of 16 bytes, and all of them. -/

theorem awake_k (k : Nat) : spindlelaw11_awake.f (k + 40) = some true := by
  have h : spindlelaw11_awake.f 40 = some true := by decide +kernel
  induction k with
  | zero => exact h
  | succ k ih => rw [show k + 1 + 40 = (k + 40) + 1 from by omega]; exact spindlelaw11_awake.mono (k + 40) _ ih

/-- what a reading of 16 bytes comes to -/
def oneS (c : List Int) (last : Int) : Int × Int × Int × Int × Int :=
  if num (c.take 8) ≥ 524288 ∨ num (c.take 8) % 8 ≠ 0 then (0, 0, 0, 0, 110)
  else if num (c.take 8) / 8 ≤ last then (0, 0, 0, 0, 111)
  else if num ((c.take 12).drop 8) = 1 then (if num (c.drop 12) = 0 then (0, 0, 0, 12, 110) else (num (c.take 8) / 8, 1, num (c.drop 12), 0, 0))
  else if num ((c.take 12).drop 8) = 10 then (if num (c.drop 12) = 0 then (0, 0, 0, 12, 110) else (num (c.take 8) / 8, 2, num (c.drop 12), 0, 0))
  else (0, 0, 0, 8, 110)

theorem one_eq (c : List Int) (last : Int) (k : Nat) (hb : Bytes c) (hl : c.length = 16) (hk : 20 < k) : reloc_one.f k c last = some (oneS c last) := by
  obtain ⟨k, rfl⟩ : ∃ m, k = m + 1 := ⟨k - 1, by omega⟩
  have b8 : Bytes (c.take 8) := fun b h => hb b (List.mem_of_mem_take h)
  have b4 : Bytes ((c.take 12).drop 8) := fun b h => hb b (List.mem_of_mem_take (List.mem_of_mem_drop h))
  have b12 : Bytes (c.drop 12) := fun b h => hb b (List.mem_of_mem_drop h)
  obtain ⟨p0, p1⟩ := num_range _ b8
  rw [show (c.take 8).length = 8 from by simp [hl], show (256 : Int) ^ 8 = 18446744073709551616 from rfl] at p1
  obtain ⟨e4, t0, t1⟩ := taken4 _ b4 (by simp [hl]) k (by omega)
  obtain ⟨e12, s0, s1⟩ := taken4 _ b12 (by simp [hl]) k (by omega)
  unfold reloc_one.f oneS
  rw [if_pos (by omega), taken_eq _ b8 (by simp [hl]) (k + 1) (by omega), Option.bind_some]
  simp only [reloc_one.j0, if_true]
  rw [if_pos (show (12 : Int) ≤ c.length by omega), e12, Option.bind_some, if_pos (show (8 : Nat) ≤ 12 by decide), e4, Option.bind_some, types1, Option.bind_some, types2, Option.bind_some]
  generalize num (c.take 8) = p at *
  generalize num ((c.take 12).drop 8) = t at *
  generalize num (c.drop 12) = s at *
  by_cases c1 : p ≥ 9223372036854775808
  · have : wrap64 p < 0 := by unfold wrap64; omega
    rw [if_pos this, if_pos (.inl (by omega))]
  have ep : wrap64 p = p := w64 p (by omega) (by omega)
  rw [ep, if_neg (by omega)]
  by_cases c2 : p ≥ 524288
  · rw [if_pos c2, if_pos (.inl c2)]
  rw [if_neg c2, Int.tmod_eq_emod_of_nonneg p0, Int.tdiv_eq_ediv_of_nonneg p0, w64 (p / 8) (by omega) (by omega)]
  by_cases c3 : p % 8 = 0
  · rw [show (p % 8 != 0) = false from by simp [c3], if_neg (by decide), if_neg (show ¬ (p ≥ 524288 ∨ p % 8 ≠ 0) by omega)]
    by_cases c4 : p / 8 ≤ last
    · rw [if_pos c4, if_pos c4]
    rw [if_neg c4, if_neg c4]
    by_cases c5 : t = 1
    · rw [if_pos c5, if_pos c5]
      by_cases c6 : s = 0
      · rw [if_pos c6, if_pos c6]
      · rw [if_neg c6, if_neg c6]
    rw [if_neg c5, if_neg c5]
    by_cases c6 : t = 10
    · rw [if_pos c6, if_pos c6]
      by_cases c7 : s = 0
      · rw [if_pos c7, if_pos c7]
      · rw [if_neg c7, if_neg c7]
    · rw [if_neg c6, if_neg c6]
  · rw [show (p % 8 != 0) = true from by simpa using c3, if_pos rfl, if_pos (.inr c3)]

/-- one round of Read -/
theorem read_round (b : List Int) (hb : Bytes b) (i k : Nat) (out : List S27) (last : Int) (hi : i + 16 ≤ b.length) (hl : b.length < 9000000000000000000) (hk : 20 < k) :
    reloc_Read.l0 (k + 1) b out last i = if (oneS ((b.drop i).take 16) last).2.2.2.2 = 0 then
        (if out.length < 5864062014805 then reloc_Read.l0 k b (out ++ [⟨(oneS ((b.drop i).take 16) last).1, (oneS ((b.drop i).take 16) last).2.1, (oneS ((b.drop i).take 16) last).2.2.1⟩]) (oneS ((b.drop i).take 16) last).1 ((i + 16 : Nat) : Int) else none)
      else some ([], wrap64 ((i : Int) + (oneS ((b.drop i).take 16) last).2.2.2.1), (oneS ((b.drop i).take 16) last).2.2.2.2) := by
  have e1 : wrap64 ((b.length : Int) - (i : Int)) = (b.length : Int) - i := w64 _ (by omega) (by omega)
  have e2 : wrap64 ((i : Int) + 16) = ((i + 16 : Nat) : Int) := by rw [w64 _ (by omega) (by omega)]; rfl
  have e3 : ((b.take (i + 16)).drop i) = (b.drop i).take 16 := by rw [List.drop_take]; congr 1; omega
  have hc : Bytes ((b.drop i).take 16) := fun x h => hb x (List.mem_of_mem_drop (List.mem_of_mem_take h))
  simp only [reloc_Read.l0]
  rw [e1, e2, if_pos (by omega), if_neg (by omega), if_pos (by omega), if_pos (by omega), if_pos (by omega), Int.toNat_natCast, Int.toNat_natCast, e3, one_eq _ last k hc (by simp; omega) hk, Option.bind_some]

/-- a run of relocations, from a slot to a slot -/
def Run : Int → List S27 → Int → Prop
  | l, [], l' => l = l'
  | l, r :: rs, l' => Fit r ∧ l < r.f0 ∧ Run r.f0 rs l'
theorem Run.good : ∀ (rs : List S27) (l l' : Int), Run l rs l' → Good l rs
  | [], _, _, _ => trivial
  | r :: rs, _, l', ⟨h1, h2, h3⟩ => ⟨h1, h2, Run.good rs r.f0 l' h3⟩
theorem Run.snoc : ∀ (rs : List S27) (l l' : Int) (r : S27), Run l rs l' → Fit r → l' < r.f0 → Run l (rs ++ [r]) r.f0
  | [], _, _, r, h, h1, h2 => by cases h; exact ⟨h1, h2, rfl⟩
  | _ :: rs, _, l', r, ⟨h1, h2, h3⟩, h4, h5 => ⟨h1, h2, Run.snoc rs _ l' r h3 h4 h5⟩
theorem Run.length : ∀ (rs : List S27) (l l' : Int), Run l rs l' → (rs.length : Int) ≤ l' - l
  | [], _, _, h => by cases h; simp
  | _ :: rs, l, l', ⟨h1, h2, h3⟩ => by
    have := Run.length rs _ l' h3
    rw [List.length_cons]; omega

theorem fit_of (c : List Int) (last : Int) (hb : Bytes c) (hl : c.length = 16) (h : (oneS c last).2.2.2.2 = 0) :
    ∃ r : S27, oneS c last = (r.f0, r.f1, r.f2, 0, 0) ∧ Fit r ∧ last < r.f0 ∧ enc r = c := by
  have b8 : Bytes (c.take 8) := fun b h => hb b (List.mem_of_mem_take h)
  have b4 : Bytes ((c.take 12).drop 8) := fun b h => hb b (List.mem_of_mem_take (List.mem_of_mem_drop h))
  have b12 : Bytes (c.drop 12) := fun b h => hb b (List.mem_of_mem_drop h)
  obtain ⟨p0, p1⟩ := num_range _ b8
  obtain ⟨s0, s1⟩ := num_range _ b12
  rw [show (c.drop 12).length = 4 from by simp [hl], show (256 : Int) ^ 4 = 4294967296 from rfl] at s1
  have l8 := le_num _ b8
  have l4 := le_num _ b4
  have l12 := le_num _ b12
  rw [show (c.take 8).length = 8 from by simp [hl]] at l8
  rw [show ((c.take 12).drop 8).length = 4 from by simp [hl]] at l4
  rw [show (c.drop 12).length = 4 from by simp [hl]] at l12
  have hc : c = c.take 8 ++ ((c.take 12).drop 8 ++ c.drop 12) := by
    have h1 := List.take_append_drop 12 c
    have h2 := List.take_append_drop 8 (c.take 12)
    rw [List.take_take, Nat.min_eq_left (by omega)] at h2
    rw [← List.append_assoc, h2, h1]
  unfold oneS at h ⊢
  by_cases c1 : num (c.take 8) ≥ 524288 ∨ num (c.take 8) % 8 ≠ 0
  · rw [if_pos c1] at h; simp at h
  rw [if_neg c1] at h ⊢
  by_cases c2 : num (c.take 8) / 8 ≤ last
  · rw [if_pos c2] at h; simp at h
  rw [if_neg c2] at h ⊢
  by_cases c3 : num ((c.take 12).drop 8) = 1
  · rw [if_pos c3] at h ⊢
    by_cases c4 : num (c.drop 12) = 0
    · rw [if_pos c4] at h; simp at h
    · rw [if_neg c4]
      refine ⟨⟨num (c.take 8) / 8, 1, num (c.drop 12)⟩, rfl, ⟨by dsimp only; omega, by dsimp only; omega, .inl rfl, by dsimp only; omega, s1⟩, by dsimp only; omega, ?_⟩
      unfold enc ty
      dsimp only
      rw [if_pos rfl, show 8 * (num (c.take 8) / 8) = num (c.take 8) from by omega, l8, ← c3, l4, l12]
      exact hc.symm
  rw [if_neg c3] at h ⊢
  by_cases c4 : num ((c.take 12).drop 8) = 10
  · rw [if_pos c4] at h ⊢
    by_cases c5 : num (c.drop 12) = 0
    · rw [if_pos c5] at h; simp at h
    · rw [if_neg c5]
      refine ⟨⟨num (c.take 8) / 8, 2, num (c.drop 12)⟩, rfl, ⟨by dsimp only; omega, by dsimp only; omega, .inr rfl, by dsimp only; omega, s1⟩, by dsimp only; omega, ?_⟩
      unfold enc ty
      dsimp only
      rw [if_neg (by decide), show 8 * (num (c.take 8) / 8) = num (c.take 8) from by omega, l8, ← c4, l4, l12]
      exact hc.symm
  · rw [if_neg c4] at h; simp at h

/-- the bytes of a relocation read as it -/
theorem one_enc (r : S27) (last : Int) (h : Fit r) (hl : last < r.f0) : oneS (enc r) last = (r.f0, r.f1, r.f2, 0, 0) := by
  obtain ⟨h1, h2, h3, h4, h5⟩ := h
  have e8 : (enc r).take 8 = le 8 (8 * r.f0) := by
    unfold enc; rw [List.take_append_of_le_length (by rw [le_length]; omega), List.take_of_length_le (by rw [le_length]; omega)]
  have e12 : (enc r).drop 12 = le 4 r.f2 := by
    unfold enc
    rw [← List.append_assoc, List.drop_append_of_le_length (by simp [le_length]), List.drop_eq_nil_of_le (by simp [le_length]), List.nil_append]
  have e4 : ((enc r).take 12).drop 8 = le 4 (ty r.f1) := by
    unfold enc
    rw [← List.append_assoc, List.take_append_of_le_length (by simp [le_length]), List.take_of_length_le (by simp [le_length]), List.drop_append_of_le_length (by rw [le_length]; omega), List.drop_eq_nil_of_le (by rw [le_length]; omega), List.nil_append]
  have n8 : num (le 8 (8 * r.f0)) = 8 * r.f0 := num_le 8 _ (by omega) (by rw [show (256 : Int) ^ 8 = 18446744073709551616 from rfl]; omega)
  have n12 : num (le 4 r.f2) = r.f2 := num_le 4 _ (by omega) (by rw [show (256 : Int) ^ 4 = 4294967296 from rfl]; omega)
  have n4 : num (le 4 (ty r.f1)) = ty r.f1 := num_le 4 _ (by unfold ty; split <;> omega) (by rw [show (256 : Int) ^ 4 = 4294967296 from rfl]; unfold ty; split <;> omega)
  unfold oneS
  rw [e8, e12, e4, n8, n12, n4, if_neg (show ¬ (8 * r.f0 ≥ 524288 ∨ 8 * r.f0 % 8 ≠ 0) by omega), if_neg (show ¬ 8 * r.f0 / 8 ≤ last by omega)]
  unfold ty
  rcases h3 with h3 | h3
  · rw [h3, if_pos rfl, if_pos rfl, if_neg (by omega)]
    rw [show 8 * r.f0 / 8 = r.f0 from by omega]
  · rw [h3, show (if (2 : Int) = 1 then (1 : Int) else 10) = 10 from by decide, if_neg (by decide), if_pos rfl, if_neg (by omega)]
    rw [show 8 * r.f0 / 8 = r.f0 from by omega]

/-- what a refusal says -/
theorem one_bad (c : List Int) (last : Int) (h : (oneS c last).2.2.2.2 ≠ 0) :
    ((oneS c last).2.2.2.2 = 110 ∧ ((oneS c last).2.2.2.1 = 0 ∨ (oneS c last).2.2.2.1 = 8 ∨ (oneS c last).2.2.2.1 = 12)) ∨ ((oneS c last).2.2.2.2 = 111 ∧ (oneS c last).2.2.2.1 = 0 ∧ num (c.take 8) / 8 ≤ last) := by
  unfold oneS at h ⊢
  by_cases c1 : num (c.take 8) ≥ 524288 ∨ num (c.take 8) % 8 ≠ 0
  · rw [if_pos c1]; exact .inl ⟨rfl, .inl rfl⟩
  rw [if_neg c1] at h ⊢
  by_cases c2 : num (c.take 8) / 8 ≤ last
  · rw [if_pos c2]; exact .inr ⟨rfl, rfl, c2⟩
  rw [if_neg c2] at h ⊢
  by_cases c3 : num ((c.take 12).drop 8) = 1
  · rw [if_pos c3] at h ⊢
    by_cases c4 : num (c.drop 12) = 0
    · rw [if_pos c4]; exact .inl ⟨rfl, .inr (.inr rfl)⟩
    · rw [if_neg c4] at h; exact absurd rfl h
  rw [if_neg c3] at h ⊢
  by_cases c4 : num ((c.take 12).drop 8) = 10
  · rw [if_pos c4] at h ⊢
    by_cases c5 : num (c.drop 12) = 0
    · rw [if_pos c5]; exact .inl ⟨rfl, .inr (.inr rfl)⟩
    · rw [if_neg c5] at h; exact absurd rfl h
  · rw [if_neg c4]; exact .inl ⟨rfl, .inr (.inl rfl)⟩

/-- what Read answers: the relocations whose bytes these are, or a place and an error -/
def Answer (b : List Int) (x : List S27 × Int × Int) : Prop :=
  (x.2.2 = 0 ∧ x.2.1 = 0 ∧ Good (-1) x.1 ∧ encs x.1 = b) ∨
  (x.1 = [] ∧ 0 ≤ x.2.1 ∧ x.2.1 < b.length ∧ x.2.1 % 4 = 0 ∧ (x.2.2 = 110 ∨ (x.2.2 = 111 ∧ x.2.1 % 16 = 0 ∧ 0 < x.2.1)))

theorem read_l0 (b : List Int) (hb : Bytes b) (hl : b.length < 9000000000000000000) (d : Nat) : ∀ (i k : Nat) (out : List S27) (last : Int), b.length < i + 16 * d → d + 20 < k → i ≤ b.length + 15 → Run (-1) out last → 16 * out.length = i → (i ≤ b.length → encs out = b.take i) → last < 65536 →
    ∃ x, reloc_Read.l0 k b out last i = some x ∧ (i ≤ b.length → Answer b x) := by
  induction d with
  | zero =>
    intro i k out last hi hk hib hr ho he hla
    obtain ⟨k, rfl⟩ : ∃ m, k = m + 1 := ⟨k - 1, by omega⟩
    refine ⟨(out, 0, 0), ?_, fun h => absurd h (by omega)⟩
    simp only [reloc_Read.l0]
    rw [if_neg (by omega)]
  | succ d ih =>
    intro i k out last hi hk hib hr ho he hla
    obtain ⟨k, rfl⟩ : ∃ m, k = m + 1 := ⟨k - 1, by omega⟩
    by_cases h1 : i < b.length
    · by_cases h2 : i + 16 ≤ b.length
      · have hc : Bytes ((b.drop i).take 16) := fun x h => hb x (List.mem_of_mem_drop (List.mem_of_mem_take h))
        have hcl : ((b.drop i).take 16).length = 16 := by simp; omega
        rw [read_round b hb i k out last h2 hl (by omega)]
        by_cases h3 : (oneS ((b.drop i).take 16) last).2.2.2.2 = 0
        · obtain ⟨r, e, f1, f2, f3⟩ := fit_of _ last hc hcl h3
          have hlen := Run.length out _ _ hr
          rw [if_pos h3, if_pos (by omega), e]
          dsimp only
          obtain ⟨x, hx, ha⟩ := ih (i + 16) k (out ++ [r]) r.f0 (by omega) (by omega) (by omega) (Run.snoc out _ _ r hr f1 f2) (by simp; omega) (fun _ => by
            rw [encs_append, he (by omega)]
            simp only [encs, List.append_nil]
            rw [f3, ← List.take_add]) f1.2.1
          exact ⟨x, hx, fun _ => ha h2⟩
        · rw [if_neg h3]
          refine ⟨_, rfl, fun _ => .inr ⟨rfl, ?_⟩⟩
          dsimp only
          rcases one_bad _ last h3 with ⟨e1, e2⟩ | ⟨e1, e2, e3⟩
          · rw [e1]
            rw [w64 _ (by omega) (by omega)]
            omega
          · rw [e1, e2, w64 _ (by omega) (by omega)]
            have hp : 0 < i := by
              rcases Nat.eq_zero_or_pos i with h0 | h0
              · exfalso
                have h8 : Bytes (((b.drop i).take 16).take 8) := fun x h => hc x (List.mem_of_mem_take h)
                have := (num_range _ h8).1
                have hn : out = [] := List.eq_nil_of_length_eq_zero (by omega)
                subst hn
                have : (-1 : Int) = last := hr
                omega
              · exact h0
            omega
      · refine ⟨([], (i : Int), 110), ?_, fun _ => .inr ⟨rfl, by dsimp only; omega, by dsimp only; omega, by dsimp only; omega, .inl rfl⟩⟩
        simp only [reloc_Read.l0]
        rw [if_pos (by omega), w64 _ (by omega) (by omega), if_pos (by omega)]
    · refine ⟨(out, 0, 0), ?_, fun h => .inl ⟨rfl, rfl, Run.good out _ _ hr, ?_⟩⟩
      · simp only [reloc_Read.l0]
        rw [if_neg (by omega)]
      · dsimp only
        rw [he h, List.take_of_length_le (by omega)]

theorem read_eq (b : List Int) (hb : Bytes b) (hl : b.length < 9000000000000000000) (k : Nat) (hk : b.length + 30 < k) : ∃ x, reloc_Read.f k b = some x ∧ Answer b x := by
  obtain ⟨x, hx, ha⟩ := read_l0 b hb hl (b.length + 1) 0 k [] (-1) (by omega) (by omega) (by omega) rfl rfl (fun _ => rfl) (by omega)
  exact ⟨x, hx, ha (by omega)⟩

/-- Read of what Write gives, and of its beginnings: 'tail' is a part of a relocation -/
theorem read_encs (b : List Int) (hb : Bytes b) (hl : b.length < 9000000000000000000) (tail : List Int) (ht : tail.length < 16) : ∀ (rs : List S27) (i k : Nat) (out : List S27) (last : Int),
    b.drop i = encs rs ++ tail → i ≤ b.length → Good last rs → rs.length + 25 < k → (out.length : Int) ≤ last + 1 → last < 65536 →
    reloc_Read.l0 k b out last i = some (if tail = [] then (out ++ rs, 0, 0) else ([], (i : Int) + 16 * rs.length, 110)) := by
  intro rs
  induction rs with
  | nil =>
    intro i k out last hd hi _ hk _ _
    obtain ⟨k, rfl⟩ : ∃ m, k = m + 1 := ⟨k - 1, by omega⟩
    have hlen : b.length - i = tail.length := by
      have := congrArg List.length hd
      simpa [encs] using this
    simp only [reloc_Read.l0]
    by_cases h : tail = []
    · subst h
      rw [if_neg (by simp at hlen; omega)]; simp
    · have hp : 0 < tail.length := List.length_pos_iff.2 h
      rw [if_pos (by omega), w64 _ (by omega) (by omega), if_pos (by omega), if_neg h]; simp
  | cons r rs ih =>
    intro i k out last hd hi hg hk ho hla
    obtain ⟨k, rfl⟩ : ∃ m, k = m + 1 := ⟨k - 1, by omega⟩
    obtain ⟨g1, g2, g3⟩ := hg
    have hlen : b.length - i = 16 + (encs rs).length + tail.length := by
      have := congrArg List.length hd
      simp [encs, enc_length] at this
      omega
    have hc : (b.drop i).take 16 = enc r := by
      rw [hd]; simp only [encs]
      rw [List.append_assoc, List.take_append_of_le_length (by rw [enc_length]; omega), List.take_of_length_le (by rw [enc_length]; omega)]
    have hd' : b.drop (i + 16) = encs rs ++ tail := by
      rw [← List.drop_drop, hd]; simp only [encs]
      rw [List.append_assoc, List.drop_append_of_le_length (by rw [enc_length]; omega), List.drop_eq_nil_of_le (by rw [enc_length]; omega), List.nil_append]
    have f := g1
    obtain ⟨f1, f2, _⟩ := f
    rw [read_round b hb i k out last (by omega) hl (by simp at hk; omega), hc, one_enc r last g1 g2, if_pos rfl, if_pos (by omega)]
    dsimp only
    rw [ih (i + 16) k (out ++ [r]) r.f0 hd' (by omega) g3 (by simp at hk; omega) (by simp; omega) f2]
    split
    · simp
    · simp; omega

theorem same_l0 (a : List S27) (hl : a.length < 9000000000000000000) (d : Nat) : ∀ i k : Nat, i + d = a.length → d < k → spindlelaw11_SameRels.l0 k a a i = some true := by
  induction d with
  | zero =>
    intro i k hi hk
    obtain ⟨k, rfl⟩ : ∃ m, k = m + 1 := ⟨k - 1, by omega⟩
    simp only [spindlelaw11_SameRels.l0]
    rw [if_neg (by omega)]
  | succ d ih =>
    intro i k hi hk
    obtain ⟨k, rfl⟩ : ∃ m, k = m + 1 := ⟨k - 1, by omega⟩
    simp only [spindlelaw11_SameRels.l0]
    have e : wrap64 ((i : Int) + 1) = ((i + 1 : Nat) : Int) := by rw [w64 _ (by omega) (by omega)]; rfl
    rw [if_pos (by omega), if_pos (by omega), if_pos (by omega), if_neg (by simp), e]
    exact ih (i + 1) k (by omega) (by omega)
theorem same_eq (a : List S27) (hl : a.length < 9000000000000000000) (k : Nat) (hk : a.length < k) : spindlelaw11_SameRels.f k a a = some true := by
  unfold spindlelaw11_SameRels.f
  rw [if_pos rfl]
  exact same_l0 a hl a.length 0 k (by omega) hk

theorem good_take : ∀ (rs : List S27) (l : Int) (n : Nat), Good l rs → Good l (rs.take n)
  | [], _, _, _ => by simp [Good]
  | _ :: _, _, 0, _ => trivial
  | _ :: rs, _, n + 1, ⟨h1, h2, h3⟩ => ⟨h1, h2, good_take rs _ n h3⟩
theorem good_length : ∀ (rs : List S27) (l : Int), Good l rs → -1 ≤ l → l < 65536 → (rs.length : Int) ≤ 65536 - l
  | [], _, _, _, _ => by simp; omega
  | _ :: rs, l, ⟨h1, h2, h3⟩, h4, h5 => by
    have := good_length rs _ h3 (by have := h1.1; omega) h1.2.1
    rw [List.length_cons]; omega
theorem encs_take : ∀ (rs : List S27) (n : Nat), (encs rs).take (16 * n) = encs (rs.take n)
  | [], n => by simp [encs]
  | r :: rs, 0 => by simp [encs]
  | r :: rs, n + 1 => by
    simp only [encs, List.take_succ_cons]
    rw [List.take_append, enc_length, List.take_of_length_le (by rw [enc_length]; omega), show 16 * (n + 1) - 16 = 16 * n from by omega, encs_take rs n]

end Go.Proofs.Ytolhfcefpjfobaa.Facts
end
section
namespace Go.Proofs.Ytolhfcefpjfobaa.Facts
open Go.RowKit Go.Proofs.Ytolhfcefpjfobaa.PR Go.Proofs.YtolhfcefpjfobaaW.PrintWords Go.Proofs.YtolhfcefpjfobaaW.PrintLast
set_option linter.unusedVariables false
/-! The document's Read answers as the package's does. -/

theorem num_drop_le (l : List Int) (hb : Bytes l) (n : Nat) : num (l.drop n) ≤ num l := by
  induction n with
  | zero => rw [List.drop_zero]; omega
  | succ n ih =>
    by_cases h : n < l.length
    · have hd : Bytes (l.drop (n + 1)) := fun b h => hb b (List.mem_of_mem_drop h)
      have h0 := (num_range _ hd).1
      have hbn := hb l[n] (List.getElem_mem h)
      rw [List.drop_eq_getElem_cons h] at ih
      simp only [num] at ih
      omega
    · rw [List.drop_of_length_le (by omega)]
      exact (num_range _ hb).1

theorem rtaken_l0 (l : List Int) (hb : Bytes l) (hv : num l < 9223372036854775808) (n : Nat) : ∀ k : Nat, n ≤ l.length → n < k → n ≤ 1000 → spindleref11_taken.l0 k l (num (l.drop n)) ((n : Int) - 1) = some (num l) := by
  induction n with
  | zero =>
    intro k _ hk _
    obtain ⟨k, rfl⟩ : ∃ m, k = m + 1 := ⟨k - 1, by omega⟩
    simp only [spindleref11_taken.l0]
    rw [if_neg (by omega), List.drop_zero]
  | succ n ih =>
    intro k hn hk h8
    obtain ⟨k, rfl⟩ : ∃ m, k = m + 1 := ⟨k - 1, by omega⟩
    have hx : ((n + 1 : Nat) : Int) - 1 = (n : Int) := by omega
    have hlt : n < l.length := by omega
    have hd : Bytes (l.drop (n + 1)) := fun b h => hb b (List.mem_of_mem_drop h)
    have r0 := (num_range _ hd).1
    have hbn := hb l[n] (List.getElem_mem hlt)
    have hs : num (l.drop n) = num (l.drop (n + 1)) * 256 + l[n] := by
      rw [List.drop_eq_getElem_cons hlt]; simp only [num]; omega
    have hle := num_drop_le l hb n
    have hi := ih k (by omega) (by omega) (by omega)
    rw [hx]
    simp only [spindleref11_taken.l0]
    rw [if_pos (by omega), if_pos (by omega), if_pos (by omega), rd_at l n hlt, w64 (num (l.drop (n + 1)) * 256) (by omega) (by omega), w64 l[n] (by omega) (by omega), ← hs, w64 (num (l.drop n)) (by omega) (by omega), w64 _ (by omega) (by omega)]
    exact hi
theorem rtaken_j0 (l : List Int) (hb : Bytes l) (hv : num l < 9223372036854775808) (k : Nat) (hk : 12 < k) (hl : l.length ≤ 8) : spindleref11_taken.j0 k l 0 false = some (num l) := by
  obtain ⟨k, rfl⟩ : ∃ m, k = m + 1 := ⟨k - 1, by omega⟩
  have h := rtaken_l0 l hb hv l.length k (Nat.le_refl _) (by omega) (by omega)
  rw [List.drop_length] at h
  simp only [spindleref11_taken.j0]
  rw [if_neg (by decide), w64 ((l.length : Int) - 1) (by omega) (by omega)]
  exact h
theorem rtaken4 (l : List Int) (hb : Bytes l) (h4 : l.length = 4) (k : Nat) (hk : 20 < k) : spindleref11_taken.f k l = some (num l) := by
  obtain ⟨r0, r1⟩ := num_range l hb
  rw [h4, show (256 : Int) ^ 4 = 4294967296 from rfl] at r1
  unfold spindleref11_taken.f
  rw [if_neg (by omega)]
  exact rtaken_j0 l hb (by omega) k (by omega) (by omega)
theorem rtaken8 (l : List Int) (hb : Bytes l) (h8 : l.length = 8) (k : Nat) (hk : 20 < k) : spindleref11_taken.f k l = some (if num l ≥ 9223372036854775808 then 9223372036854775807 else num l) := by
  obtain ⟨k, rfl⟩ : ∃ m, k = m + 1 := ⟨k - 1, by omega⟩
  have hr : rd l 7 ≥ 128 ↔ num l ≥ 9223372036854775808 := by
    match l, h8 with
    | [a, b, c, d, e, f, g, h], _ =>
      have ha := hb a (by simp)
      have hb' := hb b (by simp)
      have hc := hb c (by simp)
      have hd := hb d (by simp)
      have he := hb e (by simp)
      have hf := hb f (by simp)
      have hg := hb g (by simp)
      have hh := hb h (by simp)
      simp only [num]
      rw [show rd [a, b, c, d, e, f, g, h] 7 = h from rfl]
      omega
  unfold spindleref11_taken.f
  rw [if_pos (by omega), if_pos (by omega)]
  by_cases hc : rd l 7 ≥ 128
  · rw [decide_eq_true hc, if_pos (hr.1 hc)]
    simp only [spindleref11_taken.j0]
    rw [if_pos trivial]
  · rw [decide_eq_false hc, if_neg (fun h => hc (hr.2 h))]
    exact rtaken_j0 l hb (by have := mt hr.2 hc; omega) (k + 1) (by omega) (by omega)

/-- one round of the document's Read -/
theorem ref_round (b : List Int) (hb : Bytes b) (i k : Nat) (out : List S27) (last last8 : Int) (hi : i + 16 ≤ b.length) (hl : b.length < 1000000000) (hk : 30 < k) (hrel : (last8 = -1 ∧ last = -1) ∨ (0 ≤ last ∧ last8 = 8 * last)) (ho : out.length < 5864062014805) :
    spindleref11_Read.l0 (k + 3) b out last8 i = if (oneS ((b.drop i).take 16) last).2.2.2.2 = 0 then
        spindleref11_Read.l0 k b (out ++ [⟨(oneS ((b.drop i).take 16) last).1, (oneS ((b.drop i).take 16) last).2.1, (oneS ((b.drop i).take 16) last).2.2.1⟩]) (8 * (oneS ((b.drop i).take 16) last).1) ((i + 16 : Nat) : Int)
      else some ([], wrap64 ((i : Int) + (oneS ((b.drop i).take 16) last).2.2.2.1), (oneS ((b.drop i).take 16) last).2.2.2.2) := by
  have e8 : wrap64 ((i : Int) + 8) = ((i + 8 : Nat) : Int) := by rw [w64 _ (by omega) (by omega)]; rfl
  have e12 : wrap64 ((i : Int) + 12) = ((i + 12 : Nat) : Int) := by rw [w64 _ (by omega) (by omega)]; rfl
  have e16 : wrap64 ((i : Int) + 16) = ((i + 16 : Nat) : Int) := by rw [w64 _ (by omega) (by omega)]; rfl
  have s8 : (b.take (i + 8)).drop i = ((b.drop i).take 16).take 8 := by
    rw [List.take_take, List.drop_take]; congr 1; omega
  have s12 : (b.take (i + 12)).drop (i + 8) = (((b.drop i).take 16).take 12).drop 8 := by
    rw [List.take_take, List.drop_take, List.drop_take, List.drop_drop]; congr 1; omega
  have s16 : (b.take (i + 16)).drop (i + 12) = ((b.drop i).take 16).drop 12 := by
    rw [List.drop_take, List.drop_take, List.drop_drop]; congr 1; omega
  obtain ⟨c, hc0⟩ : ∃ c, c = (b.drop i).take 16 := ⟨_, rfl⟩
  have hc : Bytes c := fun x h => by rw [hc0] at h; exact hb x (List.mem_of_mem_drop (List.mem_of_mem_take h))
  have hcl : c.length = 16 := by rw [hc0]; simp; omega
  rw [← hc0] at s8 s12 s16 ⊢
  have b8 : Bytes (c.take 8) := fun x h => hc x (List.mem_of_mem_take h)
  have b4 : Bytes ((c.take 12).drop 8) := fun x h => hc x (List.mem_of_mem_take (List.mem_of_mem_drop h))
  have b12 : Bytes (c.drop 12) := fun x h => hc x (List.mem_of_mem_drop h)
  have t8 := rtaken8 (c.take 8) b8 (by simp [hcl]) (k + 2) (by omega)
  have t4 := rtaken4 ((c.take 12).drop 8) b4 (by simp [hcl]) (k + 2) (by omega)
  have t12 := rtaken4 (c.drop 12) b12 (by simp [hcl]) (k + 2) (by omega)
  obtain ⟨p0, p1⟩ := num_range _ b8
  unfold oneS
  obtain ⟨p, hp⟩ : ∃ p, p = num (c.take 8) := ⟨_, rfl⟩
  obtain ⟨t, ht⟩ : ∃ t, t = num ((c.take 12).drop 8) := ⟨_, rfl⟩
  obtain ⟨s, hs⟩ : ∃ s, s = num (c.drop 12) := ⟨_, rfl⟩
  rw [← hp] at t8 p0 p1
  rw [← ht] at t4
  rw [← hs] at t12
  rw [← hp, ← ht, ← hs]
  rw [show k + 3 = (k + 2) + 1 from rfl]
  simp only [spindleref11_Read.l0]
  rw [e8, e12, e16, if_pos (by omega), if_neg (by omega), if_pos (by omega), if_pos (by omega), if_pos (by omega)]
  simp only [Int.toNat_natCast]
  rw [s8, s12, s16, t8, Option.bind_some, if_pos (by omega), if_pos (by omega), if_pos (by omega), t4, Option.bind_some, if_pos (by omega), if_pos (by omega), if_pos (by omega), t12, Option.bind_some]
  have w0 : wrap64 ((i : Int) + 0) = (i : Int) := by rw [w64 _ (by omega) (by omega)]; omega
  by_cases c1 : p ≥ 524288 ∨ p % 8 ≠ 0
  · have hbad : ∀ q : Int, (q ≥ 524288 ∨ Int.tmod q 8 ≠ 0) → (if Int.tmod q 8 = 0 then spindleref11_Read.j1 (k + 2) b out last8 (i : Int) q t s (decide (q ≥ 524288)) else spindleref11_Read.j1 (k + 2) b out last8 (i : Int) q t s true) = some ([], (i : Int), 110) := by
      intro q hq
      have e : spindleref11_Read.j1 (k + 2) b out last8 (i : Int) q t s true = some ([], (i : Int), 110) := by
        simp only [spindleref11_Read.j1]
        rw [if_pos trivial]
      split
      · rename_i h
        rw [decide_eq_true (show q ≥ 524288 by rcases hq with hq | hq; exact hq; exact absurd h hq)]
        exact e
      · exact e
    rw [hbad _ (by
      split
      · exact .inl (by omega)
      · rcases c1 with c1 | c1
        · exact .inl c1
        · refine .inr ?_
          rw [Int.tmod_eq_emod_of_nonneg p0]; exact c1)]
    rw [if_pos c1]
    dsimp only
    rw [if_neg (by decide), w0]
  · have c2 : p < 524288 ∧ p % 8 = 0 := by omega
    obtain ⟨c2, c3⟩ := c2
    rw [if_neg c1, if_neg (show ¬ p ≥ 9223372036854775808 by omega), if_pos (by rw [Int.tmod_eq_emod_of_nonneg p0]; exact c3), decide_eq_false (show ¬ p ≥ 524288 by omega)]
    simp only [spindleref11_Read.j1]
    rw [if_neg (by decide)]
    by_cases c4 : p / 8 ≤ last
    · rw [if_pos c4, if_pos (by omega)]
      dsimp only
      rw [if_neg (by decide), w0]
    · rw [if_neg c4, if_neg (by omega)]
      have ed : wrap64 (Int.tdiv p 8) = p / 8 := by rw [Int.tdiv_eq_ediv_of_nonneg p0]; exact w64 _ (by omega) (by omega)
      have e88 : 8 * (p / 8) = p := by omega
      by_cases c5 : t = 1
      · rw [if_pos c5, if_pos c5]
        simp only [spindleref11_Read.j2]
        rw [if_neg (by decide)]
        by_cases c6 : s = 0
        · rw [if_pos c6, if_pos c6]
          dsimp only
          rw [if_neg (by decide)]
        · rw [if_neg c6, if_neg c6, if_neg (by omega), if_pos ho, ed, e16]
          dsimp only
          rw [if_pos rfl, e88]
      · rw [if_neg c5, if_neg c5]
        simp only [spindleref11_Read.j2]
        by_cases c7 : t = 10
        · rw [if_pos c7, if_neg (by simp [c7])]
          by_cases c6 : s = 0
          · rw [if_pos c6, if_pos c6]
            rw [if_pos c7]
            rw [if_neg (by decide)]
          · rw [if_neg c6, if_neg c6, if_pos c7, if_pos ho, ed, e16]
            dsimp only
            rw [if_pos rfl, e88]
        · rw [if_neg c7, if_pos (by simpa using c7)]
          rw [if_neg c7]
          rw [if_neg (by decide)]

theorem both_l0 (b : List Int) (hb : Bytes b) (hl : b.length < 1000000000) (d : Nat) : ∀ (i k k' : Nat) (out : List S27) (last last8 : Int), b.length < i + 16 * d → d + 40 < k → 3 * d + 40 < k' → i ≤ b.length + 15 → out.length + d < 5864062014805 → ((last8 = -1 ∧ last = -1) ∨ (0 ≤ last ∧ last8 = 8 * last)) →
    ∃ x, reloc_Read.l0 k b out last i = some x ∧ spindleref11_Read.l0 k' b out last8 i = some x := by
  induction d with
  | zero =>
    intro i k k' out last last8 hi hk hk' hib ho hr
    obtain ⟨k, rfl⟩ : ∃ m, k = m + 1 := ⟨k - 1, by omega⟩
    obtain ⟨k', rfl⟩ : ∃ m, k' = m + 1 := ⟨k' - 1, by omega⟩
    refine ⟨(out, 0, 0), ?_, ?_⟩
    · simp only [reloc_Read.l0]
      rw [if_neg (by omega)]
    · simp only [spindleref11_Read.l0]
      rw [if_neg (by omega)]
  | succ d ih =>
    intro i k k' out last last8 hi hk hk' hib ho hr
    obtain ⟨k, rfl⟩ : ∃ m, k = m + 1 := ⟨k - 1, by omega⟩
    obtain ⟨k', rfl⟩ : ∃ m, k' = m + 3 := ⟨k' - 3, by omega⟩
    by_cases h1 : i < b.length
    · by_cases h2 : i + 16 ≤ b.length
      · have hc : Bytes ((b.drop i).take 16) := fun x h => hb x (List.mem_of_mem_drop (List.mem_of_mem_take h))
        have hcl : ((b.drop i).take 16).length = 16 := by simp; omega
        rw [read_round b hb i k out last h2 (by omega) (by omega), ref_round b hb i k' out last last8 h2 hl (by omega) hr (by omega)]
        by_cases h3 : (oneS ((b.drop i).take 16) last).2.2.2.2 = 0
        · obtain ⟨r, e, f1, f2, f3⟩ := fit_of _ last hc hcl h3
          rw [if_pos h3, if_pos h3, if_pos (by omega), e]
          dsimp only
          exact ih (i + 16) k k' (out ++ [r]) r.f0 (8 * r.f0) (by omega) (by omega) (by omega) (by omega) (by simp; omega) (.inr ⟨f1.1, rfl⟩)
        · rw [if_neg h3, if_neg h3]
          exact ⟨_, rfl, rfl⟩
      · refine ⟨([], (i : Int), 110), ?_, ?_⟩
        · simp only [reloc_Read.l0]
          rw [if_pos (by omega), w64 _ (by omega) (by omega), if_pos (by omega)]
        · rw [show k' + 3 = (k' + 2) + 1 from rfl]
          simp only [spindleref11_Read.l0]
          rw [if_pos (by omega), w64 ((i : Int) + 16) (by omega) (by omega), if_pos (by omega)]
    · refine ⟨(out, 0, 0), ?_, ?_⟩
      · simp only [reloc_Read.l0]
        rw [if_neg (by omega)]
      · rw [show k' + 3 = (k' + 2) + 1 from rfl]
        simp only [spindleref11_Read.l0]
        rw [if_neg (by omega)]
theorem both_eq (b : List Int) (hb : Bytes b) (hl : b.length < 1000000000) (k : Nat) (hk : 3 * b.length + 100 < k) : ∃ x, reloc_Read.f k b = some x ∧ spindleref11_Read.f k b = some x :=
  both_l0 b hb hl (b.length + 1) 0 k k [] (-1) (-1) (by omega) (by omega) (by omega) (by omega) (by simp; omega) (.inl ⟨rfl, rfl⟩)

theorem turned_l0 (b : List Int) (hl : b.length < 1000000000) (d : Nat) : ∀ (i k : Nat) (out : List Int), i + d = b.length → d < k → out.length = i → ∃ r, spindlelaw11_turned.l0 k b out i = some r ∧ r.length = b.length ∧ (Bytes b → Bytes out → Bytes r) := by
  induction d with
  | zero =>
    intro i k out hi hk ho
    obtain ⟨k, rfl⟩ : ∃ m, k = m + 1 := ⟨k - 1, by omega⟩
    refine ⟨out, ?_, by omega, fun _ h => h⟩
    simp only [spindlelaw11_turned.l0]
    rw [if_neg (by omega)]
  | succ d ih =>
    intro i k out hi hk ho
    obtain ⟨k, rfl⟩ : ∃ m, k = m + 1 := ⟨k - 1, by omega⟩
    have hlt : i < b.length := by omega
    have e1 : wrap64 ((i : Int) + 1) = ((i + 1 : Nat) : Int) := by rw [w64 _ (by omega) (by omega)]; rfl
    simp only [spindlelaw11_turned.l0]
    rw [if_pos (by omega), if_pos (by omega), rd_at b i hlt, e1]
    have step : ∀ y : Int, (Bytes b → 0 ≤ y ∧ y < 256) → ∃ r, spindlelaw11_turned.l0 k b (out ++ [y]) ((i + 1 : Nat) : Int) = some r ∧ r.length = b.length ∧ (Bytes b → Bytes out → Bytes r) := by
      intro y hy
      obtain ⟨r, h1, h2, h3⟩ := ih (i + 1) k (out ++ [y]) (by omega) (by omega) (by simp; omega)
      refine ⟨r, h1, h2, fun hb ho2 => h3 hb ?_⟩
      intro x hx
      rcases List.mem_append.1 hx with h | h
      · exact ho2 x h
      · rw [List.mem_singleton.1 h]; exact hy hb
    split
    · rw [if_pos (by omega)]
      refine step _ (fun hb => ?_)
      obtain ⟨z0, z1⟩ := hb b[i] (List.getElem_mem hlt)
      generalize b[i] = z at z0 z1
      have h : ∀ n : Fin 256, 0 ≤ Go.bits .xor .u8 (n.val : Int) 2 ∧ Go.bits .xor .u8 (n.val : Int) 2 < 256 := by decide +kernel
      have h2 := h ⟨z.toNat, by omega⟩
      rw [show ((⟨z.toNat, by omega⟩ : Fin 256).val : Int) = z from by simp only; omega] at h2
      exact h2
    · rw [if_pos (by omega)]
      exact step _ (fun hb => hb b[i] (List.getElem_mem hlt))
theorem turned_eq (b : List Int) (hl : b.length < 1000000000) (hb : Bytes b) (k : Nat) (hk : b.length < k) : ∃ r, spindlelaw11_turned.f k b = some r ∧ r.length = b.length ∧ Bytes r := by
  obtain ⟨r, h1, h2, h3⟩ := turned_l0 b hl b.length 0 k [] (by omega) hk rfl
  exact ⟨r, h1, h2, h3 hb (fun _ h => by cases h)⟩
end Go.Proofs.Ytolhfcefpjfobaa.Facts
end
section
namespace Go.Proofs.Ytolhfcefpjfobaa.Facts
open Go.RowKit Go.Proofs.Ytolhfcefpjfobaa.PR Go.Proofs.YtolhfcefpjfobaaW.PrintWords Go.Proofs.YtolhfcefpjfobaaW.PrintLast
set_option linter.unusedVariables false
/-! The document's Write answers as the package's does. -/

theorem rlaid_l0 (n : Nat) (hn : n < 100) (d : Nat) : ∀ (j k : Nat) (x : Int) (out : List Int), j + d = n → d < k → 0 ≤ x → x < 9223372036854775808 → out.length + d < 140737488355328 → spindleref11_laid.l0 k x n out j = some (out ++ le d x) := by
  induction d with
  | zero =>
    intro j k x out hj hk _ _ _
    obtain ⟨k, rfl⟩ : ∃ m, k = m + 1 := ⟨k - 1, by omega⟩
    simp only [spindleref11_laid.l0]
    rw [if_neg (by omega)]; simp [le]
  | succ d ih =>
    intro j k x out hj hk h0 h1 hl
    obtain ⟨k, rfl⟩ : ∃ m, k = m + 1 := ⟨k - 1, by omega⟩
    simp only [spindleref11_laid.l0]
    have e : wrap64 ((j : Int) + 1) = ((j + 1 : Nat) : Int) := by rw [w64 _ (by omega) (by omega)]; rfl
    have e2 : wrap64 (Int.tdiv x 256) = x / 256 := by rw [Int.tdiv_eq_ediv_of_nonneg h0]; exact w64 _ (by omega) (by omega)
    rw [if_pos (by omega), if_pos (by omega), e, e2, ih (j + 1) k (x / 256) _ (by omega) (by omega) (by omega) (by omega) (by simp; omega)]
    simp [le]
theorem rlaid (n : Nat) (hn : n < 100) (k : Nat) (x : Int) (hk : n < k) (h0 : 0 ≤ x) (h1 : x < 9223372036854775808) : spindleref11_laid.f k x n = some (le n x) := by
  have h := rlaid_l0 n hn n 0 k x [] (by omega) hk h0 h1 (by simp; omega)
  rw [List.nil_append] at h
  exact h
theorem may_eq (r : S27) : spindleref11_may.f r.f0 r.f1 r.f2 = some (decide (Fit r)) := by
  unfold spindleref11_may.f
  by_cases c1 : r.f0 ≥ 0
  · rw [if_pos c1]
    by_cases c2 : r.f0 < 65536
    · rw [if_pos c2]
      by_cases c3 : r.f1 = 1
      · rw [if_pos c3]
        by_cases c4 : r.f2 ≥ 1
        · rw [if_pos c4]
          congr 1
          apply decide_eq_decide.2
          unfold Fit; omega
        · rw [if_neg c4, decide_eq_false (show ¬ Fit r by unfold Fit; omega)]
      · rw [if_neg c3]
        by_cases c5 : r.f1 = 2
        · rw [if_pos c5]
          by_cases c4 : r.f2 ≥ 1
          · rw [if_pos c4]
            congr 1
            apply decide_eq_decide.2
            unfold Fit; omega
          · rw [if_neg c4, decide_eq_false (show ¬ Fit r by unfold Fit; omega)]
        · rw [if_neg c5, decide_eq_false (show ¬ Fit r by unfold Fit; omega)]
    · rw [if_neg c2, decide_eq_false (show ¬ Fit r by unfold Fit; omega)]
  · rw [if_neg c1, decide_eq_false (show ¬ Fit r by unfold Fit; omega)]

/-- one round of the document's Write -/
theorem ref_wround (xs : List S27) (i k : Nat) (out : List Int) (last : Int) (hi : i < xs.length) (hk : 10 < k) (hl : out.length + 16 < 140737488355328) (hx : xs.length < 140737488355328) (hlast : (i = 0 ∧ last = -1) ∨ (0 < i ∧ last = (rd_T27 xs ((i : Int) - 1)).f0)) :
    spindleref11_Write.l0 (k + 2) xs out i =
      if Fit xs[i] then (if xs[i].f0 ≤ last then some ([], 111) else spindleref11_Write.l0 k xs (out ++ enc xs[i]) ((i + 1 : Nat) : Int)) else some ([], 110) := by
  have ew : wrap64 ((i : Int) + 1) = ((i + 1 : Nat) : Int) := by rw [w64 _ (by omega) (by omega)]; rfl
  have em : wrap64 ((i : Int) - 1) = (i : Int) - 1 := w64 _ (by omega) (by omega)
  have j1 : ∀ b : Bool, Fit xs[i] → spindleref11_Write.j1 (k + 1) xs out i b = if b = true then some ([], 111) else spindleref11_Write.l0 k xs (out ++ enc xs[i]) ((i + 1 : Nat) : Int) := by
    intro b hf
    simp only [spindleref11_Write.j1]
    by_cases hb : b = true
    · rw [if_pos hb, if_pos hb]
    · rw [if_neg hb, if_neg hb, if_pos (by omega), if_pos (by omega), rdT_at xs i hi]
      generalize xs[i] = r at hf
      obtain ⟨f1, f2, f3, f4, f5⟩ := hf
      have w8 : wrap64 (8 * r.f0) = 8 * r.f0 := w64 _ (by omega) (by omega)
      have l8 := rlaid 8 (by omega) k (8 * r.f0) (by omega) (by omega) (by omega)
      have l10 := rlaid 4 (by omega) k 10 (by omega) (by omega) (by omega)
      have l1 := rlaid 4 (by omega) k 1 (by omega) (by omega) (by omega)
      have l4 := rlaid 4 (by omega) k r.f2 (by omega) (by omega) (by omega)
      rw [show ((8 : Nat) : Int) = 8 from rfl] at l8
      rw [show ((4 : Nat) : Int) = 4 from rfl] at l10 l1 l4
      rcases f3 with h1 | h2
      · rw [if_neg (by omega), w8, l8, Option.bind_some, if_pos (by simp [le_length]; omega), Option.bind_some, l1, Option.bind_some, if_pos (by simp [le_length]; omega), Option.bind_some, l4, Option.bind_some, if_pos (by simp [le_length]; omega), ew]
        unfold enc ty
        rw [if_pos h1]
        simp only [List.append_assoc]
      · rw [if_pos h2, w8, l8, Option.bind_some, if_pos (by simp [le_length]; omega), Option.bind_some, l10, Option.bind_some, if_pos (by simp [le_length]; omega), Option.bind_some, l4, Option.bind_some, if_pos (by simp [le_length]; omega), ew]
        unfold enc ty
        rw [if_neg (by omega)]
        simp only [List.append_assoc]
  simp only [spindleref11_Write.l0]
  rw [if_pos (by omega), if_pos (by omega), rdT_at xs i hi, may_eq, Option.bind_some]
  by_cases hf : Fit xs[i]
  · rw [if_pos (decide_eq_true hf), if_pos hf]
    rcases hlast with ⟨h0, h1⟩ | ⟨h0, h1⟩
    · rw [if_neg (by omega), j1 false hf, if_neg (by decide), if_neg (by have := hf.1; omega)]
    · rw [if_pos (by omega), em, if_pos (by omega), if_pos (by omega), j1 _ hf, ← h1]
      by_cases hc : xs[i].f0 ≤ last
      · rw [if_pos (decide_eq_true hc), if_pos hc]
      · rw [if_neg (by simpa using hc), if_neg hc]
  · rw [if_neg (by simpa using hf), if_neg hf]

theorem wboth_l0 (xs : List S27) (hx : xs.length < 8000000000000) (d : Nat) : ∀ (i k k' : Nat) (out : List Int) (last : Int), i + d = xs.length → 2 * d + 20 < k → 2 * d + 20 < k' → out.length + 16 * d < 140737488355328 → ((i = 0 ∧ last = -1) ∨ (0 < i ∧ last = (rd_T27 xs ((i : Int) - 1)).f0)) →
    ∃ x, reloc_Write.l0 k out last xs xs.length i = some x ∧ spindleref11_Write.l0 k' xs out i = some x := by
  induction d with
  | zero =>
    intro i k k' out last hi hk hk' _ _
    obtain ⟨k, rfl⟩ : ∃ m, k = m + 1 := ⟨k - 1, by omega⟩
    obtain ⟨k', rfl⟩ : ∃ m, k' = m + 1 := ⟨k' - 1, by omega⟩
    refine ⟨(out, 0), ?_, ?_⟩
    · simp only [reloc_Write.l0]
      rw [if_neg (by omega)]
    · simp only [spindleref11_Write.l0]
      rw [if_neg (by omega)]
  | succ d ih =>
    intro i k k' out last hi hk hk' hl hlast
    obtain ⟨k, rfl⟩ : ∃ m, k = m + 2 := ⟨k - 2, by omega⟩
    obtain ⟨k', rfl⟩ : ∃ m, k' = m + 2 := ⟨k' - 2, by omega⟩
    have hlt : i < xs.length := by omega
    rw [write_round xs i k out last hlt (by omega) (by omega) (by omega), ref_wround xs i k' out last hlt (by omega) (by omega) (by omega) hlast]
    by_cases g1 : Fit xs[i]
    · rw [if_pos g1, if_pos g1]
      by_cases g2 : xs[i].f0 ≤ last
      · rw [if_pos g2, if_pos g2]; exact ⟨_, rfl, rfl⟩
      · rw [if_neg g2, if_neg g2]
        refine ih (i + 1) k k' (out ++ enc xs[i]) xs[i].f0 (by omega) (by omega) (by omega) (by rw [List.length_append, enc_length]; omega) (.inr ⟨by omega, ?_⟩)
        rw [show ((i + 1 : Nat) : Int) - 1 = (i : Int) from by omega, rdT_at xs i hlt]
    · rw [if_neg g1, if_neg g1]; exact ⟨_, rfl, rfl⟩
theorem wboth_eq (xs : List S27) (hx : xs.length < 8000000000000) (k : Nat) (hk : 2 * xs.length + 20 < k) : ∃ x, reloc_Write.f k xs = some x ∧ spindleref11_Write.f k xs = some x := by
  have h := wboth_l0 xs hx xs.length 0 k k [] (-1) (by omega) hk hk (by simp; omega) (.inl ⟨rfl, rfl⟩)
  unfold reloc_Write.f
  rw [w64 _ (by omega) (by omega), if_pos (by omega), if_pos (by omega)]
  exact h
theorem sameBytes_refl (b : List Int) : spindlelaw0_SameBytes.f b b = some true := by
  unfold spindlelaw0_SameBytes.f
  simp
end Go.Proofs.Ytolhfcefpjfobaa.Facts
end
section
-- Printed by this session's own program (wip/tools/myprint.py) over the kit's print; the parts that are marked 'by hand' are this session's.
namespace Go.Proofs.Ytolhfcefpjfobaa.PR
open Go.RowKit Go.Proofs.YtolhfcefpjfobaaW.PrintWords Go.Proofs.YtolhfcefpjfobaaW.PrintLast Go.Proofs.YtolhfcefpjfobaaW.Open
set_option linter.unusedVariables false
def okT27 (v : S27) : Prop := (Lit.int .i64 v.f0).wf = true ∧ (Lit.int .i64 v.f1).wf = true ∧ (Lit.int .i64 v.f2).wf = true
theorem opnT27 : Opn Try.prog 27 k27 okT27 :=
  opn_weaken (opn_struct (ts := [3, 3, 3]) (fun x : S27 => (x.f0, x.f1, x.f2)) (fun p => ⟨p.1, p.2.1, p.2.2⟩) (fun _ => rfl) Try.underlying27 (by kernel_rfl) (by kernel_rfl) (by kernel_rfl)
    (fields_cons (opn_int Try.underlying3) (fields_cons (opn_int Try.underlying3) (fields_one (opn_int Try.underlying3))))) (fun _ h => h)
/-- The one pure statement of spindlelaw11_RelocBack. -/
def spindlelaw11_RelocBack.Pure : Prop := ∀ (l0 : List (S27)) (a1 : Int), ((∀ v ∈ l0, okT27 v) ∧ l0.length * 24 ≤ reachBytes) → (Lit.int .i64 a1).wf = true → ∃ k, spindlelaw11_RelocBack.f k l0 a1 = some true
end Go.Proofs.Ytolhfcefpjfobaa.PR
end
