/- Package memory: Insert, its four roads in one; the state of a space. Written by this session. -/
import Derived.Test.YthmeojeehemlaaaMem6
namespace Go.Proofs.Ythmeojeehemlaaa.Mem
open Go.RowKit Go.Lib Go.Proofs.YthmeojeehemlaaaW.PrintWords
open Go.Proofs.Ythmeojeehemlaaa.PM
set_option linter.unusedVariables false
set_option linter.unusedSimpArgs false
theorem Blk.setCells {g : Nat} {t : TypeId} : ∀ (vs : List Value) (o : Nat) (w : World) (cs : Array Value), Blk w g t cs → o + vs.length ≤ cs.size → ∃ cs' : Array Value, Blk (w.setCells g o vs) g t cs' ∧ cs'.size = cs.size ∧ (∀ j, j < vs.length → cs'[o + j]? = vs[j]?) ∧ (∀ j, (j < o ∨ o + vs.length ≤ j) → cs'[j]? = cs[j]?)
  | [], o, w, cs, h, _ => ⟨cs, h, rfl, fun j hj => absurd hj (Nat.not_lt_zero j), fun _ _ => rfl⟩
  | v :: vs, o, w, cs, h, hl => by
    simp only [List.length_cons] at hl
    obtain ⟨cs', h1, h2, h3, h4⟩ := Blk.setCells vs (o + 1) (w.setCell ⟨g, o, none⟩ v) _ (h.set_ o v) (by simp; omega)
    refine ⟨cs', h1, by simpa using h2, fun j hj => ?_, fun j hj => ?_⟩
    · cases j with
      | zero =>
        rw [Nat.add_zero, h4 o (Or.inl (by omega)), Array.getElem?_setIfInBounds_self_of_lt (by omega)]
        rfl
      | succ j =>
        have := h3 j (by simpa using hj)
        rw [show o + (j + 1) = o + 1 + j by omega, this]
        simp
    · simp only [List.length_cons] at hj
      rw [h4 j (by omega), Array.getElem?_setIfInBounds_ne (by omega)]
theorem Blk.setCells_far {g h : Nat} {t : TypeId} (hne : h ≠ g) : ∀ (vs : List Value) (o : Nat) (w : World) (cs : Array Value), Blk w h t cs → Blk (w.setCells g o vs) h t cs
  | [], o, w, cs, hb => hb
  | v :: vs, o, w, cs, hb => Blk.setCells_far hne vs (o + 1) _ cs (hb.far (fun e => hne e.symm) v)
theorem below_set {B g : Nat} (hg : B ≤ g) {a w : World} (h : Below B a w) (o : Nat) (v : Value) : Below B a (w.setCell ⟨g, o, none⟩ v) := by
  refine ⟨h.os, h.tape, h.output, by simpa [World.setCell] using h.size, fun k hk => ?_⟩
  rw [← h.block k hk]
  have : g ≠ k := by omega
  simp [World.setCell, Array.getElem?_modify, this]
theorem below_sets {B g : Nat} (hg : B ≤ g) {a : World} : ∀ (vs : List Value) (o : Nat) (w : World), Below B a w → Below B a (w.setCells g o vs)
  | [], o, w, h => h
  | v :: vs, o, w, h => below_sets hg vs (o + 1) _ (below_set hg h o v)
theorem below_drew {B : Nat} {a w : World} (h : Below B a w) : Below B a w.drew := ⟨h.os, h.tape, h.output, h.size, h.block⟩
theorem below_push {B : Nat} {a w : World} (hB : B ≤ w.heap.size) (h : Below B a w) (o : Obj) : Below B a (w.alloc o) := h.alloc hB o
theorem Blk.uniq {w : World} {g : Nat} {t t' : TypeId} {cs cs' : Array Value} (h : Blk w g t cs) (h' : Blk w g t' cs') : t = t' := by
  unfold Blk at h h'
  rw [h] at h'
  cases h'; rfl
theorem Blk.shape {w : World} {g : Nat} {t : TypeId} {cs : Array Value} (h : Blk w g t cs) : w.shape? g = some (t, cs.size) := by
  unfold Blk at h
  simp [World.shape?, h]
/-- a row of pointers that is the caller's own -/
structure PRow (w : World) (P : Option Addr) (cap : Nat) (qs : List Value) : Prop where
  len : qs.length ≤ cap
  small : cap ≤ 9223372036854775807
  one : ∀ v ∈ qs, v.oneCell' = true
  row : (P = none ∧ cap = 0) ∨ ∃ (p : Nat) (cs : Array Value), P = some ⟨p, 0, none⟩ ∧ Blk w p 106 cs ∧ cs.size = cap ∧ ∀ i, i < qs.length → cs[i]? = qs[i]?
/-- what the growing of a row leaves -/
structure Moved (w w' : World) (P P' : Option Addr) : Prop where
  far : ∀ g t cs, t ≠ 106 → Blk w g t cs → Blk w' g t cs
  size : w.heap.size ≤ w'.heap.size
  below : ∀ B, B ≤ w.heap.size → (∀ p, P = some p → B ≤ p.block) → Below B w w' ∧ ∀ p, P' = some p → B ≤ p.block
theorem zeros_size (n : Nat) : (Builtin.zeroCells (Value.pointer none).cells n).size = n := by
  simp [Builtin.zeroCells, Value.cells]
set_option maxHeartbeats 1000000 in
theorem insert_ (w : World) (P : Option Addr) (cap : Nat) (qs : List Value) (k : Nat) (v : Value) (vb : Nat) (hp : PRow w P cap qs) (hk : k ≤ qs.length) (hv1 : v.oneCell' = true) (hv : Blk w vb 106 #[v]) (hvp : ∀ p, P = some p → vb ≠ p.block) (hbig : (qs.length + 1) * 8 ≤ 140737488355328) :
    Calls Try.prog 61 #[.slice P qs.length cap, .int .i64 k, .slice (some ⟨vb, 0, none⟩) 1 1] w fun e w' => ∃ P' cap', e = .returned (.slice P' (qs.length + 1) cap') ∧ PRow w' P' cap' (qs.take k ++ v :: qs.drop k) ∧ Moved w w' P P' := by
  have hlen : (qs.take k ++ v :: qs.drop k).length = qs.length + 1 := by simp; omega
  have hone : ∀ x ∈ qs.take k ++ v :: qs.drop k, x.oneCell' = true := by
    intro x hx
    rcases List.mem_append.1 hx with h | h
    · exact hp.one x (List.mem_of_mem_take h)
    · rcases List.mem_cons.1 h with rfl | h
      · exact hv1
      · exact hp.one x (List.mem_of_mem_drop h)
  have hvs : ∀ j u, ([v] : List Value)[j]? = some u → w.cell? ⟨vb, 0 + j, none⟩ = some u := by
    intro j u hj
    rw [Nat.zero_add, hv.cell j]
    simpa using hj
  have h1v : ∀ x ∈ ([v] : List Value), x.oneCell' = true := by
    intro x hx
    rw [List.mem_singleton.1 hx]; exact hv1
  have hget : ∀ i, (qs.take k ++ v :: qs.drop k)[i]? = if i < k then qs[i]? else if i = k then some v else qs[i - 1]? := by
    intro i
    rw [List.getElem?_append, List.length_take, Nat.min_eq_left hk]
    split
    · rw [List.getElem?_take, if_pos (by omega)]
    · split
      · subst_vars; simp
      · obtain ⟨j, rfl⟩ : ∃ j, i = k + 1 + j := ⟨i - k - 1, by omega⟩
        rw [show k + 1 + j - k = j + 1 by omega, List.getElem?_cons_succ, List.getElem?_drop]
        congr 1; omega
  rcases hp.row with ⟨rfl, rfl⟩ | ⟨p, cs, rfl, hb, hcs, hat⟩
  · have h0 : qs.length = 0 := by have := hp.len; omega
    have hq : qs = [] := List.length_eq_zero_iff.1 h0
    subst hq
    have hk0 : k = 0 := by simpa using hk
    subst hk0
    refine (insert_end_grow none 0 0 vb 0 1 1 [] [v] w (by omega) (by omega) (by omega) (by omega) rfl rfl (fun _ => rfl) (fun a h => by cases h) hvs h1v).mono ?_
    rintro e w' ⟨rfl, rfl⟩
    refine ⟨_, _, rfl, ⟨?_, ?_, hone, .inr ⟨w.heap.size, _, rfl, Blk.new w.drew _ _, ?_, ?_⟩⟩, ⟨fun g t cs _ h => h.drew.alloc _, by simp, fun B hB _ => ⟨below_push (w := w.drew) hB (below_drew (Below.refl B w)) _, fun q hq => by cases hq; exact hB⟩⟩⟩
    · exact grownCap_ge w 1 0 106
    · exact grownCap_le_maxLen w 1 0 106 (by decide)
    · have := grownCap_ge w 1 0 106
      simp only [Array.size_append, zeros_size]; simp; omega
    · intro i hi
      have : i = 0 := by simpa using hi
      subst this
      simp
      rw [Array.getElem?_append_left (by simp)]
      rfl
  · by_cases hroom : qs.length + 1 ≤ cap
    · rcases Nat.lt_or_ge k qs.length with hlt | hge
      · refine (insert_shift p 0 qs.length cap k vb 0 1 1 qs [v] w hlt (by omega) hroom hp.small (hvp _ rfl) rfl rfl (fun j u hj => ?_) (fun j hj => ?_) (fun j hj => ?_) hvs hp.one h1v 106 106 _ _ hv.shape hb.shape (by omega) (hv.frozen _) (hv.frozen _)).mono ?_
        · rw [Nat.zero_add, hb.cell, hat j (List.getElem?_eq_some_iff.1 hj).1]; exact hj
        · rw [Nat.zero_add, hb.cell, Array.getElem?_eq_getElem (by omega)]; rfl
        · rw [Nat.zero_add]; exact hb.frozen j
        rintro e w' ⟨rfl, rfl⟩
        simp only [Nat.zero_add]
        obtain ⟨c1, b1, s1, i1, o1⟩ := Blk.setCells (qs.drop k) (k + 1) w.drew cs hb.drew (by simp; omega)
        obtain ⟨c2, b2, s2, i2, o2⟩ := Blk.setCells [v] k _ c1 b1 (by simp; omega)
        refine ⟨_, _, rfl, ⟨by rw [hlen]; exact hroom, hp.small, hone, .inr ⟨p, c2, rfl, b2, by omega, fun i hi => ?_⟩⟩, ⟨fun g t ds ht h => ?_, ?_, fun B hB hB2 => ⟨?_, fun q hq => by cases hq; exact hB2 _ rfl⟩⟩⟩
        · rw [hget]
          split
          · rw [o2 i (Or.inl (by omega)), o1 i (Or.inl (by omega)), hat i (by omega)]
          · split
            · subst_vars
              have := i2 0 (by simp)
              rw [Nat.add_zero] at this
              rw [this]; rfl
            · have hj := i1 (i - (k + 1)) (by simp; rw [hlen] at hi; omega)
              rw [show k + 1 + (i - (k + 1)) = i by omega] at hj
              rw [o2 i (Or.inr (by simp; omega)), hj, List.getElem?_drop]
              congr 1; omega
        · have hne : g ≠ p := fun e => ht (by subst e; exact h.uniq hb)
          exact Blk.setCells_far hne _ _ _ _ (Blk.setCells_far hne _ _ _ _ h.drew)
        · exact (below_sets (Nat.zero_le p) _ _ _ (below_sets (Nat.zero_le p) _ _ _ (below_drew (Below.refl 0 w)))).size
        · exact below_sets (hB2 _ rfl) _ _ _ (below_sets (hB2 _ rfl) _ _ _ (below_drew (Below.refl B w)))
      · have hk' : k = qs.length := by omega
        subst hk'
        refine (insert_end_room p 0 qs.length cap vb 0 1 1 [v] w (by omega) hroom hp.small rfl (fun j hj => ?_) (fun j hj => ?_) hvs h1v).mono ?_
        · rw [Nat.zero_add, hb.cell, Array.getElem?_eq_getElem (by omega)]; rfl
        · exact hb.frozen _
        rintro e w' ⟨rfl, rfl⟩
        simp only [Nat.zero_add]
        obtain ⟨c1, b1, s1, i1, o1⟩ := Blk.setCells [v] qs.length w cs hb (by simp; omega)
        refine ⟨_, _, rfl, ⟨by rw [hlen]; exact hroom, hp.small, hone, .inr ⟨p, c1, rfl, b1, by omega, fun i hi => ?_⟩⟩, ⟨fun g t ds ht h => ?_, ?_, fun B hB hB2 => ⟨?_, fun q hq => by cases hq; exact hB2 _ rfl⟩⟩⟩
        · rw [hget]
          split
          · rw [o1 i (Or.inl (by omega)), hat i (by omega)]
          · split
            · subst_vars
              have := i1 0 (by simp)
              rw [Nat.add_zero] at this
              rw [this]; rfl
            · rw [hlen] at hi; omega
        · have hne : g ≠ p := fun e => ht (by subst e; exact h.uniq hb)
          exact Blk.setCells_far hne _ _ _ _ h
        · exact (below_sets (Nat.zero_le p) _ _ _ (Below.refl 0 w)).size
        · exact below_sets (hB2 _ rfl) _ _ _ (Below.refl B w)
    · have hcells : ∀ j u, qs[j]? = some u → w.cell? ⟨p, 0 + j, none⟩ = some u := fun j u hj => by
        rw [Nat.zero_add, hb.cell, hat j (List.getElem?_eq_some_iff.1 hj).1]; exact hj
      rcases Nat.lt_or_ge k qs.length with hlt | hge
      · refine (insert_grow p 0 qs.length cap k vb 0 1 1 qs [v] w hlt (by omega) hp.len (by omega) hbig rfl rfl hcells hvs hp.one h1v).mono ?_
        rintro e w' ⟨rfl, rfl⟩
        have hg := grownCap_ge w (qs.length + 1) cap 106
        obtain ⟨c1, b1, s1, i1, o1⟩ := Blk.setCells [v] k _ _ (Blk.new w 106 ((qs.take k).toArray ++ Builtin.zeroCells (Value.pointer none).cells (qs.length + 1 - k) ++ Builtin.zeroCells (Value.pointer none).cells (grownCap w (qs.length + 1) cap 106 - (qs.length + 1)))).drew (by simp only [Array.size_append, zeros_size]; simp; omega)
        obtain ⟨c2, b2, s2, i2, o2⟩ := Blk.setCells (qs.drop k) (k + 1) _ c1 b1.drew (by rw [s1]; simp only [Array.size_append, zeros_size]; simp; omega)
        have hsz : c2.size = grownCap w (qs.length + 1) cap 106 := by
          rw [s2, s1]; simp only [Array.size_append, zeros_size]; simp; omega
        refine ⟨_, _, rfl, ⟨by rw [hlen]; exact hg, grownCap_le_maxLen w _ _ 106 (by unfold maxLen; omega), hone, .inr ⟨w.heap.size, c2, rfl, b2, hsz, fun i hi => ?_⟩⟩, ⟨fun g t ds ht h => ?_, ?_, fun B hB hB2 => ⟨?_, fun q hq => by cases hq; exact hB⟩⟩⟩
        · rw [hget]
          split
          · rw [o2 i (Or.inl (by omega)), o1 i (Or.inl (by omega))]
            rw [Array.append_assoc, Array.getElem?_append_left (by simp; omega)]
            simp [List.getElem?_take, *]
          · split
            · subst_vars
              have := i1 0 (by simp)
              rw [Nat.add_zero] at this
              rw [o2 i (Or.inl (by omega)), this]; rfl
            · have hj := i2 (i - (k + 1)) (by simp; rw [hlen] at hi; omega)
              rw [show k + 1 + (i - (k + 1)) = i by omega] at hj
              rw [hj, List.getElem?_drop]
              congr 1; omega
        · have hne : g ≠ w.heap.size := by have := h.lt; omega
          exact Blk.setCells_far hne _ _ _ _ (Blk.drew (Blk.setCells_far hne _ _ _ _ (h.alloc _).drew))
        · exact (below_sets (Nat.zero_le _) _ _ _ (below_drew (below_sets (Nat.zero_le _) _ _ _ (below_drew (below_push (Nat.zero_le _) (Below.refl 0 w) _))))).size
        · exact below_sets hB _ _ _ (below_drew (below_sets hB _ _ _ (below_drew (below_push hB (Below.refl B w) _))))
      · have hk' : k = qs.length := by omega
        subst hk'
        refine (insert_end_grow (some ⟨p, 0, none⟩) qs.length cap vb 0 1 1 qs [v] w (by omega) hp.len (by omega) hbig rfl rfl (fun h => by cases h) (fun a ha j u hj => by cases ha; rw [Addr.add_lit]; exact hcells j u hj) hvs h1v).mono ?_
        rintro e w' ⟨rfl, rfl⟩
        have hg := grownCap_ge w (qs.length + 1) cap 106
        refine ⟨_, _, rfl, ⟨by rw [hlen]; exact hg, grownCap_le_maxLen w _ _ 106 (by unfold maxLen; omega), hone, .inr ⟨w.heap.size, _, rfl, Blk.new w.drew _ _, ?_, fun i hi => ?_⟩⟩, ⟨fun g t ds ht h => h.drew.alloc _, by simp, fun B hB hB2 => ⟨below_push (w := w.drew) hB (below_drew (Below.refl B w)) _, fun q hq => by cases hq; exact hB⟩⟩⟩
        · simp only [Array.size_append, zeros_size]; simp; omega
        · rw [Array.getElem?_append_left (by simp; rw [hlen] at hi; omega), List.getElem?_toArray]
          simp
end Go.Proofs.Ythmeojeehemlaaa.Mem
