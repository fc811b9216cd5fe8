/- Package memory: Add. Written by this session. -/
import Derived.Test.YthmeojeehemlaaaMem9
namespace Go.Proofs.Ythmeojeehemlaaa.Mem
open Go.RowKit Go.Lib Go.Proofs.YthmeojeehemlaaaW.PrintWords
open Go.Proofs.Ythmeojeehemlaaa.PM
set_option linter.unusedVariables false
set_option linter.unusedSimpArgs false
attribute [local go_sem] isSome_setCell
def ins (rs : List Reg) (k : Nat) (r : Reg) : List Reg := rs.take k ++ r :: rs.drop k
def ptrV (r : Reg) : Value := .pointer (some ⟨r.b, 0, none⟩)
theorem ins_length (rs : List Reg) (k : Nat) (r : Reg) : (ins rs k r).length = rs.length + 1 := by unfold ins; simp; omega
theorem ins_map {α : Type} (g : Reg → α) (rs : List Reg) (k : Nat) (r : Reg) : (ins rs k r).map g = (rs.map g).take k ++ g r :: (rs.map g).drop k := by unfold ins; simp
theorem mem_ins (rs : List Reg) (k : Nat) (r q : Reg) : q ∈ ins rs k r ↔ q = r ∨ q ∈ rs := by
  unfold ins
  rw [List.mem_append, List.mem_cons]
  constructor
  · rintro (h | h | h)
    · exact .inr (List.mem_of_mem_take h)
    · exact .inl h
    · exact .inr (List.mem_of_mem_drop h)
  · rintro (h | h)
    · exact .inr (.inl h)
    · have : q ∈ rs.take k ++ rs.drop k := by rw [List.take_append_drop]; exact h
      rcases List.mem_append.1 this with h | h
      · exact .inl h
      · exact .inr (.inr h)
theorem RowAt.prow {w : World} {P : Option Addr} {cap : Nat} {rs : List Reg} (h : RowAt w P cap rs) : PRow w P cap (rs.map ptrV) := by
  refine ⟨by simpa using h.len, h.small, fun v hv => ?_, ?_⟩
  · obtain ⟨r, _, rfl⟩ := List.mem_map.1 hv; rfl
  · rcases h.row with hn | ⟨p, cs, e, hb, hs, hat⟩
    · exact .inl hn
    · refine .inr ⟨p, cs, e, hb, hs, fun i hi => ?_⟩
      have hi' : i < rs.length := by simpa using hi
      rw [hat i hi', List.getElem?_map, List.getElem?_eq_getElem hi']; rfl
theorem pairwise_ins {R : Reg → Reg → Prop} (hs : ∀ a b, R a b → R b a) : ∀ (rs : List Reg) (k : Nat) (r : Reg), rs.Pairwise R → (∀ q ∈ rs, R r q) → (ins rs k r).Pairwise R := by
  intro rs k r h hr
  unfold ins
  rw [List.pairwise_append]
  refine ⟨h.sublist (List.take_sublist k rs), List.pairwise_cons.2 ⟨fun q hq => hr q (List.mem_of_mem_drop hq), h.sublist (List.drop_sublist k rs)⟩, fun a ha b hb => ?_⟩
  rcases List.mem_cons.1 hb with rfl | hb
  · exact hs _ _ (hr a (List.mem_of_mem_take ha))
  · have h2 := h
    rw [← List.take_append_drop k rs, List.pairwise_append] at h2
    exact h2.2.2 a ha b hb
/-- the space behind an Insert, and the store of the row -/
theorem St.inserted {B : Nat} {w w1 : World} {s : Nat} {rs : List Reg} {P P' : Option Addr} {cap cap' : Nat} (h : St B w s rs) (hsP : Blk w s 61 #[.slice P rs.length cap]) (hrow : RowAt w P cap rs) (hPB : ∀ p, P = some p → B ≤ p.block) (rg : Reg) (hreg : RegAt w rg) (k : Nat) (hbytes : Bytes rg.data) (hdB : ∀ d, rg.A = some ⟨d, 0, none⟩ → 0 < rg.data.length → B ≤ d)
    (hfresh : ∀ q ∈ rs, 0 < rg.data.length → 0 < q.data.length → rg.A ≠ q.A) (hris : Rising (ins rs k rg)) (hbig : rs.length + 1 < 4398046511104)
    (hp : PRow w1 P' cap' ((rs.map ptrV).take k ++ ptrV rg :: (rs.map ptrV).drop k)) (hm : Moved w w1 P P') :
    St B (w1.setCell ⟨s, 0, none⟩ (.slice P' (rs.length + 1) cap')) s (ins rs k rg) ∧ Below B w (w1.setCell ⟨s, 0, none⟩ (.slice P' (rs.length + 1) cap')) := by
  have hB : B ≤ w.heap.size := Nat.le_of_lt h.lt
  obtain ⟨hbl, hP'⟩ := hm.below B hB hPB
  have hs1 : Blk w1 s 61 #[.slice P rs.length cap] := hm.far _ _ _ (by decide) hsP
  have hs2 := hs1.set_ 0 (.slice P' (rs.length + 1) cap')
  have far : ∀ g t cs, t ≠ 106 → t ≠ 61 → Blk w g t cs → Blk (w1.setCell ⟨s, 0, none⟩ (.slice P' (rs.length + 1) cap')) g t cs := fun g t cs h1 h2 hb => by
    refine (hm.far g t cs h1 hb).far ?_ _
    intro e
    refine h2 ?_
    rw [← (show s = g from e)] at hb
    exact hb.uniq hsP
  have regOf : ∀ q, RegAt w q → RegAt (w1.setCell ⟨s, 0, none⟩ (.slice P' (rs.length + 1) cap')) q := fun q hq => by
    refine ⟨far _ _ _ (by decide) (by decide) hq.blk, hq.len, hq.small, hq.first0, hq.first1, fun hp => ?_⟩
    obtain ⟨d, cs, e, hd, hl, hc⟩ := hq.row hp
    exact ⟨d, cs, e, far _ _ _ (by decide) (by decide) hd, hl, hc⟩
  have hql : ((rs.map ptrV).take k ++ ptrV rg :: (rs.map ptrV).drop k) = (ins rs k rg).map ptrV := (ins_map ptrV rs k rg).symm
  rw [hql] at hp
  refine ⟨⟨⟨P', cap', ?_, ⟨by rw [ins_length]; exact hbig, by simpa using hp.len, hp.small, ?_, fun q hq => ?_⟩, hP'⟩, h.base, fun q hq => ?_, ?_, hris, fun q hq => ?_⟩, below_set h.base hbl 0 _⟩
  · rw [ins_length]; exact hs2
  · rcases hp.row with hn | ⟨p, cs, e, hb, hsz, hat⟩
    · exact .inl hn
    · refine .inr ⟨p, cs, e, hb.far ?_ _, hsz, fun i hi => ?_⟩
      · intro e2
        rw [← (show s = p from e2)] at hb
        exact absurd (hb.uniq hs1) (by decide)
      · rw [hat i (by simpa using hi), List.getElem?_map, List.getElem?_eq_getElem hi]; rfl
  · rcases (mem_ins rs k rg q).1 hq with rfl | hq
    · exact regOf q hreg
    · exact regOf q (hrow.regs q hq)
  · rcases (mem_ins rs k rg q).1 hq with rfl | hq
    · exact hdB
    · exact h.data q hq
  · refine pairwise_ins (fun a b hab ha hb e => hab hb ha e.symm) rs k rg h.apart (fun q hq => hfresh q hq)
  · rcases (mem_ins rs k rg q).1 hq with rfl | hq
    · exact hbytes
    · exact h.bytes q hq
theorem rising_ins : ∀ (rs : List Reg) (r : Reg), Rising rs → (¬ ∃ q ∈ rs, q.first = r.first) → Rising (ins rs (place rs r.first) r)
  | [], r, _, _ => ⟨fun q hq => by simp [place] at hq, trivial⟩
  | q :: rs, r, h, hn => by
    by_cases hc : q.first < r.first
    · have e : place (q :: rs) r.first = place rs r.first + 1 := by
        unfold place; rw [List.takeWhile_cons, if_pos (by simpa using hc)]; rfl
      rw [e]
      show Rising (q :: ins rs (place rs r.first) r)
      refine ⟨fun p hp => ?_, rising_ins rs r h.2 (fun ⟨p, hp, hpf⟩ => hn ⟨p, List.mem_cons_of_mem _ hp, hpf⟩)⟩
      rcases (mem_ins rs _ r p).1 hp with rfl | hp
      · exact hc
      · exact h.1 p hp
    · have e : place (q :: rs) r.first = 0 := by
        unfold place; rw [List.takeWhile_cons, if_neg (by simpa using hc)]; rfl
      rw [e]
      show Rising (r :: q :: rs)
      have hne : q.first ≠ r.first := fun e => hn ⟨q, List.mem_cons_self, e⟩
      refine ⟨fun p hp => ?_, h⟩
      rcases List.mem_cons.1 hp with rfl | hp
      · omega
      · have := h.1 p hp; omega
def aheadBad (rs : List Reg) (f : Int) : Bool := match fullDown rs (place rs f) with
  | some a => decide (f ≤ wlast a.first a.data.length)
  | none => false
def behindBad (rs : List Reg) (f : Int) (n : Nat) : Bool := match fullUp rs (place rs f) with
  | some b => decide (b.first ≤ wlast f n)
  | none => false
/-- may a region be added? -/
def mayAdd (rs : List Reg) (f : Int) (l : List Int) : Bool :=
  !decide (∃ r ∈ rs, r.first = f) && (l.isEmpty || (!decide (wlast f l.length < f) && !aheadBad rs f && !behindBad rs f l.length))
def AddRes (may : Bool) (B : Nat) (w : World) (s : Nat) (rs : List Reg) (f : Int) (l : List Int) (e : Ending) (w' : World) : Prop :=
  if may then e = .returned (.int .i64 0) ∧ Below B w w' ∧ ∃ rg : Reg, rg.first = f ∧ rg.data = l ∧ St B w' s (ins rs (place rs f) rg)
  else e = .returned (.int .i64 201) ∧ Below B w w' ∧ St B w' s rs
theorem fullUp_mem (rs : List Reg) (n : Nat) (r : Reg) (h : fullUp rs n = some r) : r ∈ rs ∧ 0 < r.data.length := by
  have hf := List.find?_some h
  have hm := List.mem_of_find?_eq_some h
  exact ⟨List.mem_of_mem_drop hm, by simpa [full] using hf⟩
theorem fullDown_mem' (rs : List Reg) (n : Nat) (r : Reg) (h : fullDown rs n = some r) : r ∈ rs ∧ 0 < r.data.length := by
  obtain ⟨i, hi, _, rfl, hf⟩ := fullDown_mem rs n r h
  exact ⟨List.getElem_mem hi, by simpa [full] using hf⟩
end Go.Proofs.Ythmeojeehemlaaa.Mem
