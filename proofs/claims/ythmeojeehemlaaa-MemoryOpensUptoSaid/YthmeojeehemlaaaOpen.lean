/- What comes in, opened by its type: a value that reads as data is a value of the print's kind, whose numbers are of their kinds and whose rows and texts keep within the form's reach. Written by this session; over any program. -/
import Derived.Test.YthmeojeehemlaaaWWords
import Derived.Deep.Slices
import Derived.SizedLaws
import Derived.ChangeArms
namespace Go.Proofs.YthmeojeehemlaaaW.Open
open Go.RowKit Go.ChangeShapes Go.WideShapes Go.Proofs.YthmeojeehemlaaaW.PrintWords
set_option linter.unusedVariables false

theorem weightsAll_mem {H : Type} {P : Program} {e : TypeId} : ∀ {l : List (DataW H)} {d : DataW H}, d ∈ l → ∀ n ∈ d.weights P e, n ∈ DataW.weightsAll P e l
  | d0 :: l, d, hd, n, hn => by
    simp only [DataW.weightsAll, List.mem_append]
    rcases List.mem_cons.1 hd with rfl | h
    · exact Or.inl hn
    · exact Or.inr (weightsAll_mem h n hn)
  | [], _, hd, _, _ => by cases hd

/-- Every value of type t that reads as data is one of kind d, for which ok holds. -/
def Opn {α : Type} (P : Program) (t : TypeId) (d : Kd α) (ok : α → Prop) : Prop :=
  ∀ {H : Type} (enc : TypeId × Value → H) (W : World) (fuel : Nat) (cs : List Value) (x : DataW H × List MemPlace),
    DataW.trod enc P W 0 (fun _ => true) true fuel t cs = some x → (∀ m ∈ x.1.weights P t, m ≤ reachBytes) → ∃ v, d.K W v cs ∧ ok v

def sums (P : Program) (ts : List TypeId) : Nat := (ts.map P.cellsOf).sum

/-- .. of the fields in line. -/
def Fields {α : Type} (P : Program) (ts : List TypeId) (d : Kd α) (ok : α → Prop) : Prop :=
  ∀ {H : Type} (enc : TypeId × Value → H) (W : World) (fuel : Nat) (cs : List Value) (xs : List (DataW H × List MemPlace)),
    cs.length = sums P ts → xs.length = ts.length →
    (∀ (i : Nat) t, ts[i]? = some t → DataW.trod enc P W 0 (fun _ => true) true fuel t ((cs.drop (sums P (ts.take i))).take (P.cellsOf t)) = xs[i]?) →
    (∀ m ∈ DataW.weightsEach P ts (xs.map (·.1)), m ≤ reachBytes) → ∃ v, d.K W v cs ∧ ok v

section
variable {α β : Type} {P : Program}

theorem opn_int {t : TypeId} {k : IntKind} (ht : P.underlying t = some (.int k)) : Opn P t (Kd.int k) (fun n => (Lit.int k n).wf = true) := by
  intro H enc W fuel cs x h _
  obtain ⟨n, rfl, _, wf⟩ := DataW.trod_int ht h
  exact ⟨n, rfl, wf⟩
theorem opn_bool {t : TypeId} (ht : P.underlying t = some .bool) : Opn P t Kd.bool (fun _ => True) := by
  intro H enc W fuel cs x h _
  obtain ⟨b, rfl, _⟩ := DataW.trod_bool ht h
  exact ⟨b, rfl, trivial⟩
theorem opn_string {t : TypeId} (ht : P.underlying t = some .string) : Opn P t Kd.string (fun s => s.size ≤ reachBytes) := by
  intro H enc W fuel cs x h hw
  obtain ⟨s, rfl, rfl, _⟩ := DataW.trod_string ht h
  refine ⟨s, rfl, ?_⟩
  have := hw s.data.toList.length (by simp [DataW.weights])
  simpa using this

theorem fields_one {t : TypeId} {d : Kd α} {ok : α → Prop} (ho : Opn P t d ok) : Fields P [t] d ok := by
  intro H enc W fuel cs xs hl hx ht hw
  match xs, hx with
  | [x], _ =>
    have h := ht 0 t rfl
    have hl' : cs.length = P.cellsOf t := by simpa [sums] using hl
    simp only [sums, List.take_zero, List.map_nil, List.sum_nil, List.drop_zero, List.getElem?_cons_zero] at h
    rw [← hl', List.take_length] at h
    exact ho enc W fuel cs x h (fun m hm => hw m (by simp [DataW.weightsEach, hm]))

theorem fields_cons {t : TypeId} {ts : List TypeId} {d : Kd α} {e : Kd β} {ok : α → Prop} {ok' : β → Prop} (ho : Opn P t d ok) (hf : Fields P ts e ok') :
    Fields P (t :: ts) (Kd.pair d e) (fun v => ok v.1 ∧ ok' v.2) := by
  intro H enc W fuel cs xs hl hx ht hw
  match xs, hx with
  | x :: xs, hx =>
    have hl' : cs.length = P.cellsOf t + sums P ts := by simpa [sums] using hl
    have h := ht 0 t rfl
    simp only [sums, List.take_zero, List.map_nil, List.sum_nil, List.drop_zero, List.getElem?_cons_zero] at h
    obtain ⟨v, hv, okv⟩ := ho enc W fuel _ x h (fun m hm => hw m (by simp [DataW.weightsEach, hm]))
    obtain ⟨u, hu, oku⟩ := hf enc W fuel (cs.drop (P.cellsOf t)) xs (by rw [List.length_drop, hl']; omega) (by simpa using hx) (fun i t' hi => by
      have h' := ht (i + 1) t' (by simpa using hi)
      rw [List.getElem?_cons_succ] at h'
      rw [← h', List.drop_drop]
      simp [sums]) (fun m hm => hw m (by simp only [List.map_cons, DataW.weightsEach, List.mem_append]; exact .inr hm))
    exact ⟨(v, u), ⟨_, _, (List.take_append_drop (P.cellsOf t) cs).symm, hv, hu⟩, okv, oku⟩

theorem opn_struct {t : TypeId} {fs : Array Field} {ts : List TypeId} {d : Kd α} {ok : α → Prop} (f : β → α) (g : α → β) (hfg : ∀ a, f (g a) = a) (ht : P.underlying t = some (.struct fs)) (hts : fs.toList.map (·.type) = ts)
    (hoff : fs.toList.map (·.offset) = (List.range fs.size).map fun i => sums P (ts.take i)) (hc : P.cellsOf t = sums P ts) (hf : Fields P ts d ok) : Opn P t (Kd.iso d f) (fun v => ok (f v)) := by
  intro H enc W fuel cs x h hw
  obtain ⟨xs, n, rfl, rfl, hl, hx, hi⟩ := DataW.trod_struct ht h
  have hn : ts.length = fs.size := by rw [← hts]; simp
  obtain ⟨v, hv, okv⟩ := hf enc W n cs xs (by rw [hl, hc]) (by rw [hx, hn]) (fun i t' hit => by
    have hlt : i < fs.size := by rw [← hn]; exact (List.getElem?_eq_some_iff.1 hit).1
    have e1 : fs[i]? = some fs[i] := Array.getElem?_eq_getElem hlt
    have e2 : fs[i].type = t' := by
      rw [← hts, List.getElem?_map, Array.getElem?_toList, e1] at hit
      simpa using hit
    have e3 : fs[i].offset = sums P (ts.take i) := by
      have := congrArg (fun l => l[i]?) hoff
      simp only [List.getElem?_map, Array.getElem?_toList, e1, Option.map_some, List.getElem?_range hlt] at this
      simpa using this
    have := hi i fs[i] e1
    rw [e2, e3] at this
    exact this) (fun m hm => hw m (by simp only [DataW.weights, ht, hts]; exact hm))
  exact ⟨g v, by show d.K W (f (g v)) cs; rw [hfg]; exact hv, by show ok (f (g v)); rw [hfg]; exact okv⟩

theorem list_of {n : Nat} {p : Nat → α → Prop} (h : ∀ i, i < n → ∃ x, p i x) : ∃ l : List α, l.length = n ∧ ∀ (i : Nat) x, l[i]? = some x → p i x := by
  induction n with
  | zero => exact ⟨[], rfl, fun i x hx => by simp at hx⟩
  | succ n ih =>
    obtain ⟨l, hl, hp⟩ := ih (fun i hi => h i (by omega))
    obtain ⟨x, hx⟩ := h n (by omega)
    refine ⟨l ++ [x], by simp [hl], fun i y hy => ?_⟩
    rcases Nat.lt_or_ge i n with hi | hi
    · rw [List.getElem?_append_left (by omega)] at hy
      exact hp i y hy
    · have : i < (l ++ [x]).length := (List.getElem?_eq_some_iff.1 hy).1
      have e : i = n := by simp [hl] at this; omega
      subst e
      rw [← hl, List.getElem?_concat_length] at hy
      obtain rfl := Option.some.inj hy
      exact hx

theorem opn_slice {t e : TypeId} {d : Kd α} {ok : α → Prop} (ht : P.underlying t = some (.slice e)) (hs : P.cellsOf e = d.sz) (ho : Opn P e d ok) :
    Opn P t (Kd.slice e d) (fun l => (∀ v ∈ l, ok v) ∧ l.length * P.bytesOf e ≤ reachBytes) := by
  intro H enc W fuel cs x h hw
  rcases DataW.trod_slice ht h with ⟨rfl, rfl⟩ | ⟨a, len, cap, elems, rest, n, rfl, rfl, rfl, _, hl, hm, hlen, hel, hsp, _⟩
  · exact ⟨[], ⟨none, 0, rfl, Nat.le_refl _, rfl, by simp, fun h => absurd h (by simp)⟩, by simp, by simp⟩
  · have hwt : ∀ m ∈ DataW.weightsAll P e (elems.map (·.1)), m ≤ reachBytes := fun m hm => hw m (by
      simp only [DataW.weights, ht]
      exact List.mem_cons_of_mem _ (List.mem_append_left _ hm))
    have hbig : (elems.length + rest.length) * P.bytesOf e ≤ reachBytes := by
      have := hw ((elems.length + rest.length) * P.bytesOf e) (by simp [DataW.weights, ht])
      exact this
    have one : ∀ i, i < len → ∃ v, (∃ c, c.length = d.sz ∧ d.K W v c ∧ ∀ j u, c[j]? = some u → W.cell? (a.add (i * d.sz + j)) = some u) ∧ ok v := by
      intro i hi
      have h1 := hel i hi
      have hlt : i < elems.length := by omega
      rw [List.getElem?_eq_getElem hlt] at h1
      obtain ⟨c, hc, htr⟩ := Option.bind_eq_some_iff.1 h1
      obtain ⟨_, hcl, hcc⟩ := World.cells?_some hc
      obtain ⟨v, hv, okv⟩ := ho enc W n c _ htr (fun m hm => hwt m (weightsAll_mem (List.mem_map.2 ⟨elems[i], List.getElem_mem hlt, rfl⟩) m hm))
      refine ⟨v, ⟨c, by rw [hcl, hs], hv, fun j u hu => ?_⟩, okv⟩
      have hj : j < P.cellsOf e := by rw [← hcl]; exact (List.getElem?_eq_some_iff.1 hu).1
      rw [← hu, ← hcc j hj, Deep.add_add, hs]
    obtain ⟨l, hll, hp⟩ := list_of one
    subst hll
    refine ⟨l, ⟨some a, cap, rfl, hl, rfl, by unfold maxLen at hm; omega, fun _ => ⟨a, rfl, fun j p hj => (hp j p hj).1⟩⟩, fun v hv => ?_, ?_⟩
    · obtain ⟨i, hi⟩ := List.mem_iff_getElem?.1 hv
      exact (hp i v hi).2
    · refine Nat.le_trans (Nat.mul_le_mul_right _ ?_) hbig
      omega

theorem opn_weaken {t : TypeId} {d : Kd α} {ok ok' : α → Prop} (h : Opn P t d ok) (hk : ∀ v, ok v → ok' v) : Opn P t d ok' := by
  intro H enc W fuel cs x ht hw
  obtain ⟨v, hv, o⟩ := h enc W fuel cs x ht hw
  exact ⟨v, hv, hk v o⟩

/-- At an argument of a row. -/
theorem opn_arg {H : Type} {enc : TypeId × Value → H} {t : TypeId} {d : Kd α} {ok : α → Prop} (ho : Opn P t d ok) {W : World} {v : Value} {x : DataW H} {ps : List MemPlace} {ts : List TypeId} {ds : List (DataW H)} {j : Nat}
    (h : DataW.Trod enc P W 0 (fun _ => true) true t v x ps) (hsz : (DataW.weightsEach P ts ds).all (· ≤ reachBytes) = true) (ht : ts[j]? = some t) (hd : ds[j]? = some x) :
    ∃ a, d.K W a v.cells.toList ∧ ok a := by
  obtain ⟨fuel, hf⟩ := h
  refine ho enc W fuel _ _ hf (fun m hm => ?_)
  have := List.all_eq_true.1 hsz m (DataW.weights_mem_each ht hd m hm)
  simpa using this
end
end Go.Proofs.YthmeojeehemlaaaW.Open
