/- The document's package of spaces: New, Regions, plainly. Written by this session. -/
import Derived.Test.YthmeojeehemlaaaMem16
import Derived.Test.YthmeojeehemlaaaPMx5
import Derived.Test.YthmeojeehemlaaaPMx8
import Derived.Test.YthmeojeehemlaaaPMx7
namespace Go.Proofs.Ythmeojeehemlaaa.Mem
open Go.RowKit Go.Proofs.YthmeojeehemlaaaW.PrintWords
open Go.Proofs.Ythmeojeehemlaaa.PM
set_option linter.unusedVariables false
set_option linter.unusedSimpArgs false
def mayR (f : Int) (n : Nat) : Bool := n == 0 || !decide (wlast f n < f)
theorem may_eq (f : Int) (l : List Int) (hl : l.length ≤ 140737488355328) : spindleref20_may.f f l = some (mayR f l.length) := by
  unfold spindleref20_may.f mayR
  by_cases hz : l.length = 0
  · rw [if_pos (by omega), hz]; rfl
  · have e : IntKind.u64.wrap (f + IntKind.u64.wrap (wrap64 ((l.length : Int) - 1))) = wlast f l.length := by
      unfold wlast; rw [w64 _ (by omega) (by omega)]; simp only [IntKind.wrap_u64]; omega
    have hz2 : (l.length == 0) = false := beq_eq_false_iff_ne.mpr hz
    rw [if_neg (by omega), e, hz2, Bool.false_or]
    congr 1
    by_cases h : wlast f l.length < f
    · rw [decide_eq_true h, decide_eq_false (by omega)]; rfl
    · rw [decide_eq_false h, decide_eq_true (by omega)]; rfl
def Clash (f1 : Int) (n1 : Nat) (f2 : Int) (n2 : Nat) : Prop := f1 = f2 ∨ (f2 < f1 ∧ 0 < n2 ∧ 0 < n1 ∧ f1 - f2 < (n2 : Int)) ∨ (f1 < f2 ∧ 0 < n1 ∧ 0 < n2 ∧ f2 - f1 < (n1 : Int))
instance (f1 : Int) (n1 : Nat) (f2 : Int) (n2 : Nat) : Decidable (Clash f1 n1 f2 n2) := by unfold Clash; infer_instance
theorem clash_eq (s t : S39) (hs : Fits s) (ht : Fits t) : spindleref20_clash.f s.f0 s.f1 t.f0 t.f1 = some (decide (Clash s.f0 s.f1.length t.f0 t.f1.length)) := by
  obtain ⟨a0, a1, _, a2⟩ := hs
  obtain ⟨b0, b1, _, b2⟩ := ht
  unfold spindleref20_clash.f
  by_cases h : s.f0 = t.f0
  · rw [if_pos h, decide_eq_true (show Clash _ _ _ _ from Or.inl h)]
  · rw [if_neg h]
    by_cases h2 : s.f0 > t.f0
    · rw [if_pos h2]
      by_cases h3 : (t.f1.length : Int) > 0
      · rw [if_pos h3]
        by_cases h4 : (s.f1.length : Int) > 0
        · rw [if_pos h4, u64 _ (by omega) (by omega), u64 _ (by omega) (by omega)]
          congr 1
          rw [decide_eq_decide]
          unfold Clash
          omega
        · rw [if_neg h4, decide_eq_false (by unfold Clash; omega)]
      · rw [if_neg h3, decide_eq_false (by unfold Clash; omega)]
    · rw [if_neg h2]
      by_cases h3 : (s.f1.length : Int) > 0
      · rw [if_pos h3]
        by_cases h4 : (t.f1.length : Int) > 0
        · rw [if_pos h4, u64 _ (by omega) (by omega), u64 _ (by omega) (by omega)]
          congr 1
          rw [decide_eq_decide]
          unfold Clash
          omega
        · rw [if_neg h4, decide_eq_false (by unfold Clash; omega)]
      · rw [if_neg h3, decide_eq_false (by unfold Clash; omega)]
theorem copied_eq (f : Int) (l : List Int) (hl : l.length < 140737488355328) : spindleref20_copied.f f l = some (f, l) := by
  unfold spindleref20_copied.f
  rw [if_pos (by simpa using hl), List.nil_append]
theorem scopy_l0 (xs : List S39) (hl : xs.length ≤ 1048576) (hx : ∀ x ∈ xs, x.f1.length ≤ 1048576) : ∀ (k i : Nat), i ≤ xs.length → xs.length - i < k → spindleref20_Space_Copy.l0 k (i : Int) xs (xs.take i) = some xs := by
  intro k
  induction k with
  | zero => intro i _ h; omega
  | succ k ih =>
    intro i hi hk
    simp only [spindleref20_Space_Copy.l0]
    by_cases hlt : i < xs.length
    · have hx1 := hx _ (List.getElem_mem hlt)
      rw [if_pos (by omega), if_pos (by omega), rd39 xs i hlt, copied_eq _ _ (by omega)]
      simp only [Option.bind_some]
      rw [if_pos (by rw [List.length_take]; omega), w64 _ (by omega) (by omega)]
      have e : xs.take i ++ [(⟨xs[i].f0, xs[i].f1⟩ : S39)] = xs.take (i + 1) := by
        rw [List.take_succ_eq_append_getElem hlt]
      rw [e]
      have := ih (i + 1) (by omega) (by omega)
      rw [← this]
      rfl
    · rw [if_neg (by omega), List.take_of_length_le (by omega)]
theorem scopy_eq (xs : List S39) (hl : xs.length ≤ 1048576) (hx : ∀ x ∈ xs, x.f1.length ≤ 1048576) (k : Nat) (hk : xs.length < k) : spindleref20_Space_Copy.f k xs = some xs := scopy_l0 xs hl hx _ 0 (Nat.zero_le _) (by omega)
/-- may a region stand beside these? -/
def Fine (xs : List S39) (x : S39) : Prop := mayR x.f0 x.f1.length = true ∧ ∀ s ∈ xs, ¬ Clash s.f0 s.f1.length x.f0 x.f1.length
def Small (x : S39) : Prop := Fits x ∧ x.f1.length ≤ 1048576
theorem add_j1 (xs : List S39) (x : S39) (hl : xs.length ≤ 1048576) (hx : ∀ y ∈ xs, Small y) (hs : Small x) (b : Bool) (k : Nat) (hk : xs.length + 1 < k) : spindleref20_Space_Add.j1 k b xs x.f0 x.f1 = some (if b = true then (xs ++ [x], 0) else (xs, 201)) := by
  obtain ⟨k, rfl⟩ : ∃ k', k = k' + 1 := ⟨k - 1, by omega⟩
  simp only [spindleref20_Space_Add.j1]
  cases b with
  | false => rfl
  | true =>
    rw [if_pos rfl, if_pos rfl, scopy_eq xs hl (fun y hy => (hx y hy).2) k (by omega)]
    simp only [Option.bind_some]
    rw [copied_eq _ _ (by have := hs.2; omega)]
    simp only [Option.bind_some]
    rw [if_pos (by omega)]
theorem add_l0 (xs : List S39) (x : S39) (hl : xs.length ≤ 1048576) (hx : ∀ y ∈ xs, Small y) (hs : Small x) : ∀ (k i : Nat) (b : Bool), i ≤ xs.length → 2 * xs.length + 2 - i < k →
    ∃ c : Bool, (c = true ↔ b = true ∧ ∀ s ∈ xs.drop i, ¬ Clash s.f0 s.f1.length x.f0 x.f1.length) ∧ spindleref20_Space_Add.l0 k b (i : Int) xs x.f0 x.f1 = some (if c = true then (xs ++ [x], 0) else (xs, 201)) := by
  intro k
  induction k with
  | zero => intro i b _ h; omega
  | succ k ih =>
    intro i b hi hk
    simp only [spindleref20_Space_Add.l0]
    cases b with
    | false =>
      rw [if_neg (by decide)]
      exact ⟨false, by simp, add_j1 xs x hl hx hs false k (by omega)⟩
    | true =>
      rw [if_pos rfl]
      by_cases hlt : i < xs.length
      · rw [if_pos (by omega), if_pos (by omega), rd39 xs i hlt, clash_eq _ _ (hx _ (List.getElem_mem hlt)).1 hs.1]
        simp only [Option.bind_some]
        rw [w64 _ (by omega) (by omega)]
        obtain ⟨c, hc, h⟩ := ih (i + 1) (!decide (Clash xs[i].f0 xs[i].f1.length x.f0 x.f1.length)) (by omega) (by omega)
        refine ⟨c, hc.trans ?_, h⟩
        rw [List.drop_eq_getElem_cons hlt]
        simp only [Bool.not_eq_true', decide_eq_false_iff_not, List.forall_mem_cons, true_and]
      · rw [if_neg (by omega), List.drop_of_length_le (by omega)]
        exact ⟨true, by simp, add_j1 xs x hl hx hs true k (by omega)⟩
theorem add_eq (xs : List S39) (x : S39) (hl : xs.length ≤ 1048576) (hx : ∀ y ∈ xs, Small y) (hs : Small x) (k : Nat) (hk : 2 * xs.length + 2 < k) :
    ∃ c : Bool, (c = true ↔ Fine xs x) ∧ spindleref20_Space_Add.f k xs x.f0 x.f1 = some (if c = true then (xs ++ [x], 0) else (xs, 201)) := by
  unfold spindleref20_Space_Add.f
  rw [may_eq _ _ (by have := hs.2; omega)]
  simp only [Option.bind_some]
  obtain ⟨c, hc, h⟩ := add_l0 xs x hl hx hs k 0 (mayR x.f0 x.f1.length) (Nat.zero_le _) (by omega)
  refine ⟨c, ?_, h⟩
  rw [hc, List.drop_zero]
  rfl
/-- New of the document -/
theorem rnew_l0 (xs : List S39) (hl : xs.length ≤ 1048576) (hx : ∀ y ∈ xs, Small y) : ∀ (k i : Nat), i ≤ xs.length → 4 * xs.length + 4 - i < k →
    ∃ r, spindleref20_New.l0 k xs (i : Int) (xs.take i) = some r ∧ ((r = (xs, 0) ∧ ∀ j (h : j < xs.length), i ≤ j → Fine (xs.take j) xs[j]) ∨ (r = ([], 201) ∧ ∃ j, ∃ h : j < xs.length, i ≤ j ∧ ¬ Fine (xs.take j) xs[j])) := by
  intro k
  induction k with
  | zero => intro i _ h; omega
  | succ k ih =>
    intro i hi hk
    simp only [spindleref20_New.l0]
    by_cases hlt : i < xs.length
    · rw [if_pos (by omega), if_pos (by omega), rd39 xs i hlt]
      obtain ⟨c, hc, h⟩ := add_eq (xs.take i) xs[i] (by rw [List.length_take]; omega) (fun y hy => hx y (List.mem_of_mem_take hy)) (hx _ (List.getElem_mem hlt)) k (by rw [List.length_take]; omega)
      rw [h]
      cases c with
      | true =>
        rw [if_pos rfl]
        simp only [Option.bind_some]
        rw [if_pos trivial, w64 _ (by omega) (by omega), ← List.take_succ_eq_append_getElem hlt]
        obtain ⟨r, h1, h2⟩ := ih (i + 1) (by omega) (by omega)
        refine ⟨r, h1, ?_⟩
        rcases h2 with ⟨h2, h3⟩ | ⟨h2, j, hj, hij, h3⟩
        · refine .inl ⟨h2, fun j hj hij => ?_⟩
          by_cases he : i = j
          · subst he; exact hc.1 rfl
          · exact h3 j hj (by omega)
        · exact .inr ⟨h2, j, hj, by omega, h3⟩
      | false =>
        rw [if_neg (by decide)]
        simp only [Option.bind_some]
        rw [if_neg (by decide)]
        exact ⟨_, rfl, .inr ⟨rfl, i, hlt, Nat.le_refl _, fun hf => by have := hc.2 hf; cases this⟩⟩
    · rw [if_neg (by omega), List.take_of_length_le (by omega)]
      exact ⟨_, rfl, .inl ⟨rfl, fun j hj hij => by omega⟩⟩
theorem rnew_eq (xs : List S39) (hl : xs.length ≤ 1048576) (hx : ∀ y ∈ xs, Small y) :
    ∃ r, spindleref20_New.f (4 * xs.length + 5) xs = some r ∧ ((r = (xs, 0) ∧ ∀ j (h : j < xs.length), Fine (xs.take j) xs[j]) ∨ (r = ([], 201) ∧ ∃ j, ∃ h : j < xs.length, ¬ Fine (xs.take j) xs[j])) := by
  obtain ⟨r, h1, h2⟩ := rnew_l0 xs hl hx (4 * xs.length + 5) 0 (Nat.zero_le _) (by omega)
  refine ⟨r, h1, ?_⟩
  rcases h2 with ⟨h2, h3⟩ | ⟨h2, j, hj, _, h3⟩
  · exact .inl ⟨h2, fun j hj => h3 j hj (Nat.zero_le _)⟩
  · exact .inr ⟨h2, j, hj, h3⟩
theorem adds_mem {xs : List S39} {rs : List Reg} (h : Adds xs rs) : (∀ r ∈ rs, s39 r ∈ xs) ∧ (∀ s ∈ xs, ∃ r ∈ rs, s39 r = s) := by
  induction h with
  | nil => exact ⟨fun _ h => absurd h List.not_mem_nil, fun _ h => absurd h List.not_mem_nil⟩
  | @snoc xs rs x rg _ hm h1 h2 ih =>
    have e : s39 rg = x := by unfold s39; rw [h1, h2]
    refine ⟨fun r hr => ?_, fun s hs => ?_⟩
    · rcases (mem_ins _ _ _ r).1 hr with rfl | hr
      · rw [e]; simp
      · exact List.mem_append_left _ (ih.1 r hr)
    · rcases List.mem_append.1 hs with hs | hs
      · obtain ⟨r, hr, he⟩ := ih.2 s hs
        exact ⟨r, (mem_ins _ _ _ r).2 (.inr hr), he⟩
      · rw [List.mem_singleton.1 hs]
        exact ⟨rg, (mem_ins _ _ _ rg).2 (.inl rfl), e⟩
theorem adds_rising {xs : List S39} {rs : List Reg} (h : Adds xs rs) : Rising rs := by
  induction h with
  | nil => trivial
  | @snoc xs rs x rg _ hm h1 h2 ih =>
    unfold mayAdd at hm
    rw [Bool.and_eq_true] at hm
    have hn : ¬ ∃ r ∈ rs, r.first = x.f0 := by simpa using hm.1
    rw [← h1] at hn ⊢
    exact rising_ins rs rg ih hn
theorem may_fine {xs : List S39} {rs : List Reg} (h : Adds xs rs) (hF : ∀ y ∈ xs, Fits y) (x : S39) (hx : Fits x) : mayAdd rs x.f0 x.f1 = true ↔ Fine xs x := by
  obtain ⟨hA, hE⟩ := adds_good h hF
  have hR := adds_rising h
  obtain ⟨m1, m2⟩ := adds_mem h
  obtain ⟨x0, x1, _, x2⟩ := hx
  constructor
  · intro hm
    have hg := good_ins rs ⟨0, x.f0, none, 0, x.f1⟩ hA hE hm x0 x1 x2
    unfold mayAdd at hm
    rw [Bool.and_eq_true] at hm
    have hn : ¬ ∃ r ∈ rs, r.first = x.f0 := by simpa using hm.1
    refine ⟨?_, fun s hs hc => ?_⟩
    · unfold mayR
      rw [Bool.or_eq_true] at hm ⊢
      rcases hm.2 with h1 | h1
      · exact .inl (by rw [List.isEmpty_iff] at h1; rw [h1]; rfl)
      · rw [Bool.and_eq_true, Bool.and_eq_true] at h1
        exact .inr h1.1.1
    · obtain ⟨r, hr, rfl⟩ := m2 s hs
      have hne : r.first ≠ x.f0 := fun e => hn ⟨r, hr, e⟩
      simp only [s39] at hc
      have hap := hg.1
      unfold Apt ins at hap
      rw [List.pairwise_append] at hap
      have hr2 : r ∈ rs.take (place rs x.f0) ∨ r ∈ rs.drop (place rs x.f0) := by
        rw [← List.mem_append, List.take_append_drop]; exact hr
      rcases hc with hc | ⟨c1, c2, c3, c4⟩ | ⟨c1, c2, c3, c4⟩
      · exact hne hc
      · rcases hr2 with h2 | h2
        · have := hap.2.2 r h2 _ List.mem_cons_self c3 c2
          simp only at this
          omega
        · have := (List.pairwise_cons.1 hap.2.1).1 r h2 c2 c3
          simp only at this
          omega
      · rcases hr2 with h2 | h2
        · have := hap.2.2 r h2 _ List.mem_cons_self c2 c3
          simp only at this
          omega
        · have := (List.pairwise_cons.1 hap.2.1).1 r h2 c3 c2
          simp only at this
          omega
  · rintro ⟨hm, hc⟩
    have hcl : ∀ r ∈ rs, ¬ Clash r.first r.data.length x.f0 x.f1.length := fun r hr => hc _ (m1 r hr)
    have hn : ¬ ∃ r ∈ rs, r.first = x.f0 := fun ⟨r, hr, e⟩ => hcl r hr (.inl e)
    unfold mayAdd
    rw [decide_eq_false hn, Bool.not_false, Bool.true_and, Bool.or_eq_true]
    rcases Nat.eq_zero_or_pos x.f1.length with hz | hp
    · exact .inl (by rw [List.isEmpty_iff]; exact List.length_eq_zero_iff.1 hz)
    · right
      have hw : ¬ wlast x.f0 x.f1.length < x.f0 := by
        unfold mayR at hm
        rw [Bool.or_eq_true] at hm
        rcases hm with h1 | h1
        · have := beq_iff_eq.1 h1; omega
        · simpa using h1
      have hend := wlast_fits _ _ x0 x1 hp x2 hw
      have hwl := wlast_eq _ _ x0 hp hend
      rw [Bool.and_eq_true, Bool.and_eq_true]
      refine ⟨⟨by simpa using hw, ?_⟩, ?_⟩
      · unfold aheadBad
        cases hfd : fullDown rs (place rs x.f0) with
        | none => rfl
        | some a =>
          obtain ⟨i, hi, hip, ha, hfa⟩ := fullDown_mem rs _ a hfd
          have ham : a ∈ rs := by rw [← ha]; exact List.getElem_mem hi
          have hal := (full_iff a).1 hfa
          have hlt := place_below rs x.f0 i hi hip
          rw [ha] at hlt
          obtain ⟨e0, _, _, e3⟩ := hE a ham
          have hna := hcl a ham
          have hwa := wlast_eq _ _ e0 hal (e3 hal)
          have : ¬ x.f0 ≤ wlast a.first a.data.length := fun hle => hna (.inr (.inr ⟨hlt, hal, hp, by omega⟩))
          simp [this]
      · unfold behindBad
        cases hfu : fullUp rs (place rs x.f0) with
        | none => rfl
        | some b =>
          obtain ⟨pre, post, hsp, hbl, _⟩ := fullUp_split rs _ b hfu
          have hbd : b ∈ rs.drop (place rs x.f0) := by rw [hsp]; simp
          have hbm : b ∈ rs := List.mem_of_mem_drop hbd
          obtain ⟨j, hj, hbj⟩ := List.getElem_of_mem hbd
          rw [List.getElem_drop] at hbj
          have hjl : place rs x.f0 + j < rs.length := by simp at hj; omega
          have hge : x.f0 ≤ b.first := by
            have h1 := place_at rs x.f0 (by omega)
            rcases Nat.eq_zero_or_pos j with hj0 | hj0
            · subst hj0
              have : rs[place rs x.f0 + 0] = rs[place rs x.f0] := rfl
              rw [← hbj]; exact h1
            · have h2 := rising_at rs hR (place rs x.f0) (place rs x.f0 + j) (by omega) hjl
              rw [← hbj]; omega
          have hne : b.first ≠ x.f0 := fun e => hn ⟨b, hbm, e⟩
          have hnb := hcl b hbm
          have : ¬ b.first ≤ wlast x.f0 x.f1.length := fun hle => hnb (.inr (.inl ⟨by omega, hp, hbl, by omega⟩))
          simp [this]
theorem adds_prefix {xs : List S39} {rs : List Reg} (h : Adds xs rs) (hF : ∀ y ∈ xs, Fits y) : ∀ j (hj : j < xs.length), Fine (xs.take j) xs[j] := by
  induction h with
  | nil => intro j hj; exact absurd hj (Nat.not_lt_zero j)
  | @snoc xs rs x rg h0 hm h1 h2 ih =>
    intro j hj
    by_cases hlt : j < xs.length
    · have := ih (fun y hy => hF y (List.mem_append_left _ hy)) j hlt
      rw [List.take_append_of_le_length (by omega), List.getElem_append_left hlt]
      exact this
    · have e : j = xs.length := by simp at hj; omega
      subst e
      rw [List.take_left', List.getElem_append_right (Nat.le_refl _)]
      · simp only [Nat.sub_self, List.getElem_cons_zero]
        exact (may_fine h0 (fun y hy => hF y (List.mem_append_left _ hy)) x (hF x (by simp))).1 hm
      · rfl

theorem same_l0 (xs : List S39) (hl : xs.length ≤ 1048576) : ∀ (k i : Nat), i ≤ xs.length → xs.length - i < k → spindlelaw20_SameRegions.l0 k xs xs (i : Int) = some true := by
  intro k
  induction k with
  | zero => intro i _ h; omega
  | succ k ih =>
    intro i hi hk
    simp only [spindlelaw20_SameRegions.l0]
    by_cases hlt : i < xs.length
    · have hb : spindlelaw0_SameBytes.f (rd_T39 xs (i : Int)).f1 (rd_T39 xs (i : Int)).f1 = some true := by
        unfold spindlelaw0_SameBytes.f; simp
      rw [if_pos (by omega), if_pos (by omega), if_pos (by omega), if_pos trivial, hb]
      simp only [Option.bind_some]
      rw [if_pos trivial, w64 _ (by omega) (by omega)]
      have := ih (i + 1) (by omega) (by omega)
      rw [← this]
      rfl
    · rw [if_neg (by omega)]
theorem same_eq (xs : List S39) (hl : xs.length ≤ 1048576) : spindlelaw20_SameRegions.f (xs.length + 1) xs xs = some true := by
  unfold spindlelaw20_SameRegions.f
  rw [if_pos rfl]
  exact same_l0 xs hl _ 0 (Nat.zero_le _) (by omega)
/-- does a region stand above those that are out already? -/
def Above (rs : List Reg) (k : Nat) (f : Int) : Prop := ∀ h : k - 1 < rs.length, 0 < k → (rs[k - 1]'h).first < f
/-- the best place so far -/
def Best (xs : List S39) (rs : List Reg) (k i : Nat) (b : Int) : Prop :=
  (b = -1 ∧ ∀ j (h : j < xs.length), j < i → ¬ Above rs k xs[j].f0) ∨ (∃ m : Nat, b = (m : Int) ∧ ∃ h : m < xs.length, Above rs k xs[m].f0 ∧ ∀ j (hj : j < xs.length), j < i → Above rs k xs[j].f0 → xs[m].f0 ≤ xs[j].f0)
theorem best_keep {xs : List S39} {rs : List Reg} {k i : Nat} {b : Int} (h : Best xs rs k i b) (hi : i < xs.length) (hn : ¬ Above rs k xs[i].f0 ∨ (∃ m : Nat, b = (m : Int) ∧ ∃ hm : m < xs.length, xs[m].f0 ≤ xs[i].f0)) : Best xs rs k (i + 1) b := by
  rcases h with ⟨h1, h2⟩ | ⟨m, h1, hm, h2, h3⟩
  · refine .inl ⟨h1, fun j hj hji => ?_⟩
    by_cases he : j = i
    · subst he
      rcases hn with hn | ⟨m, hb, _⟩
      · exact hn
      · omega
    · exact h2 j hj (by omega)
  · refine .inr ⟨m, h1, hm, h2, fun j hj hji hab => ?_⟩
    by_cases he : j = i
    · subst he
      rcases hn with hn | ⟨m2, hb, hm2, hle⟩
      · exact absurd hab hn
      · have e : m2 = m := by omega
        subst e; exact hle
    · exact h3 j hj (by omega) hab
theorem best_new {xs : List S39} {rs : List Reg} {k i : Nat} {b : Int} (h : Best xs rs k i b) (hi : i < xs.length) (ha : Above rs k xs[i].f0) (hn : b = -1 ∨ (∃ m : Nat, b = (m : Int) ∧ ∃ hm : m < xs.length, xs[i].f0 < xs[m].f0)) : Best xs rs k (i + 1) (i : Int) := by
  refine .inr ⟨i, rfl, hi, ha, fun j hj hji hab => ?_⟩
  by_cases he : j = i
  · subst he; exact Int.le_refl _
  · rcases h with ⟨h1, h2⟩ | ⟨m, h1, hm, h2, h3⟩
    · exact absurd hab (h2 j hj (by omega))
    · have h4 := h3 j hj (by omega) hab
      rcases hn with hn | ⟨m2, hb, hm2, hlt⟩
      · omega
      · have e : m2 = m := by omega
        subst e; omega
theorem sort_l1 (xs : List S39) (rs : List Reg) (ha : Adds xs rs) (hx : ∀ y ∈ xs, Small y) (hl : xs.length ≤ 1048576) (k : Nat) (hk : k < rs.length) (F : Nat) : ∀ (d i : Nat) (b : Int), i + d = xs.length → Best xs rs k i b →
    spindleref20_Space_Regions.l1 (d + 1 + F) ((rs.map s39).take k) b (i : Int) xs = spindleref20_Space_Regions.l0 F ((rs.map s39).take (k + 1)) xs := by
  have hlen := ha.len
  have hR := adds_rising ha
  obtain ⟨m1, m2⟩ := adds_mem ha
  have hol : ((rs.map s39).take k).length = k := by simp; omega
  intro d
  induction d with
  | zero =>
    intro i b hi hb
    rw [show 0 + 1 + F = F + 1 by omega]
    simp only [spindleref20_Space_Regions.l1]
    rw [if_neg (by omega)]
    have hi' : i = xs.length := by omega
    obtain ⟨j0, hj0, he0⟩ := List.getElem_of_mem (m1 _ (List.getElem_mem hk))
    have hab0 : Above rs k xs[j0].f0 := by
      intro h1 h2
      rw [he0]
      exact rising_at rs hR (k - 1) k (by omega) hk
    rcases hb with ⟨_, h2⟩ | ⟨m, rfl, hm, h2, h3⟩
    · exact absurd hab0 (h2 j0 hj0 (by omega))
    · have hle := h3 j0 hj0 (by omega) hab0
      rw [he0] at hle
      obtain ⟨r, hr, hre⟩ := m2 _ (List.getElem_mem hm)
      obtain ⟨t, ht, rfl⟩ := List.getElem_of_mem hr
      have hf : rs[t].first = xs[m].f0 := by rw [← hre]; rfl
      have hkt : t = k := by
        have hle2 : rs[t].first ≤ rs[k].first := by rw [hf]; exact hle
        rcases Nat.lt_trichotomy t k with h | h | h
        · have h5 := h2 (by omega) (by omega)
          rw [← hf] at h5
          by_cases he : t = k - 1
          · subst he; omega
          · have := rising_at rs hR t (k - 1) (by omega) (by omega); omega
        · exact h
        · have := rising_at rs hR k t h ht; omega
      subst hkt
      rw [if_pos (by omega), if_pos (by omega), rd39 xs m hm, copied_eq _ _ (by have := (hx _ (List.getElem_mem hm)).2; omega)]
      simp only [Option.bind_some]
      rw [if_pos (by rw [hol]; omega)]
      congr 1
      rw [List.take_succ_eq_append_getElem (by simpa using hk), List.getElem_map, hre]
  | succ d ih =>
    intro i b hi hb
    rw [show d + 1 + 1 + F = (d + 1 + F) + 1 by omega]
    have hix : i < xs.length := by omega
    have hnext : ∀ b', Best xs rs k (i + 1) b' → spindleref20_Space_Regions.l1 (d + 1 + F) ((rs.map s39).take k) b' (wrap64 ((i : Int) + 1)) xs = spindleref20_Space_Regions.l0 F ((rs.map s39).take (k + 1)) xs := fun b' hb' => by
      rw [w64 _ (by omega) (by omega)]
      exact ih (i + 1) b' (by omega) hb'
    simp only [spindleref20_Space_Regions.l1]
    rw [if_pos (by omega), hol]
    rcases Nat.eq_zero_or_pos k with hk0 | hk0
    · subst hk0
      have hab : Above rs 0 xs[i].f0 := fun _ h => absurd h (by omega)
      rw [if_pos (by omega)]
      rcases hb with ⟨rfl, h2⟩ | ⟨m, rfl, hm, h2, h3⟩
      · rw [if_pos (by omega)]
        exact hnext _ (best_new (.inl ⟨rfl, h2⟩) hix hab (.inl rfl))
      · have hb : Best xs rs 0 i (m : Int) := .inr ⟨m, rfl, hm, h2, h3⟩
        rw [if_neg (by omega), if_pos (by omega), if_pos (by omega), if_pos (by omega), rd39 xs i hix, rd39 xs m hm]
        by_cases hlt : xs[i].f0 < xs[m].f0
        · rw [if_pos hlt]; exact hnext _ (best_new hb hix hab (.inr ⟨m, rfl, hm, hlt⟩))
        · rw [if_neg hlt]; exact hnext _ (best_keep hb hix (.inr ⟨m, rfl, hm, by omega⟩))
    · rw [if_neg (by omega), if_pos (by omega), w64 ((k : Int) - 1) (by omega) (by omega), if_pos (by omega), if_pos (by omega)]
      have hlast : rd_T39 ((rs.map s39).take k) ((k : Int) - 1) = s39 (rs[k - 1]'(by omega)) := by
        rw [show ((k : Int) - 1) = ((k - 1 : Nat) : Int) by omega, rd39 _ (k - 1) (by rw [hol]; omega), List.getElem_take, List.getElem_map]
      rw [hlast, rd39 xs i hix]
      by_cases hab : xs[i].f0 > (s39 (rs[k - 1]'(by omega))).f0
      · rw [if_pos hab]
        have hab' : Above rs k xs[i].f0 := fun _ _ => hab
        rcases hb with ⟨rfl, h2⟩ | ⟨m, rfl, hm, h2, h3⟩
        · rw [if_pos (by omega)]
          exact hnext _ (best_new (.inl ⟨rfl, h2⟩) hix hab' (.inl rfl))
        · have hb : Best xs rs k i (m : Int) := .inr ⟨m, rfl, hm, h2, h3⟩
          rw [if_neg (by omega), if_pos (by omega), if_pos (by omega), rd39 xs m hm]
          by_cases hlt : xs[i].f0 < xs[m].f0
          · rw [if_pos hlt]; exact hnext _ (best_new hb hix hab' (.inr ⟨m, rfl, hm, hlt⟩))
          · rw [if_neg hlt]; exact hnext _ (best_keep hb hix (.inr ⟨m, rfl, hm, by omega⟩))
      · rw [if_neg hab]
        exact hnext _ (best_keep hb hix (.inl fun h => hab (h (by omega) hk0)))
theorem sort_l0 (xs : List S39) (rs : List Reg) (ha : Adds xs rs) (hx : ∀ y ∈ xs, Small y) (hl : xs.length ≤ 1048576) : ∀ (d k : Nat), k + d = rs.length → spindleref20_Space_Regions.l0 (d * (xs.length + 2) + 1) ((rs.map s39).take k) xs = some (rs.map s39) := by
  have hlen := ha.len
  intro d
  induction d with
  | zero =>
    intro k hk
    simp only [spindleref20_Space_Regions.l0, Nat.zero_mul, Nat.zero_add]
    rw [if_neg (by simp; omega), List.take_of_length_le (by simp; omega)]
  | succ d ih =>
    intro k hk
    rw [show (d + 1) * (xs.length + 2) + 1 = (xs.length + 1 + (d * (xs.length + 2) + 1)) + 1 by rw [Nat.add_mul]; omega]
    simp only [spindleref20_Space_Regions.l0]
    rw [if_pos (by simp; omega)]
    have h := sort_l1 xs rs ha hx hl k (by omega) (d * (xs.length + 2) + 1) xs.length 0 (-1) (by omega) (.inl ⟨rfl, fun j _ h => absurd h (Nat.not_lt_zero j)⟩)
    exact h.trans (ih (k + 1) (by omega))
theorem sort_eq (xs : List S39) (rs : List Reg) (ha : Adds xs rs) (hx : ∀ y ∈ xs, Small y) (hl : xs.length ≤ 1048576) : ∃ k, spindleref20_Space_Regions.f k xs = some (rs.map s39) :=
  ⟨_, sort_l0 xs rs ha hx hl rs.length 0 (by omega)⟩

end Go.Proofs.Ythmeojeehemlaaa.Mem
