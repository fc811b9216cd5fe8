/- Package memory: find, full, view. Written by this session. -/
import Derived.Test.YthmeojeehemlaaaPMx0
import Derived.RegionTactic
import Derived.WalkKit
import Derived.KernelRfl
import Derived.Deep.QuietTactic
import Derived.BigQuiet
import Derived.Laws.MakeOwn
import Derived.Laws.OwnMore
import Derived.OwnWalk
import Derived.Deep.LoopGhost
import Derived.Lib.Hide
import Derived.Deep.RegionWith
import Derived.Laws.IdiomCopy
namespace Go.Proofs.Ythmeojeehemlaaa.Mem
open Go.RowKit Go.Proofs.YthmeojeehemlaaaW.PrintWords
set_option linter.unusedVariables false
set_option linter.unusedSimpArgs false
attribute [local go_sem] isSome_setCell

/-! A block that is known whole. -/
def Blk (w : World) (g : Nat) (t : TypeId) (cs : Array Value) : Prop := w.heap[g]? = some (.cells cs t (0, 0))
section
variable {w w' : World} {g : Nat} {t : TypeId} {cs : Array Value}
theorem Blk.lt (h : Blk w g t cs) : g < w.heap.size := by
  rcases Nat.lt_or_ge g w.heap.size with hlt | hge
  · exact hlt
  · unfold Blk at h; rw [Array.getElem?_eq_none hge] at h; cases h
theorem Blk.cell (h : Blk w g t cs) (i : Nat) : w.cell? ⟨g, i, none⟩ = cs[i]? := by
  unfold Blk at h
  simp [World.cell?, h]
theorem Blk.frozen (h : Blk w g t cs) (i : Nat) : w.frozen? ⟨g, i, none⟩ = false := by
  unfold Blk at h
  simp [World.frozen?, h]
theorem Blk.set_ (h : Blk w g t cs) (i : Nat) (u : Value) : Blk (w.setCell ⟨g, i, none⟩ u) g t (cs.setIfInBounds i u) := by
  unfold Blk at h ⊢
  simp [World.setCell, Array.getElem?_modify, h]
theorem Blk.far (h : Blk w g t cs) {p : Addr} (hp : p.block ≠ g) (u : Value) : Blk (w.setCell p u) g t cs := by
  unfold Blk at h ⊢
  rw [← h]
  simp [World.setCell, Array.getElem?_modify, hp]
theorem Blk.drewN (h : Blk w g t cs) (n : Nat) : Blk (w.drewN n) g t cs := h
theorem Blk.drew (h : Blk w g t cs) : Blk w.drew g t cs := h
theorem Blk.alloc (h : Blk w g t cs) (o : Obj) : Blk (w.alloc o) g t cs := by
  have hl := h.lt
  unfold Blk at h ⊢
  rw [← h]
  simp only [World.alloc, Array.getElem?_push]
  rw [if_neg (by omega)]
theorem Blk.new (w : World) (t : TypeId) (cs : Array Value) : Blk (w.alloc (.cells cs t)) w.heap.size t cs := heap_alloc_new w _
theorem Blk.below {B : Nat} (h : Blk w g t cs) (hb : Below B w w') (hB : g < B) : Blk w' g t cs := (hb.block g hB).trans h
end

/-! The parts of a space. -/
structure Reg where
  b : Nat
  first : Int
  A : Option Addr
  cap : Nat
  data : List Int
/-- a region in memory -/
structure RegAt (w : World) (r : Reg) : Prop where
  blk : Blk w r.b 108 #[.int .u64 r.first, .slice r.A r.data.length r.cap]
  len : r.data.length ≤ r.cap
  small : r.cap < 9223372036854775808
  first0 : 0 ≤ r.first
  first1 : r.first < 18446744073709551616
  row : 0 < r.data.length → ∃ (d : Nat) (cs : Array Value), r.A = some ⟨d, 0, none⟩ ∧ Blk w d 5 cs ∧ r.data.length ≤ cs.size ∧ ∀ i (h : i < r.data.length), cs[i]? = some (.int .u8 r.data[i])
def order (a b : Int) : Int := if a < b then -1 else if a > b then 1 else 0
theorem compare_ (w : World) (f x : Int) : Calls Try.prog 82 #[.int .u64 f, .int .u64 x] w fun e w' => e = .returned (.int .i64 (order f x)) ∧ w' = w := by
  rcases Int.lt_trichotomy f x with h | h | h
  · have e : order f x = -1 := by unfold order; rw [if_pos h]
    rw [e]
    have d : decide (f < x) = true := decide_eq_true h
    go_enter Try.func82, Try.ntmps82
    go_wp2
    go_ret
    exact ⟨rfl, rfl⟩
  · subst h
    have e : order f f = 0 := by unfold order; rw [if_neg (by omega), if_neg (by omega)]
    rw [e]
    go_enter Try.func82, Try.ntmps82
    go_wp2
    go_ret
    exact ⟨rfl, rfl⟩
  · have e : order f x = 1 := by unfold order; rw [if_neg (by omega), if_pos h]
    rw [e]
    have d : decide (f < x) = false := decide_eq_false (by omega)
    have d2 : decide (x < f) = true := decide_eq_true h
    have hn : ¬ f < x := by omega
    go_enter Try.func82, Try.ntmps82
    go_wp2
    go_ret
    exact ⟨rfl, rfl⟩
theorem cmp_ (w : World) (b : Nat) (f x : Int) (hc : w.cell? ⟨b, 0, none⟩ = some (.int .u64 f)) :
    Calls Try.prog 81 #[.pointer (some ⟨b, 0, none⟩), .int .u64 x] w fun e w' => e = .returned (.int .i64 (order f x)) ∧ w' = w := by
  go_enter Try.func81, Try.ntmps81
  go_wp2_with (go_at_call 82; refine (compare_ _ _ _).mono ?_; rintro e w' ⟨rfl, rfl⟩)
  go_ret
  exact ⟨rfl, rfl⟩
/-- how many begin ahead of an address: the place that find answers -/
def place (rs : List Reg) (x : Int) : Nat := (rs.takeWhile fun r => decide (r.first < x)).length
theorem place_le (rs : List Reg) (x : Int) : place rs x ≤ rs.length := by unfold place; exact (List.takeWhile_sublist _).length_le
/-- rising first addresses -/
def Rising : List Reg → Prop
  | [] => True
  | r :: rs => (∀ q ∈ rs, r.first < q.first) ∧ Rising rs
theorem rising_at : ∀ (rs : List Reg) (h : Rising rs) (i j : Nat) (hi : i < j) (hj : j < rs.length), rs[i].first < rs[j].first
  | r :: rs, h, 0, j + 1, _, hj => h.1 _ (List.getElem_mem _)
  | r :: rs, h, i + 1, j + 1, hi, hj => rising_at rs h.2 i j (by omega) (by simpa using hj)
theorem place_unique : ∀ (rs : List Reg) (x : Int) (k : Nat), k ≤ rs.length → (∀ i (h : i < rs.length), i < k → rs[i].first < x) → (∀ (h : k < rs.length), ¬ rs[k].first < x) → place rs x = k
  | [], x, k, hk, _, _ => by simp at hk; subst hk; rfl
  | r :: rs, x, 0, _, _, h2 => by
    unfold place
    have h : ¬ r.first < x := h2 (by simp)
    rw [List.takeWhile_cons, if_neg (by simpa using h)]; rfl
  | r :: rs, x, k + 1, hk, h1, h2 => by
    have ih := place_unique rs x k (by simpa using hk) (fun i h hi => by have := h1 (i + 1) (by simpa using h) (by omega); simpa using this) (fun h => by have := h2 (by simpa using h); simpa using this)
    unfold place at ih ⊢
    have h : r.first < x := h1 0 (by simp) (by omega)
    rw [List.takeWhile_cons, if_pos (by simpa using h)]
    simp [ih]
/-- the row of pointers, and the regions -/
structure RowAt (w : World) (P : Option Addr) (cap : Nat) (rs : List Reg) : Prop where
  big : rs.length < 4398046511104
  len : rs.length ≤ cap
  small : cap ≤ 9223372036854775807
  row : (P = none ∧ cap = 0) ∨ ∃ (p : Nat) (cs : Array Value), P = some ⟨p, 0, none⟩ ∧ Blk w p 106 cs ∧ cs.size = cap ∧ ∀ i (h : i < rs.length), cs[i]? = some (.pointer (some ⟨rs[i].b, 0, none⟩))
  regs : ∀ r ∈ rs, RegAt w r
theorem RowAt.at_ {w : World} {P : Option Addr} {cap : Nat} {rs : List Reg} (h : RowAt w P cap rs) (i : Nat) (hi : i < rs.length) : ∃ p, P = some ⟨p, 0, none⟩ ∧ w.cell? ⟨p, i, none⟩ = some (.pointer (some ⟨rs[i].b, 0, none⟩)) ∧ RegAt w rs[i] := by
  rcases h.row with ⟨_, h0⟩ | ⟨p, cs, e, hb, hl, hc⟩
  · have := h.len; omega
  · exact ⟨p, e, (hb.cell i).trans (hc i hi), h.regs _ (List.getElem_mem hi)⟩
theorem RegAt.f {w : World} {r : Reg} (h : RegAt w r) : w.cell? ⟨r.b, 0, none⟩ = some (.int .u64 r.first) := h.blk.cell 0
theorem RegAt.d {w : World} {r : Reg} (h : RegAt w r) : w.cell? ⟨r.b, 1, none⟩ = some (.slice r.A r.data.length r.cap) := h.blk.cell 1
set_option maxHeartbeats 2000000 in
set_option maxRecDepth 100000 in
theorem search_ (w : World) (P : Option Addr) (cap : Nat) (rs : List Reg) (x : Int) (h : RowAt w P cap rs) (hr : Rising rs) :
    Calls Try.prog 80 #[.slice P rs.length cap, .int .u64 x, .func (.func 81) #[] #[]] w fun e w' => e = .returned (.tuple #[.int .i64 (place rs x), .bool (decide (∃ r ∈ rs, r.first = x))]) ∧ w' = w := by
  have H := Lib.hid h
  have HR := Lib.hid hr
  obtain ⟨n, hn⟩ : ∃ n, n = rs.length := ⟨_, rfl⟩
  have HN := Lib.hid hn
  have hs : n < 4398046511104 := by have := h.big; omega
  rw [← hn]
  clear h hr hn
  go_enter Try.func80, Try.ntmps80
  go_wp2
  go_loop [9, 10] (fun i j => ∃ (a b : Nat), a ≤ b ∧ b ≤ n ∧ i = .int .i64 (a : Int) ∧ j = .int .i64 (b : Int) ∧ Hid (∀ t (ht : t < rs.length), t < a → rs[t].first < x) ∧ Hid (∀ t (ht : t < rs.length), b ≤ t → x ≤ rs[t].first)) (fun i j => (intOf j).toNat - (intOf i).toNat)
  case atStart => exact ⟨0, n, Nat.zero_le _, Nat.le_refl _, rfl, rfl, Lib.hid (fun t ht h => absurd h (by omega)), Lib.hid (fun t ht h => absurd h (by rw [HN.out]; omega))⟩
  case round =>
    obtain ⟨a, b, hab, hbn, rfl, rfl, h1, h2⟩ := hrel
    by_cases hlt : a < b
    · have hqa : a ≤ (a + b) / 2 := by omega
      have hqb : (a + b) / 2 < b := by omega
      have HQ := Lib.hid (show (a + b) / 2 < rs.length by rw [← HN.out]; omega)
      obtain ⟨p, hP, c0, hreg⟩ := H.out.at_ ((a + b) / 2) HQ.out
      subst hP
      obtain ⟨R, hR⟩ : ∃ R, R = rs[(a + b) / 2]'HQ.out := ⟨_, rfl⟩
      rw [← hR] at c0 hreg
      have HR2 := Lib.hid hR
      have cf := hreg.f
      clear hR
      by_cases ho : R.first < x
      · have e : order R.first x = -1 := by unfold order; rw [if_pos ho]
        have HO := Lib.hid ho
        clear ho
        go_wp2_with (go_at_call 81; refine (cmp_ _ _ _ _ cf).mono ?_; rintro e' w' ⟨rfl, rfl⟩; rw [e])
        go_round
        case rel => exact ⟨(a + b) / 2 + 1, b, by omega, hbn, by go_num, rfl, Lib.hid (fun t ht h => by
          rcases Nat.lt_or_ge t ((a + b) / 2) with h3 | h3
          · have := rising_at rs HR.out t ((a + b) / 2) h3 HQ.out
            have h4 := HO.out
            rw [HR2.out] at h4
            omega
          · obtain rfl : t = (a + b) / 2 := by omega
            have h4 := HO.out
            rw [HR2.out] at h4
            exact h4), h2⟩
        case measure => simp [intOf]; omega
      · have HO := Lib.hid ho
        have e : (if order R.first x < 0 then true else false) = false := by
          unfold order; rw [if_neg ho]; split <;> rfl
        have e2 : ¬ order R.first x < 0 := by unfold order; rw [if_neg ho]; split <;> omega
        have e3 := decide_eq_false e2
        obtain ⟨z, hz⟩ : ∃ z, z = order R.first x := ⟨_, rfl⟩
        rw [← hz] at e2 e3
        clear ho e
        go_wp2_with (go_at_call 81; refine (cmp_ _ _ _ _ cf).mono ?_; rintro e' w' ⟨rfl, rfl⟩; rw [← hz])
        go_round
        case rel => exact ⟨a, (a + b) / 2, by omega, by omega, rfl, by go_num, h1, Lib.hid (fun t ht h => by
          have h4 := HO.out
          rw [HR2.out] at h4
          rcases Nat.lt_or_ge ((a + b) / 2) t with h3 | h3
          · have := rising_at rs HR.out ((a + b) / 2) t h3 ht
            omega
          · obtain rfl : t = (a + b) / 2 := by omega
            omega)⟩
        case measure => simp [intOf]; omega
    · obtain rfl : a = b := by omega
      have hp := Lib.hid (place_unique rs x a (by rw [← HN.out]; exact hbn) (fun i h hi => h1.out i h hi) (fun h => by have := h2.out a h (Nat.le_refl _); omega))
      by_cases hend : a < n
      · have HQ := Lib.hid (show a < rs.length by rw [← HN.out]; omega)
        obtain ⟨p, hP, c0, hreg⟩ := H.out.at_ a HQ.out
        subst hP
        obtain ⟨R, hR⟩ : ∃ R, R = rs[a]'HQ.out := ⟨_, rfl⟩
        rw [← hR] at c0 hreg
        have HR2 := Lib.hid hR
        have cf := hreg.f
        clear hR
        have hdec : decide (∃ r ∈ rs, r.first = x) = (order R.first x == 0) := by
          have hnl : ¬ R.first < x := by have := h2.out a HQ.out (Nat.le_refl _); rw [HR2.out]; omega
          by_cases he : R.first = x
          · rw [decide_eq_true ⟨R, by rw [HR2.out]; exact List.getElem_mem _, he⟩, show order R.first x = 0 by unfold order; rw [if_neg hnl, if_neg (by omega)]]; rfl
          · rw [show order R.first x = 1 by unfold order; rw [if_neg hnl, if_pos (by omega)], decide_eq_false]
            · rfl
            · rintro ⟨r, hr, hrx⟩
              obtain ⟨t, ht, rfl⟩ := List.getElem_of_mem hr
              rcases Nat.lt_trichotomy t a with h | h | h
              · have := h1.out t ht h; omega
              · subst h; exact he (by rw [HR2.out]; exact hrx)
              · have := rising_at rs HR.out a t h ht
                rw [HR2.out] at hnl
                omega
        have HD := Lib.hid hdec
        clear hdec
        go_wp2_with (go_at_call 81; refine (cmp_ _ _ _ _ cf).mono ?_; rintro e' w' ⟨rfl, rfl⟩)
        go_ret2
        refine ⟨?_, rfl⟩
        rw [hp.out, HD.out]
        rfl
      · obtain rfl : a = n := by omega
        have HD := Lib.hid (show decide (∃ r ∈ rs, r.first = x) = false from decide_eq_false (by
          rintro ⟨r, hr, hrx⟩
          obtain ⟨t, ht, rfl⟩ := List.getElem_of_mem hr
          have := h1.out t ht (by rw [HN.out]; exact ht)
          omega))
        go_wp2_with fail
        go_ret2
        refine ⟨?_, rfl⟩
        rw [hp.out, HD.out]
        rfl
end Go.Proofs.Ythmeojeehemlaaa.Mem
