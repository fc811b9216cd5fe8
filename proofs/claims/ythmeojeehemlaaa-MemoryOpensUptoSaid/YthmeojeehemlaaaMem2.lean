/- Package memory: find, full, view. Written by this session. -/
import Derived.Test.YthmeojeehemlaaaMem
namespace Go.Proofs.Ythmeojeehemlaaa.Mem
open Go.RowKit Go.Proofs.YthmeojeehemlaaaW.PrintWords
set_option linter.unusedVariables false
set_option linter.unusedSimpArgs false
attribute [local go_sem] isSome_setCell

/-- a space in memory -/
def SpaceAt (w : World) (s : Nat) (rs : List Reg) : Prop := ∃ P cap, Blk w s 61 #[.slice P rs.length cap] ∧ RowAt w P cap rs
theorem find_ (w : World) (s : Nat) (rs : List Reg) (x : Int) (h : SpaceAt w s rs) (hr : Rising rs) :
    Calls Try.prog 58 #[.pointer (some ⟨s, 0, none⟩), .int .u64 x] w fun e w' => e = .returned (.tuple #[.int .i64 (place rs x), .bool (decide (∃ r ∈ rs, r.first = x))]) ∧ w' = w := by
  obtain ⟨P, cap, hb, hrow⟩ := h
  have c0 := hb.cell 0
  simp only [List.getElem?_toArray, List.getElem?_cons_zero] at c0
  have H := Lib.hid hrow
  have HR := Lib.hid hr
  clear hb hrow hr
  go_enter Try.func58, Try.ntmps58
  go_wp2_with (go_at_call 80; refine (search_ _ _ _ rs _ H.out HR.out).mono ?_; rintro e' w' ⟨rfl, rfl⟩)
  go_ret2
  exact ⟨rfl, rfl⟩
def ptrOf : Option Reg → Value
  | some r => .pointer (some ⟨r.b, 0, none⟩)
  | none => .pointer none
def full (r : Reg) : Bool := decide (0 < r.data.length)
def fullDown (rs : List Reg) (n : Nat) : Option Reg := (rs.take n).reverse.find? full
def fullUp (rs : List Reg) (n : Nat) : Option Reg := (rs.drop n).find? full
theorem fullDown_zero (rs : List Reg) : fullDown rs 0 = none := by simp [fullDown]
theorem fullDown_succ (rs : List Reg) (n : Nat) (h : n < rs.length) : fullDown rs (n + 1) = if full rs[n] then some rs[n] else fullDown rs n := by
  unfold fullDown
  rw [List.take_succ_eq_append_getElem h, List.reverse_append]
  simp only [List.reverse_cons, List.reverse_nil, List.nil_append, List.singleton_append, List.find?_cons]
  split <;> simp_all
theorem fullUp_end (rs : List Reg) (n : Nat) (h : rs.length ≤ n) : fullUp rs n = none := by simp [fullUp, List.drop_of_length_le h]
theorem fullUp_step (rs : List Reg) (n : Nat) (h : n < rs.length) : fullUp rs n = if full rs[n] then some rs[n] else fullUp rs (n + 1) := by
  unfold fullUp
  rw [List.drop_eq_getElem_cons h, List.find?_cons]
  split <;> simp_all
set_option maxHeartbeats 2000000 in
set_option maxRecDepth 100000 in
theorem full_down (w : World) (s : Nat) (rs : List Reg) (n : Nat) (h : SpaceAt w s rs) (hn : n ≤ rs.length) :
    Calls Try.prog 60 #[.pointer (some ⟨s, 0, none⟩), .int .i64 ((n : Int) - 1), .int .i64 (-1)] w fun e w' => e = .returned (ptrOf (fullDown rs n)) ∧ w' = w := by
  obtain ⟨P, cap, hb, hrow⟩ := h
  have c0 := hb.cell 0
  simp only [List.getElem?_toArray, List.getElem?_cons_zero] at c0
  have H := Lib.hid hrow
  obtain ⟨L, hL⟩ : ∃ L, L = rs.length := ⟨_, rfl⟩
  have HL := Lib.hid hL
  have hs : L < 4398046511104 := by have := hrow.big; omega
  rw [← hL] at c0 hn
  clear hb hrow hL
  go_enter Try.func60, Try.ntmps60
  go_wp2
  go_loop [1] (fun i => ∃ (m : Nat), m ≤ n ∧ i = .int .i64 ((m : Int) - 1) ∧ Hid (fullDown rs m = fullDown rs n)) (fun i => (intOf i + 1).toNat)
  case atStart => exact ⟨n, Nat.le_refl _, rfl, Lib.hid rfl⟩
  case round =>
    obtain ⟨m, hm, rfl, hf⟩ := hrel
    rcases Nat.eq_zero_or_pos m with h0 | h0
    · subst h0
      go_wp2
      go_ret
      refine ⟨?_, rfl⟩
      rw [← hf.out, fullDown_zero]
      rfl
    · obtain ⟨k, rfl⟩ : ∃ k, m = k + 1 := ⟨m - 1, by omega⟩
      have HQ := Lib.hid (show k < rs.length by rw [← HL.out]; omega)
      obtain ⟨p, hP, c1, hreg⟩ := H.out.at_ k HQ.out
      subst hP
      obtain ⟨R, hR⟩ : ∃ R, R = rs[k]'HQ.out := ⟨_, rfl⟩
      rw [← hR] at c1 hreg
      have HR2 := Lib.hid hR
      have cd := hreg.d
      clear hR
      have hstep := Lib.hid (fullDown_succ rs k HQ.out)
      by_cases hfull : 0 < R.data.length
      · have hd : decide (0 < R.data.length) = true := decide_eq_true hfull
        go_wp2
        go_ret
        refine ⟨?_, rfl⟩
        rw [← hf.out, hstep.out, if_pos (by rw [← HR2.out]; exact hd), ← HR2.out]
        rfl
      · have hd : decide (0 < R.data.length) = false := decide_eq_false hfull
        have hz : R.data.length = 0 := by omega
        have HD := Lib.hid hd
        clear hfull hd
        rw [hz] at cd
        go_wp2
        go_round
        case rel => exact ⟨k, by omega, by go_num, Lib.hid (by rw [← hf.out, hstep.out, if_neg (by rw [← HR2.out]; show ¬ full R = true; unfold full; rw [HD.out]; decide)])⟩
        case measure => simp [intOf]; omega
set_option maxHeartbeats 2000000 in
set_option maxRecDepth 100000 in
theorem full_up (w : World) (s : Nat) (rs : List Reg) (n : Nat) (h : SpaceAt w s rs) (hn : n ≤ rs.length) :
    Calls Try.prog 60 #[.pointer (some ⟨s, 0, none⟩), .int .i64 (n : Int), .int .i64 1] w fun e w' => e = .returned (ptrOf (fullUp rs n)) ∧ w' = w := by
  obtain ⟨P, cap, hb, hrow⟩ := h
  have c0 := hb.cell 0
  simp only [List.getElem?_toArray, List.getElem?_cons_zero] at c0
  have H := Lib.hid hrow
  obtain ⟨L, hL⟩ : ∃ L, L = rs.length := ⟨_, rfl⟩
  have HL := Lib.hid hL
  have hs : L < 4398046511104 := by have := hrow.big; omega
  rw [← hL] at c0 hn
  clear hb hrow hL
  go_enter Try.func60, Try.ntmps60
  go_wp2
  go_loop [1] (fun i => ∃ (k : Nat), k ≤ L ∧ i = .int .i64 (k : Int) ∧ Hid (fullUp rs k = fullUp rs n)) (fun i => L - (intOf i).toNat)
  case atStart => exact ⟨n, hn, rfl, Lib.hid rfl⟩
  case round =>
    obtain ⟨k, hm, rfl, hf⟩ := hrel
    by_cases h0 : k < L
    · have HQ := Lib.hid (show k < rs.length by rw [← HL.out]; omega)
      obtain ⟨p, hP, c1, hreg⟩ := H.out.at_ k HQ.out
      subst hP
      obtain ⟨R, hR⟩ : ∃ R, R = rs[k]'HQ.out := ⟨_, rfl⟩
      rw [← hR] at c1 hreg
      have HR2 := Lib.hid hR
      have cd := hreg.d
      clear hR
      have hstep := Lib.hid (fullUp_step rs k HQ.out)
      by_cases hfull : 0 < R.data.length
      · have hd : decide (0 < R.data.length) = true := decide_eq_true hfull
        go_wp2
        go_ret
        refine ⟨?_, rfl⟩
        rw [← hf.out, hstep.out, if_pos (by rw [← HR2.out]; exact hd), ← HR2.out]
        rfl
      · have hd : decide (0 < R.data.length) = false := decide_eq_false hfull
        have hz : R.data.length = 0 := by omega
        have HD := Lib.hid hd
        clear hfull hd
        rw [hz] at cd
        go_wp2
        go_round
        case rel => exact ⟨k + 1, by omega, by go_num, Lib.hid (by rw [← hf.out, hstep.out, if_neg (by rw [← HR2.out]; show ¬ full R = true; unfold full; rw [HD.out]; decide)])⟩
        case measure => simp [intOf]; omega
    · obtain rfl : k = L := by omega
      go_wp2
      go_ret
      refine ⟨?_, rfl⟩
      rw [← hf.out, fullUp_end rs _ (by rw [← HL.out]; exact Nat.le_refl _)]
      rfl
theorem full_down' (w : World) (s : Nat) (rs : List Reg) (n : Nat) (z : Int) (h : SpaceAt w s rs) (hn : n ≤ rs.length) (hz : z = (n : Int) - 1) :
    Calls Try.prog 60 #[.pointer (some ⟨s, 0, none⟩), .int .i64 z, .int .i64 (-1)] w fun e w' => e = .returned (ptrOf (fullDown rs n)) ∧ w' = w := by
  subst hz; exact full_down w s rs n h hn
/-- the region that may hold an address: the last full one that begins at or ahead of it -/
def upTo (rs : List Reg) (x : Int) : Nat := if (∃ h : place rs x < rs.length, full (rs[place rs x]'h) = true ∧ (rs[place rs x]'h).first = x) then place rs x + 1 else place rs x
theorem upTo_le (rs : List Reg) (x : Int) : upTo rs x ≤ rs.length := by
  unfold upTo
  split
  · rename_i h; obtain ⟨h, _⟩ := h; omega
  · exact place_le rs x
theorem place_below : ∀ (rs : List Reg) (x : Int) (i : Nat) (h : i < rs.length), i < place rs x → rs[i].first < x
  | r :: rs, x, i, h, hi => by
    unfold place at hi
    rw [List.takeWhile_cons] at hi
    by_cases hc : r.first < x
    · rw [if_pos (by simpa using hc)] at hi
      cases i with
      | zero => exact hc
      | succ i => exact place_below rs x i (by simpa using h) (by unfold place; simpa using hi)
    · rw [if_neg (by simpa using hc)] at hi; simp at hi
theorem place_at : ∀ (rs : List Reg) (x : Int) (h : place rs x < rs.length), x ≤ rs[place rs x].first
  | r :: rs, x, h => by
    by_cases hc : r.first < x
    · have e : place (r :: rs) x = place rs x + 1 := by
        unfold place; rw [List.takeWhile_cons, if_pos (by simpa using hc)]; rfl
      have ih := place_at rs x (by rw [e] at h; simpa using h)
      simp only [e, List.getElem_cons_succ]
      exact ih
    · have e : place (r :: rs) x = 0 := by
        unfold place; rw [List.takeWhile_cons, if_neg (by simpa using hc)]; rfl
      simp only [e, List.getElem_cons_zero]
      omega
theorem there_iff (rs : List Reg) (x : Int) (hr : Rising rs) : (∃ r ∈ rs, r.first = x) ↔ ∃ h : place rs x < rs.length, (rs[place rs x]'h).first = x := by
  constructor
  · rintro ⟨r, hm, hx⟩
    obtain ⟨t, ht, rfl⟩ := List.getElem_of_mem hm
    have hp : place rs x = t := place_unique rs x t (by omega) (fun i h hi => by have := rising_at rs hr i t hi ht; omega) (fun h => by omega)
    have : place rs x < rs.length := by omega
    refine ⟨this, ?_⟩
    simp only [hp]; exact hx
  · rintro ⟨h, hx⟩
    exact ⟨_, List.getElem_mem h, hx⟩
theorem fullDown_mem (rs : List Reg) (n : Nat) (r : Reg) (h : fullDown rs n = some r) : ∃ i, ∃ hi : i < rs.length, i < n ∧ rs[i] = r ∧ full r = true := by
  have hf := List.find?_some h
  have hm := List.mem_of_find?_eq_some h
  rw [List.mem_reverse] at hm
  obtain ⟨i, hi, e⟩ := List.getElem_of_mem hm
  rw [List.getElem_take] at e
  have hl : i < n ∧ i < rs.length := by simp at hi; omega
  exact ⟨i, hl.2, hl.1, e, hf⟩
theorem upTo_first (rs : List Reg) (x : Int) (r : Reg) (h : fullDown rs (upTo rs x) = some r) : r ∈ rs ∧ r.first ≤ x ∧ 0 < r.data.length := by
  obtain ⟨i, hi, hn, rfl, hf⟩ := fullDown_mem rs _ r h
  refine ⟨List.getElem_mem hi, ?_, by simpa [full] using hf⟩
  unfold upTo at hn
  split at hn
  · rename_i hh
    obtain ⟨h1, _, h2⟩ := hh
    by_cases hc : i < place rs x
    · have := place_below rs x i hi hc; omega
    · obtain rfl : i = place rs x := by omega
      omega
  · have := place_below rs x i hi hn; omega
/-- where n bytes at an address lie: the region, the place in it -/
def viewOf (rs : List Reg) (x : Int) (n : Nat) : Option (Reg × Nat) :=
  match fullDown rs (upTo rs x) with
  | some r => if (r.data.length : Int) ≤ x - r.first then none else if (r.data.length : Int) - (x - r.first) < n then none else some (r, (x - r.first).toNat)
  | none => none
def viewVal (n : Nat) : Option (Reg × Nat) → Value
  | some (r, o) => .tuple #[.slice (r.A.map fun a => a.add o) n (r.cap - o), .int .i64 0]
  | none => .tuple #[.slice none 0 0, .int .i64 200]
theorem viewVal_some (n : Nat) (r : Reg) (o d : Nat) (h : r.A = some ⟨d, 0, none⟩) : viewVal n (some (r, o)) = .tuple #[.slice (some ⟨d, o, none⟩) n (r.cap - o), .int .i64 0] := by
  show Value.tuple #[.slice (Option.map (fun a => a.add o) r.A) n (r.cap - o), .int .i64 0] = _
  rw [h]
  simp only [Option.map_some]
  unfold Addr.add
  by_cases h0 : o = 0
  · simp [h0]
  · simp [h0]
set_option maxHeartbeats 4000000 in
set_option maxRecDepth 100000 in
/-- view, from the place on that find and the look at it gave; K: what full is asked with -/
theorem view_ (w : World) (s : Nat) (rs : List Reg) (x : Int) (n : Nat) (h : SpaceAt w s rs) (hr : Rising rs) (hn0 : 1 ≤ n) (hn1 : n < 9223372036854775808) (hx0 : 0 ≤ x) (hx1 : x < 18446744073709551616) :
    Calls Try.prog 23 #[.pointer (some ⟨s, 0, none⟩), .int .u64 x, .int .i64 n] w fun e w' => e = .returned (viewVal n (viewOf rs x n)) ∧ Drawn0 w w' := by
  obtain ⟨P, cap, hb, hrow⟩ := id h
  have c0 := hb.cell 0
  simp only [List.getElem?_toArray, List.getElem?_cons_zero] at c0
  have HS := Lib.hid h
  have H := Lib.hid hrow
  have HR := Lib.hid hr
  obtain ⟨L, hL⟩ : ∃ L, L = rs.length := ⟨_, rfl⟩
  have HL := Lib.hid hL
  have hL2 := Lib.hid hL
  have hs : L < 4398046511104 := by have := hrow.big; omega
  rw [← hL] at c0
  obtain ⟨K, hK⟩ : ∃ K, K = place rs x := ⟨_, rfl⟩
  have hKL : K ≤ L := by rw [hK, hL]; exact place_le rs x
  have HK := Lib.hid hK
  have HX := Lib.hid (And.intro hx0 hx1)
  clear hb hrow hL h hr hx0 hx1
  have HT := Lib.hid (there_iff rs x HR.out)
  have ho := Lib.hid (upTo_first rs x)
  by_cases ht : ∃ h : place rs x < rs.length, (rs[place rs x]'h).first = x
  · obtain ⟨h1, h2⟩ := ht
    have hd := Lib.hid (show decide (∃ r ∈ rs, r.first = x) = true from decide_eq_true (HT.out.2 ⟨h1, h2⟩))
    have HD := hd
    clear hd
    have hKlt : K < L := by rw [hK, hL2.out]; exact h1
    obtain ⟨p, hP, c1, hreg⟩ := H.out.at_ (place rs x) h1
    subst hP
    obtain ⟨R, hR⟩ : ∃ R, R = rs[place rs x]'h1 := ⟨_, rfl⟩
    rw [← hR] at c1 hreg h2
    rw [← hK] at c1
    have cq := hreg.d
    have hI : (K : Int) < (L : Int) := by omega
    by_cases hfull : 0 < R.data.length
    · have hq : decide (0 < R.data.length) = true := decide_eq_true hfull
      obtain ⟨kk, hkk⟩ : ∃ kk, kk = K + 1 := ⟨_, rfl⟩
      have hu := Lib.hid (show upTo rs x = kk from by unfold upTo; rw [if_pos ⟨h1, by rw [← hR]; exact hq, by rw [← hR]; exact h2⟩, hkk, hK])
      have hkl : kk ≤ L := by omega
      clear hK hR h2 hreg
      cases hfd : fullDown rs kk with
      | none =>
        have hv := Lib.hid (show viewOf rs x n = none by unfold viewOf; rw [hu.out, hfd])
        have HFD := Lib.hid hfd
        clear hfd
        go_enter Try.func23, Try.ntmps23
        go_wp2_with (first | (go_at_call 58; refine (find_ _ _ rs _ HS.out HR.out).mono ?_; rintro e' w' ⟨rfl, rfl⟩; rw [HD.out, ← HK.out]) | (go_at_call 60; refine (full_down' _ _ rs kk _ HS.out (by rw [← HL.out]; exact hkl) (by omega)).mono ?_; rintro e' w' ⟨rfl, rfl⟩; rw [HFD.out]; unfold ptrOf))
        go_quiet (fail)
        go_wp2_with fail
        go_ret2
        refine ⟨?_, ⟨⟨_, rfl⟩⟩⟩
        rw [hv.out]; rfl
      | some r =>
        obtain ⟨hm, hx, hl⟩ := ho.out r (by rw [hu.out]; exact hfd)
        have hreg := H.out.regs r hm
        have cf := hreg.f
        have cd := hreg.d
        obtain ⟨d, cs, hA, _, _, _⟩ := hreg.row hl
        rw [hA] at cd
        obtain ⟨o, hox⟩ : ∃ o : Nat, x = r.first + (o : Int) := ⟨(x - r.first).toNat, by omega⟩
        have hlc := hreg.len
        have k2 := hreg.small
        have hf0 := hreg.first0
        have HA := Lib.hid hA
        have HFD := Lib.hid hfd
        subst hox
        obtain ⟨ln, hln⟩ : ∃ ln, ln = r.data.length := ⟨_, rfl⟩
        rw [← hln] at cd hlc hl
        have hx1 := HX.out.2
        have HLN := Lib.hid hln
        clear hfd hreg hA hln hx hm
        have u64 : ∀ z : Int, 0 ≤ z → z < 18446744073709551616 → IntKind.u64.wrap z = z := fun z h0 h1 => by rw [IntKind.wrap_u64]; exact Int.emod_eq_of_lt h0 h1
        have k1 : IntKind.u64.wrap (r.first + (o : Int) - r.first) = (o : Int) := by rw [show r.first + (o : Int) - r.first = (o : Int) by omega]; exact u64 _ (by omega) (by omega)
        by_cases c1 : ln ≤ o
        · have hd1 : decide ((ln : Int) ≤ (o : Int)) = true := decide_eq_true (by omega)
          have hv := Lib.hid (show viewOf rs (r.first + (o : Int)) n = none by unfold viewOf; rw [hu.out, HFD.out]; dsimp only; rw [if_pos (by rw [← HLN.out]; omega)])
          clear u64
          go_enter Try.func23, Try.ntmps23
          go_wp2_with (first | (go_at_call 58; refine (find_ _ _ rs _ HS.out HR.out).mono ?_; rintro e' w' ⟨rfl, rfl⟩; rw [HD.out, ← HK.out]) | (go_at_call 60; refine (full_down' _ _ rs kk _ HS.out (by rw [← HL.out]; exact hkl) (by omega)).mono ?_; rintro e' w' ⟨rfl, rfl⟩; rw [HFD.out]; unfold ptrOf))
          go_quiet (fail)
          go_wp2_with fail
          go_ret2
          refine ⟨?_, ⟨⟨_, rfl⟩⟩⟩
          rw [hv.out]; rfl
        · have hd1 : decide ((ln : Int) ≤ (o : Int)) = false := decide_eq_false (by omega)
          have k3 : IntKind.u64.wrap ((ln : Int) - (o : Int)) = ((ln - o : Nat) : Int) := by rw [u64 _ (by omega) (by omega)]; omega
          have k4 : IntKind.u64.wrap ((o : Int) + (n : Int)) = ((o + n : Nat) : Int) := by rw [u64 _ (by omega) (by omega)]; omega
          by_cases c2 : ln - o < n
          · have hd2 : decide (((ln - o : Nat) : Int) < (n : Int)) = true := decide_eq_true (by omega)
            have hv := Lib.hid (show viewOf rs (r.first + (o : Int)) n = none by unfold viewOf; rw [hu.out, HFD.out]; dsimp only; rw [if_neg (by rw [← HLN.out]; omega), if_pos (by rw [← HLN.out]; omega)])
            clear u64
            go_enter Try.func23, Try.ntmps23
            go_wp2_with (first | (go_at_call 58; refine (find_ _ _ rs _ HS.out HR.out).mono ?_; rintro e' w' ⟨rfl, rfl⟩; rw [HD.out, ← HK.out]) | (go_at_call 60; refine (full_down' _ _ rs kk _ HS.out (by rw [← HL.out]; exact hkl) (by omega)).mono ?_; rintro e' w' ⟨rfl, rfl⟩; rw [HFD.out]; unfold ptrOf))
            go_quiet (fail)
            go_wp2_with fail
            go_ret2
            refine ⟨?_, ⟨⟨_, rfl⟩⟩⟩
            rw [hv.out]; rfl
          · have hd2 : decide (((ln - o : Nat) : Int) < (n : Int)) = false := decide_eq_false (by omega)
            have hv := Lib.hid (show viewOf rs (r.first + (o : Int)) n = some (r, o) by unfold viewOf; rw [hu.out, HFD.out]; dsimp only; rw [if_neg (by rw [← HLN.out]; omega), if_neg (by rw [← HLN.out]; omega), show (r.first + (o : Int) - r.first).toNat = o by omega])
            have l1 : (o : Int) ≤ ((o + n : Nat) : Int) := by omega
            have l2 : ((o + n : Nat) : Int) ≤ (r.cap : Int) := by omega
            have l3 : o + n ≤ r.cap := by omega
            clear u64
            go_enter Try.func23, Try.ntmps23
            go_wp2_with (first | (go_at_call 58; refine (find_ _ _ rs _ HS.out HR.out).mono ?_; rintro e' w' ⟨rfl, rfl⟩; rw [HD.out, ← HK.out]) | (go_at_call 60; refine (full_down' _ _ rs kk _ HS.out (by rw [← HL.out]; exact hkl) (by omega)).mono ?_; rintro e' w' ⟨rfl, rfl⟩; rw [HFD.out]; unfold ptrOf))
            go_quiet (fail)
            go_wp2_with fail
            go_ret2
            refine ⟨?_, ⟨⟨_, rfl⟩⟩⟩
            rw [hv.out]
            have e1 : o + n - o = n := by omega
            have e2 := viewVal_some n r o d HA.out
            rw [e2]
            show Ending.returned (Value.tuple #[.slice (some ⟨d, o, none⟩) (o + n - o) (r.cap - o), .int .i64 0]) = _
            rw [e1]
    · have hz : R.data.length = 0 := by omega
      have hq : ¬ full R = true := by unfold full; rw [hz]; decide
      obtain ⟨kk, hkk⟩ : ∃ kk, kk = K := ⟨_, rfl⟩
      have hu := Lib.hid (show upTo rs x = kk from by unfold upTo; rw [if_neg (fun ⟨h3, h4, _⟩ => hq (by rw [hR]; exact h4)), hkk, hK])
      have hkl : kk ≤ L := by omega
      rw [hz] at cq
      clear hK hR h2 hreg hq hfull
      cases hfd : fullDown rs kk with
      | none =>
        have hv := Lib.hid (show viewOf rs x n = none by unfold viewOf; rw [hu.out, hfd])
        have HFD := Lib.hid hfd
        clear hfd
        go_enter Try.func23, Try.ntmps23
        go_wp2_with (first | (go_at_call 58; refine (find_ _ _ rs _ HS.out HR.out).mono ?_; rintro e' w' ⟨rfl, rfl⟩; rw [HD.out, ← HK.out]) | (go_at_call 60; refine (full_down' _ _ rs kk _ HS.out (by rw [← HL.out]; exact hkl) (by omega)).mono ?_; rintro e' w' ⟨rfl, rfl⟩; rw [HFD.out]; unfold ptrOf))
        go_quiet (fail)
        go_wp2_with fail
        go_ret2
        refine ⟨?_, ⟨⟨_, rfl⟩⟩⟩
        rw [hv.out]; rfl
      | some r =>
        obtain ⟨hm, hx, hl⟩ := ho.out r (by rw [hu.out]; exact hfd)
        have hreg := H.out.regs r hm
        have cf := hreg.f
        have cd := hreg.d
        obtain ⟨d, cs, hA, _, _, _⟩ := hreg.row hl
        rw [hA] at cd
        obtain ⟨o, hox⟩ : ∃ o : Nat, x = r.first + (o : Int) := ⟨(x - r.first).toNat, by omega⟩
        have hlc := hreg.len
        have k2 := hreg.small
        have hf0 := hreg.first0
        have HA := Lib.hid hA
        have HFD := Lib.hid hfd
        subst hox
        obtain ⟨ln, hln⟩ : ∃ ln, ln = r.data.length := ⟨_, rfl⟩
        rw [← hln] at cd hlc hl
        have hx1 := HX.out.2
        have HLN := Lib.hid hln
        clear hfd hreg hA hln hx hm
        have u64 : ∀ z : Int, 0 ≤ z → z < 18446744073709551616 → IntKind.u64.wrap z = z := fun z h0 h1 => by rw [IntKind.wrap_u64]; exact Int.emod_eq_of_lt h0 h1
        have k1 : IntKind.u64.wrap (r.first + (o : Int) - r.first) = (o : Int) := by rw [show r.first + (o : Int) - r.first = (o : Int) by omega]; exact u64 _ (by omega) (by omega)
        by_cases c1 : ln ≤ o
        · have hd1 : decide ((ln : Int) ≤ (o : Int)) = true := decide_eq_true (by omega)
          have hv := Lib.hid (show viewOf rs (r.first + (o : Int)) n = none by unfold viewOf; rw [hu.out, HFD.out]; dsimp only; rw [if_pos (by rw [← HLN.out]; omega)])
          clear u64
          go_enter Try.func23, Try.ntmps23
          go_wp2_with (first | (go_at_call 58; refine (find_ _ _ rs _ HS.out HR.out).mono ?_; rintro e' w' ⟨rfl, rfl⟩; rw [HD.out, ← HK.out]) | (go_at_call 60; refine (full_down' _ _ rs kk _ HS.out (by rw [← HL.out]; exact hkl) (by omega)).mono ?_; rintro e' w' ⟨rfl, rfl⟩; rw [HFD.out]; unfold ptrOf))
          go_quiet (fail)
          go_wp2_with fail
          go_ret2
          refine ⟨?_, ⟨⟨_, rfl⟩⟩⟩
          rw [hv.out]; rfl
        · have hd1 : decide ((ln : Int) ≤ (o : Int)) = false := decide_eq_false (by omega)
          have k3 : IntKind.u64.wrap ((ln : Int) - (o : Int)) = ((ln - o : Nat) : Int) := by rw [u64 _ (by omega) (by omega)]; omega
          have k4 : IntKind.u64.wrap ((o : Int) + (n : Int)) = ((o + n : Nat) : Int) := by rw [u64 _ (by omega) (by omega)]; omega
          by_cases c2 : ln - o < n
          · have hd2 : decide (((ln - o : Nat) : Int) < (n : Int)) = true := decide_eq_true (by omega)
            have hv := Lib.hid (show viewOf rs (r.first + (o : Int)) n = none by unfold viewOf; rw [hu.out, HFD.out]; dsimp only; rw [if_neg (by rw [← HLN.out]; omega), if_pos (by rw [← HLN.out]; omega)])
            clear u64
            go_enter Try.func23, Try.ntmps23
            go_wp2_with (first | (go_at_call 58; refine (find_ _ _ rs _ HS.out HR.out).mono ?_; rintro e' w' ⟨rfl, rfl⟩; rw [HD.out, ← HK.out]) | (go_at_call 60; refine (full_down' _ _ rs kk _ HS.out (by rw [← HL.out]; exact hkl) (by omega)).mono ?_; rintro e' w' ⟨rfl, rfl⟩; rw [HFD.out]; unfold ptrOf))
            go_quiet (fail)
            go_wp2_with fail
            go_ret2
            refine ⟨?_, ⟨⟨_, rfl⟩⟩⟩
            rw [hv.out]; rfl
          · have hd2 : decide (((ln - o : Nat) : Int) < (n : Int)) = false := decide_eq_false (by omega)
            have hv := Lib.hid (show viewOf rs (r.first + (o : Int)) n = some (r, o) by unfold viewOf; rw [hu.out, HFD.out]; dsimp only; rw [if_neg (by rw [← HLN.out]; omega), if_neg (by rw [← HLN.out]; omega), show (r.first + (o : Int) - r.first).toNat = o by omega])
            have l1 : (o : Int) ≤ ((o + n : Nat) : Int) := by omega
            have l2 : ((o + n : Nat) : Int) ≤ (r.cap : Int) := by omega
            have l3 : o + n ≤ r.cap := by omega
            clear u64
            go_enter Try.func23, Try.ntmps23
            go_wp2_with (first | (go_at_call 58; refine (find_ _ _ rs _ HS.out HR.out).mono ?_; rintro e' w' ⟨rfl, rfl⟩; rw [HD.out, ← HK.out]) | (go_at_call 60; refine (full_down' _ _ rs kk _ HS.out (by rw [← HL.out]; exact hkl) (by omega)).mono ?_; rintro e' w' ⟨rfl, rfl⟩; rw [HFD.out]; unfold ptrOf))
            go_quiet (fail)
            go_wp2_with fail
            go_ret2
            refine ⟨?_, ⟨⟨_, rfl⟩⟩⟩
            rw [hv.out]
            have e1 : o + n - o = n := by omega
            have e2 := viewVal_some n r o d HA.out
            rw [e2]
            show Ending.returned (Value.tuple #[.slice (some ⟨d, o, none⟩) (o + n - o) (r.cap - o), .int .i64 0]) = _
            rw [e1]
  · have hd : decide (∃ r ∈ rs, r.first = x) = false := decide_eq_false (fun hh => ht (HT.out.1 hh))
    obtain ⟨kk, hkk⟩ : ∃ kk, kk = K := ⟨_, rfl⟩
    have hu := Lib.hid (show upTo rs x = kk from by unfold upTo; rw [if_neg (fun ⟨h1, _, h3⟩ => ht ⟨h1, h3⟩), hkk]; exact hK.symm)
    have hkl : kk ≤ L := by omega
    have HD := Lib.hid hd
    clear ht hd hK
    cases hfd : fullDown rs kk with
    | none =>
      have hv := Lib.hid (show viewOf rs x n = none by unfold viewOf; rw [hu.out, hfd])
      have HFD := Lib.hid hfd
      clear hfd
      go_enter Try.func23, Try.ntmps23
      go_wp2_with (first | (go_at_call 58; refine (find_ _ _ rs _ HS.out HR.out).mono ?_; rintro e' w' ⟨rfl, rfl⟩; rw [HD.out, ← HK.out]) | (go_at_call 60; refine (full_down' _ _ rs kk _ HS.out (by rw [← HL.out]; exact hkl) (by omega)).mono ?_; rintro e' w' ⟨rfl, rfl⟩; rw [HFD.out]; unfold ptrOf))
      go_quiet (fail)
      go_wp2_with fail
      go_ret2
      refine ⟨?_, ⟨⟨_, rfl⟩⟩⟩
      rw [hv.out]; rfl
    | some r =>
      obtain ⟨hm, hx, hl⟩ := ho.out r (by rw [hu.out]; exact hfd)
      have hreg := H.out.regs r hm
      have cf := hreg.f
      have cd := hreg.d
      obtain ⟨d, cs, hA, _, _, _⟩ := hreg.row hl
      rw [hA] at cd
      obtain ⟨o, hox⟩ : ∃ o : Nat, x = r.first + (o : Int) := ⟨(x - r.first).toNat, by omega⟩
      have hlc := hreg.len
      have k2 := hreg.small
      have hf0 := hreg.first0
      have HA := Lib.hid hA
      have HFD := Lib.hid hfd
      subst hox
      obtain ⟨ln, hln⟩ : ∃ ln, ln = r.data.length := ⟨_, rfl⟩
      rw [← hln] at cd hlc hl
      have hx1 := HX.out.2
      have HLN := Lib.hid hln
      clear hfd hreg hA hln hx hm
      have u64 : ∀ z : Int, 0 ≤ z → z < 18446744073709551616 → IntKind.u64.wrap z = z := fun z h0 h1 => by rw [IntKind.wrap_u64]; exact Int.emod_eq_of_lt h0 h1
      have k1 : IntKind.u64.wrap (r.first + (o : Int) - r.first) = (o : Int) := by rw [show r.first + (o : Int) - r.first = (o : Int) by omega]; exact u64 _ (by omega) (by omega)
      by_cases c1 : ln ≤ o
      · have hd1 : decide ((ln : Int) ≤ (o : Int)) = true := decide_eq_true (by omega)
        have hv := Lib.hid (show viewOf rs (r.first + (o : Int)) n = none by unfold viewOf; rw [hu.out, HFD.out]; dsimp only; rw [if_pos (by rw [← HLN.out]; omega)])
        clear u64
        go_enter Try.func23, Try.ntmps23
        go_wp2_with (first | (go_at_call 58; refine (find_ _ _ rs _ HS.out HR.out).mono ?_; rintro e' w' ⟨rfl, rfl⟩; rw [HD.out, ← HK.out]) | (go_at_call 60; refine (full_down' _ _ rs kk _ HS.out (by rw [← HL.out]; exact hkl) (by omega)).mono ?_; rintro e' w' ⟨rfl, rfl⟩; rw [HFD.out]; unfold ptrOf))
        go_quiet (fail)
        go_wp2_with fail
        go_ret2
        refine ⟨?_, ⟨⟨_, rfl⟩⟩⟩
        rw [hv.out]; rfl
      · have hd1 : decide ((ln : Int) ≤ (o : Int)) = false := decide_eq_false (by omega)
        have k3 : IntKind.u64.wrap ((ln : Int) - (o : Int)) = ((ln - o : Nat) : Int) := by rw [u64 _ (by omega) (by omega)]; omega
        have k4 : IntKind.u64.wrap ((o : Int) + (n : Int)) = ((o + n : Nat) : Int) := by rw [u64 _ (by omega) (by omega)]; omega
        by_cases c2 : ln - o < n
        · have hd2 : decide (((ln - o : Nat) : Int) < (n : Int)) = true := decide_eq_true (by omega)
          have hv := Lib.hid (show viewOf rs (r.first + (o : Int)) n = none by unfold viewOf; rw [hu.out, HFD.out]; dsimp only; rw [if_neg (by rw [← HLN.out]; omega), if_pos (by rw [← HLN.out]; omega)])
          clear u64
          go_enter Try.func23, Try.ntmps23
          go_wp2_with (first | (go_at_call 58; refine (find_ _ _ rs _ HS.out HR.out).mono ?_; rintro e' w' ⟨rfl, rfl⟩; rw [HD.out, ← HK.out]) | (go_at_call 60; refine (full_down' _ _ rs kk _ HS.out (by rw [← HL.out]; exact hkl) (by omega)).mono ?_; rintro e' w' ⟨rfl, rfl⟩; rw [HFD.out]; unfold ptrOf))
          go_quiet (fail)
          go_wp2_with fail
          go_ret2
          refine ⟨?_, ⟨⟨_, rfl⟩⟩⟩
          rw [hv.out]; rfl
        · have hd2 : decide (((ln - o : Nat) : Int) < (n : Int)) = false := decide_eq_false (by omega)
          have hv := Lib.hid (show viewOf rs (r.first + (o : Int)) n = some (r, o) by unfold viewOf; rw [hu.out, HFD.out]; dsimp only; rw [if_neg (by rw [← HLN.out]; omega), if_neg (by rw [← HLN.out]; omega), show (r.first + (o : Int) - r.first).toNat = o by omega])
          have l1 : (o : Int) ≤ ((o + n : Nat) : Int) := by omega
          have l2 : ((o + n : Nat) : Int) ≤ (r.cap : Int) := by omega
          have l3 : o + n ≤ r.cap := by omega
          clear u64
          go_enter Try.func23, Try.ntmps23
          go_wp2_with (first | (go_at_call 58; refine (find_ _ _ rs _ HS.out HR.out).mono ?_; rintro e' w' ⟨rfl, rfl⟩; rw [HD.out, ← HK.out]) | (go_at_call 60; refine (full_down' _ _ rs kk _ HS.out (by rw [← HL.out]; exact hkl) (by omega)).mono ?_; rintro e' w' ⟨rfl, rfl⟩; rw [HFD.out]; unfold ptrOf))
          go_quiet (fail)
          go_wp2_with fail
          go_ret2
          refine ⟨?_, ⟨⟨_, rfl⟩⟩⟩
          rw [hv.out]
          have e1 : o + n - o = n := by omega
          have e2 := viewVal_some n r o d HA.out
          rw [e2]
          show Ending.returned (Value.tuple #[.slice (some ⟨d, o, none⟩) (o + n - o) (r.cap - o), .int .i64 0]) = _
          rw [e1]
end Go.Proofs.Ythmeojeehemlaaa.Mem
