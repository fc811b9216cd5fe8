/- The tray: lay puts a list into its place, others behind it; back finds both as they were. Written by this session. -/
import Derived.Test.YtolhfcefpjfobaaLend3
import Derived.Test.YtolhfcefpjfobaaPRx3
import Derived.Laws.IdiomCopy
namespace Go.Proofs.Ytolhfcefpjfobaa.Lend
open Go.RowKit Go.Proofs.YtolhfcefpjfobaaW.PrintWords
open Go.Proofs.Ytolhfcefpjfobaa.PR
set_option linter.unusedVariables false
set_option linter.unusedSimpArgs false
attribute [local go_sem] isSome_setCell

def beh (i : Int) : S27 := ⟨wrap64 ((-1) - i), 40, i⟩
theorem behind_ (i : Int) (w : World) : Calls Try.prog 40 #[.int .i64 i] w fun e w' => e = .returned (.agg #[.int .i64 (beh i).f0, .int .i64 (beh i).f1, .int .i64 (beh i).f2]) ∧ Below w.heap.size w w' :=
  spindlelaw11_behind.calls i _ _ _ w rfl

def flat : List S27 → List Value
  | [] => []
  | x :: r => .int .i64 x.f0 :: .int .i64 x.f1 :: .int .i64 x.f2 :: flat r
def rels (xs : List S27) : Array Value := (flat xs).toArray
theorem flat_length : ∀ xs : List S27, (flat xs).length = 3 * xs.length
  | [] => rfl
  | x :: r => by simp only [flat, List.length_cons, flat_length r]; omega
theorem flat_append : ∀ xs ys : List S27, flat (xs ++ ys) = flat xs ++ flat ys
  | [], _ => rfl
  | x :: r, ys => by simp only [List.cons_append, flat, flat_append r ys]
theorem flat_at : ∀ (xs : List S27) (i : Nat) (h : i < xs.length), (flat xs)[3 * i]? = some (.int .i64 xs[i].f0) ∧ (flat xs)[3 * i + 1]? = some (.int .i64 xs[i].f1) ∧ (flat xs)[3 * i + 2]? = some (.int .i64 xs[i].f2)
  | x :: r, 0, _ => ⟨rfl, rfl, rfl⟩
  | x :: r, i + 1, h => by
    have ih := flat_at r i (by simpa using h)
    rw [show 3 * (i + 1) = 3 * i + 1 + 1 + 1 from by omega]
    simp only [flat, List.getElem?_cons_succ, List.getElem_cons_succ]
    exact ih
theorem flat_set : ∀ (xs : List S27) (i : Nat) (y : S27), (((flat xs).set (3 * i) (.int .i64 y.f0)).set (3 * i + 1) (.int .i64 y.f1)).set (3 * i + 2) (.int .i64 y.f2) = flat (xs.set i y)
  | [], i, y => by simp [flat]
  | x :: r, 0, y => rfl
  | x :: r, i + 1, y => by
    have ih := flat_set r i y
    rw [show 3 * (i + 1) = 3 * i + 1 + 1 + 1 from by omega]
    simp only [flat, List.set_cons_succ]
    rw [ih]
theorem flat_take : ∀ (xs : List S27) (n : Nat), (flat xs).take (3 * n) = flat (xs.take n)
  | [], n => by simp [flat]
  | x :: r, 0 => rfl
  | x :: r, n + 1 => by
    rw [show 3 * (n + 1) = 3 * n + 1 + 1 + 1 from by omega]
    simp only [flat, List.take_succ_cons, flat_take r n]
theorem flat_drop : ∀ (xs : List S27) (n : Nat), (flat xs).drop (3 * n) = flat (xs.drop n)
  | [], n => by simp [flat]
  | x :: r, 0 => rfl
  | x :: r, n + 1 => by
    rw [show 3 * (n + 1) = 3 * n + 1 + 1 + 1 from by omega]
    simp only [flat, List.drop_succ_cons, flat_drop r n]
theorem rels_made (n : Nat) : madeCells #[.int .i64 0, .int .i64 0, .int .i64 0] (n * 3) = rels (List.replicate n z27) := by
  apply Array.ext
  · simp [rels, size_madeCells, flat_length]; omega
  · intro i h1 h2
    have hi : i < n * 3 := by simpa [size_madeCells] using h1
    have h3 := flat_at (List.replicate n z27) (i / 3) (by simp; omega)
    have e : rels (List.replicate n z27) = (flat (List.replicate n z27)).toArray := rfl
    have hm : i % 3 = 0 ∨ i % 3 = 1 ∨ i % 3 = 2 := by omega
    apply Option.some.inj
    rw [← Array.getElem?_eq_getElem h1, ← Array.getElem?_eq_getElem h2]
    have l : (madeCells #[.int .i64 0, .int .i64 0, .int .i64 0] (n * 3))[i]? = some (.int .i64 0) := by
      rw [Array.getElem?_eq_getElem h1]
      unfold madeCells
      rcases hm with hm | hm | hm <;> simp [hm]
    rw [l]
    simp only [rels, List.getElem?_toArray]
    rcases hm with hm | hm | hm
    · rw [show i = 3 * (i / 3) from by omega, h3.1]; simp [z27]
    · rw [show i = 3 * (i / 3) + 1 from by omega, h3.2.1]; simp [z27]
    · rw [show i = 3 * (i / 3) + 2 from by omega, h3.2.2]; simp [z27]
section
variable {w : World} {g : Nat} {xs : List S27}
theorem Blk.rel0 (h : Blk w g 27 (rels xs)) (i : Nat) (hi : i < xs.length) : w.cell? ⟨g, i * 3, none⟩ = some (.int .i64 xs[i].f0) := by
  rw [h.cell, Nat.mul_comm]; simpa [rels] using (flat_at xs i hi).1
theorem Blk.rel1 (h : Blk w g 27 (rels xs)) (i : Nat) (hi : i < xs.length) : w.cell? ⟨g, i * 3 + 1, none⟩ = some (.int .i64 xs[i].f1) := by
  rw [h.cell, Nat.mul_comm]; simpa [rels] using (flat_at xs i hi).2.1
theorem Blk.rel2 (h : Blk w g 27 (rels xs)) (i : Nat) (hi : i < xs.length) : w.cell? ⟨g, i * 3 + 2, none⟩ = some (.int .i64 xs[i].f2) := by
  rw [h.cell, Nat.mul_comm]; simpa [rels] using (flat_at xs i hi).2.2
theorem Blk.setRel (h : Blk w g 27 (rels xs)) (i : Nat) (y : S27) : Blk (((w.setCell ⟨g, i * 3, none⟩ (.int .i64 y.f0)).setCell ⟨g, i * 3 + 1, none⟩ (.int .i64 y.f1)).setCell ⟨g, i * 3 + 2, none⟩ (.int .i64 y.f2)) g 27 (rels (xs.set i y)) := by
  rw [Nat.mul_comm]
  have := ((h.set_ (3 * i) (.int .i64 y.f0)).set_ (3 * i + 1) (.int .i64 y.f1)).set_ (3 * i + 2) (.int .i64 y.f2)
  unfold rels at this ⊢
  rw [List.setIfInBounds_toArray, List.setIfInBounds_toArray, List.setIfInBounds_toArray, flat_set] at this
  exact this
end
theorem C_of_rels {w : World} {gb : Nat} {ys : List S27} (h : Blk w gb 27 (rels ys)) (m : Nat) (hm : m ≤ ys.length) (hl : ys.length ≤ 9223372036854775807) : Kd.C k27 w (some ⟨gb, 0, none⟩) (ys.take m).length (ys.take m) := by
  refine ⟨rfl, by simp; omega, fun _ => ⟨_, rfl, fun j p hj => ⟨[.int .i64 p.f0, .int .i64 p.f1, .int .i64 p.f2], rfl, k27_mk w p, fun i u hu => ?_⟩⟩⟩
  have hj' : j < (ys.take m).length := (List.getElem?_eq_some_iff.1 hj).1
  have hjy : j < ys.length := by simp at hj'; omega
  have hp : ys[j] = p := by
    have := (List.getElem?_eq_some_iff.1 hj).2
    rw [List.getElem_take] at this
    exact this
  have ad : ∀ q, (⟨gb, 0, none⟩ : Addr).add q = ⟨gb, q, none⟩ := fun q => by
    unfold Addr.add; split <;> simp_all
  show w.cell? ((⟨gb, 0, none⟩ : Addr).add (j * 3 + i)) = some u
  rw [ad]
  match i, hu with
  | 0, hu => cases hu; rw [← hp]; exact h.rel0 j hjy
  | 1, hu => cases hu; rw [← hp]; exact h.rel1 j hjy
  | 2, hu => cases hu; rw [← hp]; exact h.rel2 j hjy

/-- the others in all places -/
def behs (n : Nat) : List S27 := (List.range n).map fun (i : Nat) => beh (i : Int)
theorem behs_length (n : Nat) : (behs n).length = n := by simp [behs]
theorem behs_at (n i : Nat) (h : i < n) : (behs n)[i]? = some (beh i) := by simp [behs, h]
theorem take_set27 (ys l : List S27) (k : Nat) (x : S27) (hk : k < ys.length) (h : ys.take k = l.take k) (hx : l[k]? = some x) : (ys.set k x).take (k + 1) = l.take (k + 1) := by
  have hl : k < l.length := (List.getElem?_eq_some_iff.1 hx).1
  have hx' : l[k] = x := (List.getElem?_eq_some_iff.1 hx).2
  rw [List.take_succ_eq_append_getElem (by simpa using hk), List.take_succ_eq_append_getElem hl, hx', List.take_set_of_le (Nat.le_refl _), h, List.getElem_set_self]
theorem Keeps.below {w w1 w2 : World} {g gb : Nat} (h : Keeps w w1 g gb) (hb : Below w1.heap.size w1 w2) : Keeps w w2 g gb :=
  ⟨hb.os.trans h.os, hb.tape.trans h.tape, hb.output.trans h.output, Nat.le_trans h.size hb.size, fun i hi h1 h2 => (hb.block i (by have := h.size; omega)).trans (h.block i hi h1 h2)⟩

/-- copy, elements of any size -/
theorem run_copy_sized {P : Program} (w : World) (dT sT ty elem : TypeId) (b o dLen dCap s n : Nat) (a : Addr) (sLen sCap : Nat) (cs : List Value)
    (hu : P.underlying dT = some (.slice elem)) (hs : (P.info? elem).map (·.size) = some s) (hn : n = Nat.min sLen dLen) (hcs : cs.length = n * s)
    (hsrc : ∀ j v, cs[j]? = some v → w.cell? (a.add j) = some v) (hc : ∀ j, j < cs.length → (w.cell? ⟨b, o + j, none⟩).isSome = true) (hf : ∀ j, j < cs.length → w.frozen? ⟨b, o + j, none⟩ = false) (h1 : ∀ v ∈ cs, v.oneCell' = true) :
    (Builtin.copy_ #[dT, sT] ty #[.slice (some ⟨b, o, none⟩) dLen dCap, .slice (some a) sLen sCap]).run P w = .ok (goInt n) (w.setCells b o cs) := by
  have hl := run_loadCells_list (P := P) w a cs hsrc
  have hst := run_storeCells_cells (P := P) b o cs 0 w (by simpa using hc) (by simpa using hf) h1
  rw [hcs] at hl
  cases hq : P.info? elem with
  | none => simp [hq] at hs
  | some i =>
    have hi : i.size = s := by simpa [hq] using hs
    simp [Builtin.copy_, run_underlying hu, Builtin.lenOf, Builtin.firstCells, sizeOf, typeInfo, hq, hi, ← hn, hl, hst]

theorem C27_keeps {w w1 : World} {g gb n : Nat} {A : Option Addr} {a : List S27} (h : Kd.C k27 w A n a) (hk : Keeps w w1 g gb) (h1 : Far A n g) (h2 : Far A n gb) : Kd.C k27 w1 A n a := by
  refine ⟨h.1, h.2.1, fun hp => ?_⟩
  obtain ⟨ad, e, hc⟩ := h.2.2 hp
  refine ⟨ad, e, fun j p hj => ?_⟩
  obtain ⟨c, hs, hr, hcell⟩ := hc j p hj
  obtain rfl := k27_open hr
  refine ⟨_, hs, k27_mk w1 p, fun i u hu => hk.cell (hcell i u hu) ?_ ?_⟩
  · have := h1 hp ad e
    unfold Addr.add; split <;> exact this
  · have := h2 hp ad e
    unfold Addr.add; split <;> exact this
theorem Keeps.keeps {w w1 w2 : World} {g gb : Nat} (h : Keeps w w1 g gb) (k : Keeps w1 w2 g gb) : Keeps w w2 g gb :=
  ⟨k.os.trans h.os, k.tape.trans h.tape, k.output.trans h.output, Nat.le_trans h.size k.size, fun i hi h1 h2 => (k.block i (by have := h.size; omega) h1 h2).trans (h.block i hi h1 h2)⟩
theorem C_flat {w : World} {ad : Addr} {n : Nat} {rs : List S27} (hp : 0 < n) (h : Kd.C k27 w (some ad) n rs) (j : Nat) (v : Value) (hj : (flat rs)[j]? = some v) : w.cell? (ad.add j) = some v := by
  obtain ⟨ad', e, hc⟩ := h.2.2 hp
  cases e
  have hl : j < 3 * rs.length := by rw [← flat_length]; exact (List.getElem?_eq_some_iff.1 hj).1
  have hq : j / 3 < rs.length := by omega
  obtain ⟨c, hs, hr, hcell⟩ := hc (j / 3) _ (List.getElem?_eq_getElem hq)
  obtain rfl := k27_open hr
  have hcell' : ∀ i u, [Value.int .i64 rs[j / 3].f0, .int .i64 rs[j / 3].f1, .int .i64 rs[j / 3].f2][i]? = some u → w.cell? (ad.add (j / 3 * 3 + i)) = some u := hcell
  obtain ⟨z0, z1, z2⟩ := flat_at rs (j / 3) hq
  have hm : j % 3 = 0 ∨ j % 3 = 1 ∨ j % 3 = 2 := by omega
  rcases hm with hm | hm | hm
  · rw [show j = 3 * (j / 3) from by omega, z0] at hj
    have := hcell' 0 _ rfl
    rw [show j / 3 * 3 + 0 = j from by omega] at this
    rw [this]; exact hj
  · rw [show j = 3 * (j / 3) + 1 from by omega, z1] at hj
    have := hcell' 1 _ rfl
    rw [show j / 3 * 3 + 1 = j from by omega] at this
    rw [this]; exact hj
  · rw [show j = 3 * (j / 3) + 2 from by omega, z2] at hj
    have := hcell' 2 _ rfl
    rw [show j / 3 * 3 + 2 = j from by omega] at this
    rw [this]; exact hj
/-- the list, and the others behind it -/
def TR (L : Nat) (rs : List S27) : List S27 := rs ++ (behs L).drop rs.length
theorem flat_one : ∀ (rs : List S27) (v : Value), v ∈ flat rs → v.oneCell' = true
  | [], v, h => by cases h
  | x :: r, v, h => by
    simp only [flat, List.mem_cons] at h
    rcases h with rfl | rfl | rfl | h
    · rfl
    · rfl
    · rfl
    · exact flat_one r v h
theorem copied_ (w : World) (g gb L c m : Nat) (A : Option Addr) (rs : List S27) (hm : m = rs.length) (hL : m ≤ L) (hg : Blk w g 25 #[.slice (some ⟨gb, 0, none⟩) L L]) (hb : Blk w gb 27 (rels (behs L))) (hne : g ≠ gb) (hc : Kd.C k27 w A m rs) :
    ∃ w2, (Builtin.copy_ #[22, 22] 3 #[.slice (some ⟨gb, 0, none⟩) L L, .slice A m c]).run Try.prog w = .ok (.int .i64 m) w2 ∧ Blk w2 g 25 #[.slice (some ⟨gb, 0, none⟩) L L] ∧ Blk w2 gb 27 (rels (TR L rs)) ∧ Keeps w w2 g gb := by
  have hs : (Try.prog.info? 27).map (·.size) = some 3 := by kernel_rfl
  have hmin : m = Nat.min m L := by simp only [Nat.min_def]; split <;> omega
  have fin : ∀ (w2 : World), w2 = w.setCells gb 0 (flat rs) → Blk w2 g 25 #[.slice (some ⟨gb, 0, none⟩) L L] ∧ Blk w2 gb 27 (rels (TR L rs)) ∧ Keeps w w2 g gb := by
    rintro w2 rfl
    obtain ⟨cur', h1, h2, h3⟩ := setCells_row (flat rs) 0 w (rels (behs L)) hb (by simp [rels, flat_length, behs_length]; omega)
    obtain ⟨s1, s2, s3, s4⟩ := setCells_same gb (flat rs) 0 w
    refine ⟨(setCells_far (flat rs) 0 g hne).trans hg, ?_, ⟨s1, s2, s3, by rw [s4]; exact Nat.le_refl _, fun i hi _ h => setCells_far (flat rs) 0 i h⟩⟩
    have e : cur' = rels (TR L rs) := by
      apply Array.ext'
      rw [h3]
      simp only [rels, TR, List.take_zero, List.nil_append, Nat.zero_add, flat_length, flat_append, flat_drop]
    rw [← e]; exact h1
  by_cases h0 : m = 0
  · have hrs : rs = [] := List.eq_nil_of_length_eq_zero (by omega)
    subst hrs
    subst h0
    refine ⟨w, ?_, fin w rfl⟩
    cases hq : Try.prog.info? 27 with
    | none => simp [hq] at hs
    | some i =>
      have hl : ∀ (x : Addr), (loadCells x 0).run Try.prog w = .ok #[] w := fun x => by simpa using run_loadCells_list (P := Try.prog) w x [] (by simp)
      cases A <;> simp [Builtin.copy_, run_underlying Try.underlying22, Builtin.lenOf, Builtin.firstCells, sizeOf, typeInfo, hq, storeCells, hl, goInt]
  · obtain ⟨ad, e, _⟩ := hc.2.2 (by omega)
    subst e
    refine ⟨_, run_copy_sized (P := Try.prog) w 22 22 3 27 gb 0 L L 3 m ad m c (flat rs) Try.underlying22 hs hmin (by rw [flat_length]; omega) (C_flat (by omega) hc) ?_ (fun j _ => by rw [Nat.zero_add]; exact hb.frozen j) (flat_one rs), fin _ rfl⟩
    intro j hj
    rw [flat_length] at hj
    rw [hb.cell, Nat.zero_add]
    have hlen : j < (flat (behs L)).length := by rw [flat_length, behs_length]; omega
    simp [rels, hlen]
def LayDone (w : World) (g gb L : Nat) (rs : List S27) (e : Ending) (w' : World) : Prop :=
  e = .returned (.slice (some ⟨gb, 0, none⟩) rs.length L) ∧ Blk w' g 25 #[.slice (some ⟨gb, 0, none⟩) L L] ∧ Blk w' gb 27 (rels (TR L rs)) ∧ Keeps w w' g gb
set_option maxHeartbeats 2000000 in
set_option maxRecDepth 100000 in
/-- lay, the place large enough -/
theorem lay_old (w : World) (g gb L c : Nat) (A : Option Addr) (xs rs : List S27) (hL : xs.length = L) (hbig : 2 * rs.length + 70 ≤ L) (hl : L < 562949953421312) (hg : Blk w g 25 #[.slice (some ⟨gb, 0, none⟩) L L]) (hb : Blk w gb 27 (rels xs)) (hne : g ≠ gb)
    (hc : Kd.C k27 w A rs.length rs) (hfg : Far A rs.length g) (hfb : Far A rs.length gb) :
    Calls Try.prog 24 #[.pointer (some ⟨g, 0, none⟩), .slice A rs.length c] w (LayDone w g gb L rs) := by
  obtain ⟨m, hm⟩ : ∃ m, m = rs.length := ⟨_, rfl⟩
  have HC := Lib.hid hc
  have HFG := Lib.hid hfg
  have HFB := Lib.hid hfb
  have HM := Lib.hid hm
  rw [← hm] at hbig ⊢
  clear hm hc hfg hfb
  have c0 := hg.cell 0
  have f0 := hg.frozen 0
  simp only [List.getElem?_toArray, List.getElem?_cons_zero] at c0
  have HL := Lib.hid hL
  have HG := Lib.hid hg
  have HB := Lib.hid hb
  clear hL hg hb
  go_enter Try.func24, Try.ntmps24
  go_wp2
  go_loopw [5] (fun i wr => ∃ (k : Nat) (ys : List S27), k ≤ L ∧ i = .int .i64 (k : Int) ∧ Hid (ys.length = L) ∧ Hid (Blk wr g 25 #[.slice (some ⟨gb, 0, none⟩) L L]) ∧ Hid (Blk wr gb 27 (rels ys)) ∧ Hid (ys.take k = (behs L).take k) ∧ Hid (Keeps w wr g gb)) (fun i _ => L - (intOf i).toNat)
  case atStart => exact ⟨0, xs, Nat.zero_le _, rfl, HL, HG, HB, Lib.hid rfl, Lib.hid (Keeps.refl _ _ _)⟩
  case round =>
    obtain ⟨k, ys, hk, rfl, hys, hG, hB, hT, hK⟩ := hrel
    clear c0 f0 HG HB HL
    have c0 := hG.out.cell 0
    have f0 := hG.out.frozen 0
    simp only [List.getElem?_toArray, List.getElem?_cons_zero] at c0
    by_cases hlt : k < L
    · have hkl : k < ys.length := by rw [hys.out]; exact hlt
      have HK := Lib.hid hkl
      clear hkl
      go_wp2
      go_region_with (go_at_call 40; refine (behind_ _ _).mono ?_; rintro e w' ⟨rfl, hb⟩; have hG' := Lib.hid (Blk.below (by exact hG.out.drew) hb hG.out.lt); have hB' := Lib.hid (Blk.below (by exact hB.out.drew) hb hB.out.lt); have hK' := Lib.hid (Keeps.below hK.out.drew hb); have d0 := hG'.out.cell 0; have df := hG'.out.frozen 0; simp only [List.getElem?_toArray, List.getElem?_cons_zero] at d0; have b0 := hB'.out.rel0 k HK.out; have b1 := hB'.out.rel1 k HK.out; have b2 := hB'.out.rel2 k HK.out; have z0 := hB'.out.frozen (k * 3); have z1 := hB'.out.frozen (k * 3 + 1); have z2 := hB'.out.frozen (k * 3 + 2); clear hb)
      all_goals
        go_wp2
        go_roundw
        case rel => exact ⟨k + 1, ys.set k (beh k), by omega, by go_num, Lib.hid (by rw [List.length_set]; exact hys.out), Lib.hid (((hG'.out.far (p := ⟨gb, k * 3, none⟩) (fun e => hne e.symm) _).far (p := ⟨gb, k * 3 + 1, none⟩) (fun e => hne e.symm) _).far (p := ⟨gb, k * 3 + 2, none⟩) (fun e => hne e.symm) _), Lib.hid (hB'.out.setRel k (beh k)), Lib.hid (take_set27 ys (behs L) k _ HK.out hT.out (behs_at L k hlt)), Lib.hid (((hK'.out.set_ _ _ (.inr rfl)).set_ _ _ (.inr rfl)).set_ _ _ (.inr rfl))⟩
        case measure => simp [intOf]; omega
    · obtain rfl : k = L := by omega
      have hyb : ys = behs k := by
        have h := hT.out
        rw [List.take_of_length_le (by rw [hys.out]; omega), List.take_of_length_le (by rw [behs_length]; omega)] at h
        exact h
      obtain ⟨w2, hcp, q1, q2, q3⟩ := copied_ wr g gb k c m A rs HM.out (by omega) hG.out (by rw [← hyb]; exact hB.out) hne (by rw [HM.out]; exact C27_keeps HC.out hK.out HFG.out HFB.out)
      have Q1 := Lib.hid q1
      have Q2 := Lib.hid q2
      have Q3 := Lib.hid (hK.out.keeps q3)
      have d0 := Q1.out.cell 0
      simp only [List.getElem?_toArray, List.getElem?_cons_zero] at d0
      have hmL : m ≤ k := by omega
      clear q1 q2 q3 hyb
      go_wp2
      go_ret
      exact ⟨by rw [← HM.out]; rfl, Q1.out, Q2.out, Q3.out⟩
theorem C27_lt {w : World} {A : Option Addr} {n : Nat} {a : List S27} (h : Kd.C k27 w A n a) : Far A n w.heap.size := by
  intro hp ad e
  obtain ⟨ad', e', hc⟩ := h.2.2 hp
  rw [e] at e'
  obtain rfl := Option.some.inj e'
  have hl : 0 < a.length := by have := h.1; omega
  obtain ⟨c, hs, hr, hcell⟩ := hc 0 _ (List.getElem?_eq_getElem hl)
  obtain rfl := k27_open hr
  have := World.block_lt_of_cell? w _ (hcell 0 _ rfl)
  have e2 : (ad.add (0 * k27.sz + 0)).block = ad.block := by unfold Addr.add; split <;> rfl
  omega
set_option maxHeartbeats 2000000 in
set_option maxRecDepth 100000 in
/-- lay, a new place -/
theorem lay_new (w : World) (g L0 c : Nat) (A B : Option Addr) (rs : List S27) (hsmall : L0 < 2 * rs.length + 70) (hsz : rs.length ≤ 2000000) (hg : Blk w g 25 #[.slice B L0 L0])
    (hc : Kd.C k27 w A rs.length rs) (hfg : Far A rs.length g) :
    Calls Try.prog 24 #[.pointer (some ⟨g, 0, none⟩), .slice A rs.length c] w (LayDone w g w.heap.size (4 * rs.length + 140) rs) := by
  obtain ⟨m, hm⟩ : ∃ m, m = rs.length := ⟨_, rfl⟩
  have hfb : Far A rs.length w.heap.size := C27_lt hc
  have hglt : g < w.heap.size := hg.lt
  have hne : g ≠ w.heap.size := by omega
  have HC := Lib.hid hc
  have HFG := Lib.hid hfg
  have HFB := Lib.hid hfb
  have HM := Lib.hid hm
  have HN := Lib.hid hne
  rw [← hm] at hsmall hsz ⊢
  obtain ⟨i0, hi, hz0, hz1, hz2⟩ := info_parts info27
  have hmk : ∀ W : World, (Instr.makeSlice 22 (.int .i64 (4 * (m : Int) + 140)) (.int .i64 (4 * (m : Int) + 140))).run Try.prog W = .ok (.slice (some ⟨W.heap.size, 0, none⟩) (4 * m + 140) (4 * m + 140)) (W.alloc (.cells (madeCells #[.int .i64 0, .int .i64 0, .int .i64 0] ((4 * m + 140) * 3)) 27)) := by
    intro W
    have h := run_make (P := Try.prog) (w := W) 22 27 i0 _ Try.underlying22 hi hz0 .i64 .i64 (4 * (m : Int) + 140) (4 * (m : Int) + 140) (by omega) (Int.le_refl _) (by rw [hz2]; omega) (by omega)
    have e : (4 * (m : Int) + 140).toNat = 4 * m + 140 := by omega
    rw [e, hz1] at h
    exact h
  have c0 := hg.cell 0
  have f0 := hg.frozen 0
  simp only [List.getElem?_toArray, List.getElem?_cons_zero] at c0
  have hsz1 : (w.setCell ⟨g, 0, none⟩ (.slice (some ⟨w.heap.size, 0, none⟩) (4 * m + 140) (4 * m + 140))).heap.size = w.heap.size := by simp [World.setCell]
  have hb0 : Blk ((w.setCell ⟨g, 0, none⟩ (.slice (some ⟨w.heap.size, 0, none⟩) (4 * m + 140) (4 * m + 140))).alloc (.cells (madeCells #[.int .i64 0, .int .i64 0, .int .i64 0] ((4 * m + 140) * 3)) 27)) w.heap.size 27 (rels (List.replicate (4 * m + 140) z27)) := by
    have h := Blk.new (w.setCell ⟨g, 0, none⟩ (.slice (some ⟨w.heap.size, 0, none⟩) (4 * m + 140) (4 * m + 140))) 27 (madeCells #[.int .i64 0, .int .i64 0, .int .i64 0] ((4 * m + 140) * 3))
    rw [hsz1] at h
    rw [← rels_made]
    exact h
  have hg0 := (hg.set_ 0 (.slice (some ⟨w.heap.size, 0, none⟩) (4 * m + 140) (4 * m + 140))).alloc (.cells (madeCells #[.int .i64 0, .int .i64 0, .int .i64 0] ((4 * m + 140) * 3)) 27)
  have HB := Lib.hid hb0
  have HG := Lib.hid hg0
  have HK := Lib.hid (((Keeps.refl w g w.heap.size).set_ ⟨g, 0, none⟩ (.slice (some ⟨w.heap.size, 0, none⟩) (4 * m + 140) (4 * m + 140)) (.inl rfl)).alloc (.cells (madeCells #[.int .i64 0, .int .i64 0, .int .i64 0] ((4 * m + 140) * 3)) 27))
  have HR := Lib.hid (List.length_replicate (n := 4 * m + 140) (a := z27))
  clear hm hc hfg hfb hg hb0 hg0 hne hsz1 hi hz0 hz1 hz2
  go_enter Try.func24, Try.ntmps24
  go_wp2
  rw [show decide ((L0:Int) < 2 * (m:Int) + 70) = true from decide_eq_true (by omega)]
  go_loopw [5] (fun i wr => ∃ (k : Nat) (ys : List S27), k ≤ (4 * m + 140) ∧ i = .int .i64 (k : Int) ∧ Hid (ys.length = (4 * m + 140)) ∧ Hid (Blk wr g 25 #[.slice (some ⟨w.heap.size, 0, none⟩) (4 * m + 140) (4 * m + 140)]) ∧ Hid (Blk wr w.heap.size 27 (rels ys)) ∧ Hid (ys.take k = (behs (4 * m + 140)).take k) ∧ Hid (Keeps w wr g w.heap.size)) (fun i _ => (4 * m + 140) - (intOf i).toNat)
  case atStart => exact ⟨0, List.replicate (4 * m + 140) z27, Nat.zero_le _, rfl, HR, HG, HB, Lib.hid rfl, HK⟩
  case round =>
    obtain ⟨k, ys, hk, rfl, hys, hG, hB, hT, hK⟩ := hrel
    clear c0 f0 HG HB HR HK hmk
    have c0 := hG.out.cell 0
    have f0 := hG.out.frozen 0
    simp only [List.getElem?_toArray, List.getElem?_cons_zero] at c0
    by_cases hlt : k < (4 * m + 140)
    · have hkl : k < ys.length := by rw [hys.out]; exact hlt
      have HKL := Lib.hid hkl
      clear hkl
      go_wp2
      go_region_with (go_at_call 40; refine (behind_ _ _).mono ?_; rintro e w' ⟨rfl, hb⟩; have hG' := Lib.hid (Blk.below (by exact hG.out.drew) hb hG.out.lt); have hB' := Lib.hid (Blk.below (by exact hB.out.drew) hb hB.out.lt); have hK' := Lib.hid (Keeps.below hK.out.drew hb); have d0 := hG'.out.cell 0; have df := hG'.out.frozen 0; simp only [List.getElem?_toArray, List.getElem?_cons_zero] at d0; have b0 := hB'.out.rel0 k HKL.out; have b1 := hB'.out.rel1 k HKL.out; have b2 := hB'.out.rel2 k HKL.out; have z0 := hB'.out.frozen (k * 3); have z1 := hB'.out.frozen (k * 3 + 1); have z2 := hB'.out.frozen (k * 3 + 2); clear hb)
      all_goals
        go_wp2
        go_roundw
        case rel => exact ⟨k + 1, ys.set k (beh k), by omega, by go_num, Lib.hid (by rw [List.length_set]; exact hys.out), Lib.hid (((hG'.out.far (p := ⟨w.heap.size, k * 3, none⟩) (fun e => HN.out e.symm) _).far (p := ⟨w.heap.size, k * 3 + 1, none⟩) (fun e => HN.out e.symm) _).far (p := ⟨w.heap.size, k * 3 + 2, none⟩) (fun e => HN.out e.symm) _), Lib.hid (hB'.out.setRel k (beh k)), Lib.hid (take_set27 ys (behs (4 * m + 140)) k _ HKL.out hT.out (behs_at (4 * m + 140) k hlt)), Lib.hid (((hK'.out.set_ _ _ (.inr rfl)).set_ _ _ (.inr rfl)).set_ _ _ (.inr rfl))⟩
        case measure => simp [intOf]; omega
    · obtain rfl : k = 4 * m + 140 := by omega
      have hyb : ys = behs (4 * m + 140) := by
        have h := hT.out
        rw [List.take_of_length_le (by rw [hys.out]; omega), List.take_of_length_le (by rw [behs_length]; omega)] at h
        exact h
      obtain ⟨w2, hcp, q1, q2, q3⟩ := copied_ wr g w.heap.size (4 * m + 140) c m A rs HM.out (by omega) hG.out (by rw [← hyb]; exact hB.out) HN.out (by rw [HM.out]; exact C27_keeps HC.out hK.out HFG.out HFB.out)
      have Q1 := Lib.hid q1
      have Q2 := Lib.hid q2
      have Q3 := Lib.hid (hK.out.keeps q3)
      have d0 := Q1.out.cell 0
      simp only [List.getElem?_toArray, List.getElem?_cons_zero] at d0
      have hmL : m ≤ 4 * m + 140 := by omega
      clear q1 q2 q3 hyb
      go_wp2
      go_ret
      exact ⟨by rw [← HM.out]; rfl, Q1.out, Q2.out, Q3.out⟩
end Go.Proofs.Ytolhfcefpjfobaa.Lend
