/- The lender: Lend puts a list into its buffer, marks behind it; Back finds both as they were. Written by this session. -/
import Derived.Test.YtolhfcefpjfobaaProg
import Derived.Test.YtolhfcefpjfobaaWWords
import Derived.Test.YtolhfcefpjfobaaExtra
import Derived.RegionTactic
import Derived.WalkKit
import Derived.KernelRfl
import Derived.Deep.QuietTactic
import Derived.BigQuiet
import Derived.Laws.MakeOwn
import Derived.Laws.OwnMore
import Derived.OwnWalk
import Derived.Deep.LoopGhost
import Derived.Lib.Hide
import Derived.Deep.RegionWith
namespace Go.Proofs.Ytolhfcefpjfobaa.Lend
open Go.RowKit Go.Proofs.YtolhfcefpjfobaaW.PrintWords
set_option linter.unusedVariables false
set_option linter.unusedSimpArgs false
attribute [local go_sem] isSome_setCell

def mk (i : Int) : Int := (wrap64 (203 - wrap64 (5 * i))) % 256
theorem mark_any (p : Option Addr) (i : Int) (w : World) : Calls Try.prog 41 #[.pointer p, .int .i64 i] w fun e w' => e = .returned (.int .u8 (mk i)) ∧ w = w' := by
  go_enter Try.func41, Try.ntmps41
  go_wp2
  go_ret
  exact ⟨rfl, rfl⟩

/-! A block that is known whole. -/
def Blk (w : World) (g : Nat) (t : TypeId) (cs : Array Value) : Prop := w.heap[g]? = some (.cells cs t (0, 0))
section
variable {w w' : World} {g : Nat} {t : TypeId} {cs : Array Value}
theorem Blk.lt (h : Blk w g t cs) : g < w.heap.size := by
  rcases Nat.lt_or_ge g w.heap.size with hlt | hge
  · exact hlt
  · unfold Blk at h; rw [Array.getElem?_eq_none hge] at h; cases h
theorem Blk.cell (h : Blk w g t cs) (i : Nat) : w.cell? ⟨g, i, none⟩ = cs[i]? := by
  unfold Blk at h
  simp [World.cell?, h]
theorem Blk.frozen (h : Blk w g t cs) (i : Nat) : w.frozen? ⟨g, i, none⟩ = false := by
  unfold Blk at h
  simp [World.frozen?, h]
theorem Blk.set_ (h : Blk w g t cs) (i : Nat) (u : Value) : Blk (w.setCell ⟨g, i, none⟩ u) g t (cs.setIfInBounds i u) := by
  unfold Blk at h ⊢
  simp [World.setCell, Array.getElem?_modify, h]
theorem Blk.far (h : Blk w g t cs) {p : Addr} (hp : p.block ≠ g) (u : Value) : Blk (w.setCell p u) g t cs := by
  unfold Blk at h ⊢
  rw [← h]
  simp [World.setCell, Array.getElem?_modify, hp]
theorem Blk.drewN (h : Blk w g t cs) (n : Nat) : Blk (w.drewN n) g t cs := h
theorem Blk.drew (h : Blk w g t cs) : Blk w.drew g t cs := h
theorem Blk.alloc (h : Blk w g t cs) (o : Obj) : Blk (w.alloc o) g t cs := by
  have hl := h.lt
  unfold Blk at h ⊢
  rw [← h]
  simp only [World.alloc, Array.getElem?_push]
  rw [if_neg (by omega)]
theorem Blk.new (w : World) (t : TypeId) (cs : Array Value) : Blk (w.alloc (.cells cs t)) w.heap.size t cs := heap_alloc_new w _
end

def ints (xs : List Int) : Array Value := (xs.map (Value.int .u8)).toArray
theorem ints_at (xs : List Int) (i : Nat) (h : i < xs.length) : (ints xs)[i]? = some (.int .u8 xs[i]) := by
  simp [ints, h]
theorem ints_set (xs : List Int) (i : Nat) (x : Int) : (ints xs).setIfInBounds i (.int .u8 x) = ints (xs.set i x) := by
  simp [ints, List.map_set]
theorem ints_made (n : Nat) : madeCells (Value.int .u8 0).cells (n * 1) = ints (List.replicate n 0) := by
  apply Array.ext
  · simp [ints, size_madeCells]
  · intro i h1 h2
    simp [ints, madeCells, Value.cells, Nat.mod_one]

/-- only the blocks g and gb may have changed of what was there -/
structure Keeps (w w' : World) (g gb : Nat) : Prop where
  os : w'.os = w.os
  tape : w'.tape = w.tape
  output : w'.output = w.output
  size : w.heap.size ≤ w'.heap.size
  block : ∀ i, i < w.heap.size → i ≠ g → i ≠ gb → w'.heap[i]? = w.heap[i]?
section
variable {w w' : World} {g gb : Nat}
theorem Keeps.refl (w : World) (g gb : Nat) : Keeps w w g gb := ⟨rfl, rfl, rfl, Nat.le_refl _, fun _ _ _ _ => rfl⟩
theorem Keeps.set_ (h : Keeps w w' g gb) (p : Addr) (u : Value) (hp : p.block = g ∨ p.block = gb) : Keeps w (w'.setCell p u) g gb := by
  refine ⟨h.os, h.tape, h.output, by simpa [World.setCell] using h.size, fun i hi h1 h2 => ?_⟩
  rw [← h.block i hi h1 h2]
  have : p.block ≠ i := by rcases hp with e | e <;> omega
  simp [World.setCell, Array.getElem?_modify, this]
theorem Keeps.drewN (h : Keeps w w' g gb) (n : Nat) : Keeps w (w'.drewN n) g gb := ⟨h.os, h.tape, h.output, h.size, h.block⟩
theorem Keeps.drew (h : Keeps w w' g gb) : Keeps w w'.drew g gb := ⟨h.os, h.tape, h.output, h.size, h.block⟩
theorem Keeps.alloc (h : Keeps w w' g gb) (o : Obj) : Keeps w (w'.alloc o) g gb := by
  refine ⟨h.os, h.tape, h.output, by
    have := h.size
    show w.heap.size ≤ (w'.heap.push o).size
    rw [Array.size_push]; omega, fun i hi h1 h2 => ?_⟩
  rw [← h.block i hi h1 h2]
  simp only [World.alloc, Array.getElem?_push]
  rw [if_neg (by have := h.size; omega)]
theorem Keeps.cell (h : Keeps w w' g gb) {p : Addr} {v : Value} (hc : w.cell? p = some v) (h1 : p.block ≠ g) (h2 : p.block ≠ gb) : w'.cell? p = some v := by
  have hl := World.block_lt_of_cell? w p hc
  have := h.block p.block hl h1 h2
  simpa [World.cell?, this] using hc
end

/-- the list, and marks behind it -/
def T (a : List Int) : List Int := a ++ (List.range (a.length + 70)).map fun j => mk ((a.length + j : Nat) : Int)
theorem T_length (a : List Int) : (T a).length = 2 * a.length + 70 := by simp [T]; omega
theorem T_low (a : List Int) (i : Nat) (h : i < a.length) : (T a)[i]? = some a[i] := by
  unfold T; rw [List.getElem?_append_left h, List.getElem?_eq_getElem h]
theorem T_high (a : List Int) (i : Nat) (h0 : a.length ≤ i) (h1 : i < 2 * a.length + 70) : (T a)[i]? = some (mk i) := by
  unfold T; rw [List.getElem?_append_right h0]
  simp only [List.getElem?_map]
  rw [List.getElem?_range (by omega)]
  simp only [Option.map_some]
  congr 3; omega
theorem take_set (ys l : List Int) (k : Nat) (x : Int) (hk : k < ys.length) (h : ys.take k = l.take k) (hx : l[k]? = some x) : (ys.set k x).take (k + 1) = l.take (k + 1) := by
  have hl : k < l.length := (List.getElem?_eq_some_iff.1 hx).1
  have hx' : l[k] = x := (List.getElem?_eq_some_iff.1 hx).2
  rw [List.take_succ_eq_append_getElem (by simpa using hk), List.take_succ_eq_append_getElem hl, hx', List.take_set_of_le (Nat.le_refl _), h, List.getElem_set_self]

/-- what is lent, at its cells -/
def Rd (w : World) (A : Option Addr) (a : List Int) : Prop := 0 < a.length → ∃ b off, A = some ⟨b, off, none⟩ ∧ ∀ i (h : i < a.length), w.cell? ⟨b, off + i, none⟩ = some (.int .u8 a[i])
def Far (A : Option Addr) (n k : Nat) : Prop := 0 < n → ∀ ad, A = some ad → ad.block ≠ k
theorem Rd.of_C {w : World} {A : Option Addr} {a : List Int} (h : Kd.C (Kd.int .u8) w A a.length a) : Rd w A a := by
  intro hp
  obtain ⟨ad, e, hc⟩ := h.2.2 hp
  have one : ∀ i (hi : i < a.length), w.cell? (ad.add i) = some (.int .u8 a[i]) := by
    intro i hi
    obtain ⟨c, hs, hr, hcell⟩ := hc i a[i] (List.getElem?_eq_getElem hi)
    have : c = [.int .u8 a[i]] := hr
    subst this
    have := hcell 0 _ rfl
    simpa [Kd.int, Kd.scalar] using this
  have h0 := one 0 hp
  have hs : ad.spot = none := by
    rw [show ad.add 0 = ad from by simp [Addr.add]] at h0
    unfold World.cell? at h0
    split at h0
    · split at h0
      · cases h0
      · rename_i hn; simpa using hn
    · cases h0
  obtain ⟨b, off, sp⟩ := ad
  simp only at hs
  subst hs
  refine ⟨b, off, e, fun i hi => ?_⟩
  have := one i hi
  unfold Addr.add at this
  by_cases hi0 : i = 0
  · subst hi0; simpa using this
  · rw [if_neg hi0] at this; simpa using this
theorem C_of_blk {w : World} {gb : Nat} {ys : List Int} (h : Blk w gb 5 (ints ys)) (m : Nat) (hm : m ≤ ys.length) (hl : ys.length ≤ 9223372036854775807) : Kd.C (Kd.int .u8) w (some ⟨gb, 0, none⟩) (ys.take m).length (ys.take m) := by
  refine ⟨rfl, by simp; omega, fun _ => ⟨_, rfl, fun j p hj => ⟨[.int .u8 p], rfl, rfl, fun i u hu => ?_⟩⟩⟩
  have hj' : j < (ys.take m).length := (List.getElem?_eq_some_iff.1 hj).1
  have hjy : j < ys.length := by simp at hj'; omega
  have hp : ys[j] = p := by
    have := (List.getElem?_eq_some_iff.1 hj).2
    rw [List.getElem_take] at this
    exact this
  have hi : i = 0 := by
    have := (List.getElem?_eq_some_iff.1 hu).1
    simpa using this
  subst hi
  have hu' : Value.int .u8 p = u := by simpa using hu
  subst hu'
  have hc := h.cell j
  rw [ints_at ys j hjy, hp] at hc
  rw [← hc]
  unfold Addr.add
  simp [Kd.int, Kd.scalar]
  by_cases h0 : j = 0 <;> simp [h0]

/-- The lender at block g: what its buffer holds, and its number. -/
def Lnd (w : World) (g : Nat) (v : Value) (n : Int) (xs : List Int) : Prop :=
  Blk w g 33 #[v, .int .i64 n] ∧ ((v = .slice none 0 0 ∧ xs = []) ∨ ∃ gb, v = .slice (some ⟨gb, 0, none⟩) xs.length xs.length ∧ Blk w gb 5 (ints xs) ∧ g ≠ gb)

/-- the two loops of Lend and what stands behind them, as one statement on the code that is left -/
def Done (w : World) (g gb : Nat) (a : List Int) (L : Nat) (e : Ending) (w' : World) : Prop :=
  ∃ ys : List Int, ys.length = L ∧ e = .returned (.slice (some ⟨gb, 0, none⟩) a.length (2 * a.length + 70)) ∧ Blk w' g 33 #[.slice (some ⟨gb, 0, none⟩) L L, .int .i64 a.length] ∧ Blk w' gb 5 (ints ys) ∧ ys.take (2 * a.length + 70) = T a ∧ Keeps w w' g gb

set_option maxHeartbeats 2000000 in
set_option maxRecDepth 100000 in
theorem lend_old (w : World) (g gb L c : Nat) (n : Int) (A : Option Addr) (xs a : List Int) (hL : xs.length = L) (hbig : 2 * a.length + 70 ≤ L) (hl : L < 562949953421312) (hg : Blk w g 33 #[.slice (some ⟨gb, 0, none⟩) L L, .int .i64 n]) (hb : Blk w gb 5 (ints xs)) (hne : g ≠ gb)
    (ha : Rd w A a) (hfg : Far A a.length g) (hfb : Far A a.length gb) :
    Calls Try.prog 26 #[.pointer (some ⟨g, 0, none⟩), .slice A a.length c] w (Done w g gb a L) := by
  obtain ⟨m, hm⟩ : ∃ m, m = a.length := ⟨_, rfl⟩
  rw [← hm] at hbig hfg hfb ⊢
  have c0 := hg.cell 0
  have c1 := hg.cell 1
  have f0 := hg.frozen 0
  have f1 := hg.frozen 1
  simp only [List.getElem?_toArray, List.getElem?_cons_zero, List.getElem?_cons_succ] at c0 c1
  have HL := Lib.hid hL
  have HM := Lib.hid hm
  have HA := Lib.hid ha
  have HFG := Lib.hid hfg
  have HFB := Lib.hid hfb
  have HG := Lib.hid hg
  have HB := Lib.hid hb
  clear hL hm ha hg hb hfg hfb
  go_enter Try.func26, Try.ntmps26
  go_wp2
  go_loopw [5] (fun i wr => ∃ (k : Nat) (ys : List Int), k ≤ m ∧ i = .int .i64 (k : Int) ∧ Hid (ys.length = L) ∧ Hid (Blk wr g 33 #[.slice (some ⟨gb, 0, none⟩) L L, .int .i64 n]) ∧ Hid (Blk wr gb 5 (ints ys)) ∧ Hid (ys.take k = (T a).take k) ∧ Hid (Keeps w wr g gb)) (fun i _ => m - (intOf i).toNat)
  case atStart => exact ⟨0, xs, Nat.zero_le _, rfl, HL, HG, HB, Lib.hid rfl, Lib.hid (Keeps.refl _ _ _)⟩
  case round =>
    obtain ⟨k, ys, hk, rfl, hys, hG, hB, hT, hK⟩ := hrel
    clear c0 c1 f0 f1 HG HB HL
    have c0 := hG.out.cell 0
    have c1 := hG.out.cell 1
    have f0 := hG.out.frozen 0
    have f1 := hG.out.frozen 1
    simp only [List.getElem?_toArray, List.getElem?_cons_zero, List.getElem?_cons_succ] at c0 c1
    by_cases hlt : k < m
    · have hka : k < a.length := by rw [← HM.out]; exact hlt
      obtain ⟨b, off, rfl, hcell⟩ := HA.out (by omega)
      have hbg : b ≠ g := HFG.out (by omega) _ rfl
      have hbb : b ≠ gb := HFB.out (by omega) _ rfl
      have ca := hK.out.cell (hcell k hka) hbg hbb
      clear hcell
      have cb := hB.out.cell k
      rw [ints_at ys k (by rw [hys.out]; omega)] at cb
      have fb := hB.out.frozen k
      have hTk := T_low a k hka
      have HTk := Lib.hid hTk
      clear hTk
      go_wp2
      go_region
      have h1 := (hG.out.far (p := ⟨gb, k, none⟩) (fun e => hne e.symm) (.int .u8 a[k]))
      have h2 := hB.out.set_ k (.int .u8 a[k])
      rw [ints_set] at h2
      go_wp2
      go_roundw
      case rel => exact ⟨k + 1, ys.set k a[k], by omega, by go_num, Lib.hid (by rw [List.length_set]; exact hys.out), Lib.hid h1.drew, Lib.hid h2.drew, Lib.hid (take_set ys (T a) k _ (by rw [hys.out]; omega) hT.out HTk.out), Lib.hid ((hK.out.set_ _ _ (.inr rfl)).drew)⟩
      case measure => simp [intOf]; omega
    · obtain rfl : k = m := by omega
      clear hlt
      go_wp2
      obtain ⟨wo, rfl⟩ : ∃ wo : World, wo = wr := ⟨_, rfl⟩
      go_loopw [6] (fun i wr => ∃ (j : Nat) (zs : List Int), k ≤ j ∧ j ≤ 2 * k + 70 ∧ i = .int .i64 (j : Int) ∧ Hid (zs.length = L) ∧ Hid (Blk wr g 33 #[.slice (some ⟨gb, 0, none⟩) L L, .int .i64 n]) ∧ Hid (Blk wr gb 5 (ints zs)) ∧ Hid (zs.take j = (T a).take j) ∧ Hid (Keeps w wr g gb)) (fun i _ => 2 * k + 70 - (intOf i).toNat)
      case atStart => exact ⟨k, ys, Nat.le_refl _, by omega, rfl, hys, hG, hB, hT, hK⟩
      case round =>
        clear hys hG hB hT hK
        obtain ⟨j, zs, hj0, hj1, rfl, hzs, hG, hB, hT, hK⟩ := hrel
        clear c0 c1 f0 f1
        have c0 := hG.out.cell 0
        have c1 := hG.out.cell 1
        have f0 := hG.out.frozen 0
        have f1 := hG.out.frozen 1
        simp only [List.getElem?_toArray, List.getElem?_cons_zero, List.getElem?_cons_succ] at c0 c1
        by_cases hlt : j < 2 * k + 70
        · have cb := hB.out.cell j
          rw [ints_at zs j (by rw [hzs.out]; omega)] at cb
          have fb := hB.out.frozen j
          have HTj := Lib.hid (T_high a j (by rw [← HM.out]; omega) (by rw [← HM.out]; omega))
          have h1 := Lib.hid (hG.out.far (p := ⟨gb, j, none⟩) (fun e => hne e.symm) (.int .u8 (mk j)))
          have h2 := Lib.hid (show Blk (wr.setCell ⟨gb, j, none⟩ (.int .u8 (mk j))) gb 5 (ints (zs.set j (mk j))) from by rw [← ints_set]; exact hB.out.set_ j _)
          go_wp2
          go_region_with (go_at_call 41; refine (mark_any _ _ _).mono ?_; rintro e w' ⟨rfl, rfl⟩)
          all_goals
            go_wp2
            go_roundw
            case rel => exact ⟨j + 1, zs.set j (mk j), by omega, by omega, by go_num, Lib.hid (by rw [List.length_set]; exact hzs.out), Lib.hid h1.out.drew, Lib.hid h2.out.drew, Lib.hid (take_set zs (T a) j _ (by rw [hzs.out]; omega) hT.out HTj.out), Lib.hid ((hK.out.set_ _ _ (.inr rfl)).drew)⟩
            case measure => simp [intOf]; omega
        · obtain rfl : j = 2 * k + 70 := by omega
          go_wp2
          go_ret
          have hTT : zs.take (2 * a.length + 70) = T a := by
            rw [← HM.out, hT.out, List.take_of_length_le (by rw [T_length, ← HM.out]; omega)]
          have hs := hG.out.set_ 1 (.int .i64 (k : Int))
          refine ⟨zs, hzs.out, ?_, ?_, hB.out.far (p := ⟨g, 1, none⟩) hne _, hTT, hK.out.set_ _ _ (.inl rfl)⟩
          · rw [← HM.out]; rfl
          · rw [← HM.out]; exact hs
set_option maxHeartbeats 2000000 in
set_option maxRecDepth 100000 in
theorem lend_new (w : World) (g L0 c : Nat) (n : Int) (A B : Option Addr) (a : List Int) (hsmall : L0 < 2 * a.length + 70) (hsz : a.length < 70368744000000) (hg : Blk w g 33 #[.slice B L0 L0, .int .i64 n])
    (ha : Rd w A a) (hfg : Far A a.length g) :
    Calls Try.prog 26 #[.pointer (some ⟨g, 0, none⟩), .slice A a.length c] w (Done w g w.heap.size a (4 * a.length + 512)) := by
  obtain ⟨m, hm⟩ : ∃ m, m = a.length := ⟨_, rfl⟩
  have hfb : Far A a.length w.heap.size := by
    intro hp ad e
    obtain ⟨b, off, e', hc⟩ := ha hp
    rw [e] at e'
    obtain rfl := Option.some.inj e'
    have := World.block_lt_of_cell? w _ (hc 0 hp)
    simp only at this ⊢
    omega
  have hglt : g < w.heap.size := hg.lt
  have hne : g ≠ w.heap.size := by omega
  rw [← hm] at hsmall hfg hfb hsz ⊢
  have hmk : ∀ W : World, (Instr.makeSlice 30 (.int .i64 (4 * (m : Int) + 512)) (.int .i64 (4 * (m : Int) + 512))).run Try.prog W = .ok (.slice (some ⟨W.heap.size, 0, none⟩) (4 * m + 512) (4 * m + 512)) (W.alloc (.cells (madeCells #[.int .u8 0] (4 * m + 512)) 5)) := by
    have h := print_make (P := Try.prog) 30 5 .u8 1 Try.underlying30 (by kernel_rfl) (by decide) (4 * m + 512) (by omega)
    have e : ((4 * m + 512 : Nat) : Int) = 4 * (m : Int) + 512 := by omega
    rw [e] at h
    exact h
  have c0 := hg.cell 0
  have c1 := hg.cell 1
  have f0 := hg.frozen 0
  have f1 := hg.frozen 1
  simp only [List.getElem?_toArray, List.getElem?_cons_zero, List.getElem?_cons_succ] at c0 c1
  have HM := Lib.hid hm
  have HA := Lib.hid ha
  have HFG := Lib.hid hfg
  have HFB := Lib.hid hfb
  have HN := Lib.hid hne
  have hsz1 : (w.setCell ⟨g, 0, none⟩ (.slice (some ⟨w.heap.size, 0, none⟩) (4 * m + 512) (4 * m + 512))).heap.size = w.heap.size := by simp [World.setCell]
  have hb0 : Blk ((w.setCell ⟨g, 0, none⟩ (.slice (some ⟨w.heap.size, 0, none⟩) (4 * m + 512) (4 * m + 512))).alloc (.cells (madeCells #[.int .u8 0] (4 * m + 512)) 5)) w.heap.size 5 (ints (List.replicate (4 * m + 512) 0)) := by
    have e := ints_made (4 * m + 512)
    rw [Nat.mul_one] at e
    have h := Blk.new (w.setCell ⟨g, 0, none⟩ (.slice (some ⟨w.heap.size, 0, none⟩) (4 * m + 512) (4 * m + 512))) 5 (madeCells #[.int .u8 0] (4 * m + 512))
    rw [hsz1] at h
    rw [← e]
    exact h
  have hg0 := (hg.set_ 0 (.slice (some ⟨w.heap.size, 0, none⟩) (4 * m + 512) (4 * m + 512))).alloc (.cells (madeCells #[.int .u8 0] (4 * m + 512)) 5)
  have HB := Lib.hid hb0
  have HG := Lib.hid hg0
  have HK := Lib.hid (((Keeps.refl w g w.heap.size).set_ ⟨g, 0, none⟩ (.slice (some ⟨w.heap.size, 0, none⟩) (4 * m + 512) (4 * m + 512)) (.inl rfl)).alloc (.cells (madeCells #[.int .u8 0] (4 * m + 512)) 5))
  have HR := Lib.hid (List.length_replicate (n := 4 * m + 512) (a := (0 : Int)))
  clear hm ha hg hfb hfg hb0 hg0 hne hsz1
  go_enter Try.func26, Try.ntmps26
  go_wp2
  rw [show decide ((L0:Int) < 2 * (m:Int) + 70) = true from decide_eq_true (by omega)]
  go_loopw [5] (fun i wr => ∃ (k : Nat) (ys : List Int), k ≤ m ∧ i = .int .i64 (k : Int) ∧ Hid (ys.length = (4 * m + 512)) ∧ Hid (Blk wr g 33 #[.slice (some ⟨w.heap.size, 0, none⟩) (4 * m + 512) (4 * m + 512), .int .i64 n]) ∧ Hid (Blk wr w.heap.size 5 (ints ys)) ∧ Hid (ys.take k = (T a).take k) ∧ Hid (Keeps w wr g w.heap.size)) (fun i _ => m - (intOf i).toNat)
  case atStart => exact ⟨0, List.replicate (4 * m + 512) 0, Nat.zero_le _, rfl, HR, HG, HB, Lib.hid rfl, HK⟩
  case round =>
    obtain ⟨k, ys, hk, rfl, hys, hG, hB, hT, hK⟩ := hrel
    clear c0 c1 f0 f1 HG HB HR HK hmk
    have c0 := hG.out.cell 0
    have c1 := hG.out.cell 1
    have f0 := hG.out.frozen 0
    have f1 := hG.out.frozen 1
    simp only [List.getElem?_toArray, List.getElem?_cons_zero, List.getElem?_cons_succ] at c0 c1
    by_cases hlt : k < m
    · have hka : k < a.length := by rw [← HM.out]; exact hlt
      obtain ⟨b, off, rfl, hcell⟩ := HA.out (by omega)
      have hbg : b ≠ g := HFG.out (by omega) _ rfl
      have hbb : b ≠ w.heap.size := HFB.out (by omega) _ rfl
      have ca := hK.out.cell (hcell k hka) hbg hbb
      clear hcell
      have cb := hB.out.cell k
      rw [ints_at ys k (by rw [hys.out]; omega)] at cb
      have fb := hB.out.frozen k
      have hTk := T_low a k hka
      have HTk := Lib.hid hTk
      clear hTk
      go_wp2
      go_region
      have h1 := (hG.out.far (p := ⟨w.heap.size, k, none⟩) (fun e => HN.out e.symm) (.int .u8 a[k]))
      have h2 := hB.out.set_ k (.int .u8 a[k])
      rw [ints_set] at h2
      go_wp2
      go_roundw
      case rel => exact ⟨k + 1, ys.set k a[k], by omega, by go_num, Lib.hid (by rw [List.length_set]; exact hys.out), Lib.hid h1.drew, Lib.hid h2.drew, Lib.hid (take_set ys (T a) k _ (by rw [hys.out]; omega) hT.out HTk.out), Lib.hid ((hK.out.set_ _ _ (.inr rfl)).drew)⟩
      case measure => simp [intOf]; omega
    · obtain rfl : k = m := by omega
      clear hlt
      go_wp2
      obtain ⟨wo, rfl⟩ : ∃ wo : World, wo = wr := ⟨_, rfl⟩
      go_loopw [6] (fun i wr => ∃ (j : Nat) (zs : List Int), k ≤ j ∧ j ≤ 2 * k + 70 ∧ i = .int .i64 (j : Int) ∧ Hid (zs.length = (4 * k + 512)) ∧ Hid (Blk wr g 33 #[.slice (some ⟨w.heap.size, 0, none⟩) (4 * k + 512) (4 * k + 512), .int .i64 n]) ∧ Hid (Blk wr w.heap.size 5 (ints zs)) ∧ Hid (zs.take j = (T a).take j) ∧ Hid (Keeps w wr g w.heap.size)) (fun i _ => 2 * k + 70 - (intOf i).toNat)
      case atStart => exact ⟨k, ys, Nat.le_refl _, by omega, rfl, hys, hG, hB, hT, hK⟩
      case round =>
        clear hys hG hB hT hK
        obtain ⟨j, zs, hj0, hj1, rfl, hzs, hG, hB, hT, hK⟩ := hrel
        clear c0 c1 f0 f1
        have c0 := hG.out.cell 0
        have c1 := hG.out.cell 1
        have f0 := hG.out.frozen 0
        have f1 := hG.out.frozen 1
        simp only [List.getElem?_toArray, List.getElem?_cons_zero, List.getElem?_cons_succ] at c0 c1
        by_cases hlt : j < 2 * k + 70
        · have cb := hB.out.cell j
          rw [ints_at zs j (by rw [hzs.out]; omega)] at cb
          have fb := hB.out.frozen j
          have HTj := Lib.hid (T_high a j (by rw [← HM.out]; omega) (by rw [← HM.out]; omega))
          have h1 := Lib.hid (hG.out.far (p := ⟨w.heap.size, j, none⟩) (fun e => HN.out e.symm) (.int .u8 (mk j)))
          have h2 := Lib.hid (show Blk (wr.setCell ⟨w.heap.size, j, none⟩ (.int .u8 (mk j))) w.heap.size 5 (ints (zs.set j (mk j))) from by rw [← ints_set]; exact hB.out.set_ j _)
          go_wp2
          go_region_with (go_at_call 41; refine (mark_any _ _ _).mono ?_; rintro e w' ⟨rfl, rfl⟩)
          all_goals
            go_wp2
            go_roundw
            case rel => exact ⟨j + 1, zs.set j (mk j), by omega, by omega, by go_num, Lib.hid (by rw [List.length_set]; exact hzs.out), Lib.hid h1.out.drew, Lib.hid h2.out.drew, Lib.hid (take_set zs (T a) j _ (by rw [hzs.out]; omega) hT.out HTj.out), Lib.hid ((hK.out.set_ _ _ (.inr rfl)).drew)⟩
            case measure => simp [intOf]; omega
        · obtain rfl : j = 2 * k + 70 := by omega
          go_wp2
          go_ret
          have hTT : zs.take (2 * a.length + 70) = T a := by
            rw [← HM.out, hT.out, List.take_of_length_le (by rw [T_length, ← HM.out]; omega)]
          have hs := hG.out.set_ 1 (.int .i64 (k : Int))
          refine ⟨zs, hzs.out, ?_, ?_, hB.out.far (p := ⟨g, 1, none⟩) HN.out _, hTT, hK.out.set_ _ _ (.inl rfl)⟩
          · rw [← HM.out]; rfl
          · rw [← HM.out]; exact hs
end Go.Proofs.Ytolhfcefpjfobaa.Lend
