/- The state of a lender between calls; Lend and Back as one contract each; 'read' as a whole. Written by this session. -/
import Derived.Test.YtolhfcefpjfobaaLend2
import Derived.Test.YtolhfcefpjfobaaPRx5
import Derived.Test.YtolhfcefpjfobaaPRx6
import Derived.Test.YtolhfcefpjfobaaPRx11
import Derived.Test.YtolhfcefpjfobaaPRx12
import Derived.Test.YtolhfcefpjfobaaPRx13
namespace Go.Proofs.Ytolhfcefpjfobaa.Lend
open Go.RowKit Go.Proofs.YtolhfcefpjfobaaW.PrintWords
open Go.Proofs.Ytolhfcefpjfobaa.PR
set_option linter.unusedVariables false

theorem Blk.below {w w' : World} {g B : Nat} {t : TypeId} {cs : Array Value} (h : Blk w g t cs) (hb : Below B w w') (hB : g < B) : Blk w' g t cs := (hb.block g hB).trans h
theorem Blk.keeps {w w' : World} {g g1 g2 : Nat} {t : TypeId} {cs : Array Value} (h : Blk w g t cs) (hk : Keeps w w' g1 g2) (h1 : g ≠ g1) (h2 : g ≠ g2) : Blk w' g t cs := (hk.block g h.lt h1 h2).trans h
theorem R_keeps {α : Type} {d : Kd α} {e base : Nat} {w w1 : World} {ok : Nat → Prop} {v : Value} {xs : List α} {g gb : Nat} (h : d.R e w base ok v xs) (hk : Keeps w w1 g gb) (hg : ∀ k, ok k → k ≠ g ∧ k ≠ gb) : d.R e w1 base ok v xs :=
  Kd.R_step h (fun k ho hlt => hk.block k hlt (hg k ho).1 (hg k ho).2)
theorem R_within {α : Type} {d : Kd α} {e base : Nat} {w : World} {ok : Nat → Prop} {v : Value} {xs : List α} (h : d.R e w base ok v xs) : d.R e w base (fun k => base ≤ k ∧ k < w.heap.size) v xs :=
  Kd.R_mono (Kd.R_bound h) (fun _ hk => ⟨hk.2.1, hk.2.2.1⟩)
theorem C_keeps {w w1 : World} {g gb n : Nat} {A : Option Addr} {a : List Int} (h : Kd.C (Kd.int .u8) w A n a) (hk : Keeps w w1 g gb) (h1 : Far A n g) (h2 : Far A n gb) : Kd.C (Kd.int .u8) w1 A n a := by
  refine ⟨h.1, h.2.1, fun hp => ?_⟩
  obtain ⟨ad, e, hc⟩ := h.2.2 hp
  refine ⟨ad, e, fun j p hj => ?_⟩
  obtain ⟨c, hs, hr, hcell⟩ := hc j p hj
  refine ⟨c, hs, hr, fun i u hu => hk.cell (hcell i u hu) ?_ ?_⟩
  · have := h1 hp ad e
    unfold Addr.add; split <;> exact this
  · have := h2 hp ad e
    unfold Addr.add; split <;> exact this

/-- The lender at block g: its buffer, if it has one, lies in a block from B on, below N. -/
def St (B N : Nat) (w : World) (g : Nat) : Prop := g < N ∧ ∃ v n, Blk w g 33 #[v, .int .i64 n] ∧ (v = .slice none 0 0 ∨ ∃ (gb : Nat) (xs : List Int), B ≤ gb ∧ gb < N ∧ g ≠ gb ∧ xs.length < 1099511627776 ∧ v = .slice (some ⟨gb, 0, none⟩) xs.length xs.length ∧ Blk w gb 5 (ints xs))
theorem St.below {B N : Nat} {w w' : World} {g : Nat} (h : St B N w g) (hb : Below w.heap.size w w') : St B N w' g := by
  obtain ⟨hg, v, n, h1, h2⟩ := h
  refine ⟨hg, v, n, h1.below hb h1.lt, ?_⟩
  rcases h2 with h2 | ⟨gb, xs, a1, a2, a3, a4, a5, a6⟩
  · exact .inl h2
  · exact .inr ⟨gb, xs, a1, a2, a3, a4, a5, a6.below hb a6.lt⟩
def Lent (B N : Nat) (w w' : World) (g gb : Nat) (ys a : List Int) : Prop := B ≤ gb ∧ (gb < N ∨ w.heap.size ≤ gb) ∧ g ≠ gb ∧ 2 * a.length + 70 ≤ ys.length ∧ ys.length < 1099511627776 ∧ Blk w' g 33 #[.slice (some ⟨gb, 0, none⟩) ys.length ys.length, .int .i64 a.length] ∧ Blk w' gb 5 (ints ys) ∧ ys.take (2 * a.length + 70) = T a ∧ Keeps w w' g gb
theorem lend_ (B N : Nat) (w : World) (g c : Nat) (A : Option Addr) (a : List Int) (hsz : a.length ≤ 1048576) (hB : B ≤ w.heap.size) (h : St B N w g) (hc : Kd.C (Kd.int .u8) w A a.length a) (hfar : 0 < a.length → ∀ ad, A = some ad → ad.block ≠ g ∧ ad.block < B) :
    Calls Try.prog 26 #[.pointer (some ⟨g, 0, none⟩), .slice A a.length c] w fun e w' => ∃ gb ys, e = .returned (.slice (some ⟨gb, 0, none⟩) a.length (2 * a.length + 70)) ∧ Lent B N w w' g gb ys a := by
  obtain ⟨hg, v, n, h1, h2⟩ := h
  have fg : Far A a.length g := fun hp ad e => (hfar hp ad e).1
  have newer : ∀ (L0 : Nat) (B0 : Option Addr), L0 < 2 * a.length + 70 → Blk w g 33 #[.slice B0 L0 L0, .int .i64 n] → Calls Try.prog 26 #[.pointer (some ⟨g, 0, none⟩), .slice A a.length c] w fun e w' => ∃ gb ys, e = .returned (.slice (some ⟨gb, 0, none⟩) a.length (2 * a.length + 70)) ∧ Lent B N w w' g gb ys a := by
    intro L0 B0 hs hb
    refine (lend_new w g L0 c n A B0 a hs (by omega) hb (Rd.of_C hc) fg).mono ?_
    rintro e w' ⟨ys, y1, y2, y3, y4, y5, y6⟩
    have := hb.lt
    refine ⟨_, ys, y2, hB, .inr (Nat.le_refl _), by omega, by omega, by omega, ?_, y4, y5, y6⟩
    rw [y1]; exact y3
  rcases h2 with rfl | ⟨gb, xs, a1, a2, a3, a4, rfl, a6⟩
  · exact newer 0 none (by omega) h1
  · by_cases hs : xs.length < 2 * a.length + 70
    · exact newer _ _ hs h1
    · refine (lend_old w g gb xs.length c n A xs a rfl (by omega) (by omega) h1 a6 a3 (Rd.of_C hc) fg (fun hp ad e => by have := (hfar hp ad e).2; omega)).mono ?_
      rintro e w' ⟨ys, y1, y2, y3, y4, y5, y6⟩
      refine ⟨gb, ys, y2, a1, .inl a2, a3, by omega, by omega, ?_, y4, y5, y6⟩
      rw [y1]; exact y3
theorem lent_C {B N : Nat} {w w' : World} {g gb : Nat} {ys a : List Int} (h : Lent B N w w' g gb ys a) : Kd.C (Kd.int .u8) w' (some ⟨gb, 0, none⟩) a.length a := by
  obtain ⟨h1, h2, h3, h4, h5, h6, h7, h8, h9⟩ := h
  have h := C_of_blk h7 a.length (by omega) (by omega)
  have e : ys.take a.length = a := by
    have h := congrArg (List.take a.length) h8
    rw [List.take_take, Nat.min_eq_left (by omega)] at h
    rw [h, T, List.take_append_of_le_length (by omega), List.take_length]
  rw [e] at h
  exact h
def Back (B : Nat) (w w' : World) (g gb n : Nat) (a : List Int) : Prop := (∃ zs : List Int, zs.length = n ∧ Blk w' g 33 #[.slice (some ⟨gb, 0, none⟩) n n, .int .i64 a.length] ∧ Blk w' gb 5 (ints zs)) ∧ Keeps w w' g gb
theorem lent_back {B N : Nat} {w w3 w4 : World} {g gb c : Nat} {A : Option Addr} {ys a : List Int} (h : Lent B N w w3 g gb ys a) (hb : Below w3.heap.size w3 w4) (hB : B ≤ w.heap.size) (hc : Kd.C (Kd.int .u8) w A a.length a) (hfar : 0 < a.length → ∀ ad, A = some ad → ad.block ≠ g ∧ ad.block < B) :
    Calls Try.prog 27 #[.pointer (some ⟨g, 0, none⟩), .slice A a.length c] w4 fun e w' => e = .returned (.bool true) ∧ Back B w4 w' g gb ys.length a := by
  obtain ⟨h1, h2, h3, h4, h5, h6, h7, h8, h9⟩ := h
  have fg : Far A a.length g := fun hp ad e => (hfar hp ad e).1
  have fb : Far A a.length gb := fun hp ad e => by have := (hfar hp ad e).2; omega
  refine (back_ w4 g gb ys.length c A ys a rfl h4 (by omega) (h6.below hb h6.lt) (h7.below hb h7.lt) h3 (Kd.C_below (C_keeps hc h9 fg fb) hb) h8 fg fb).mono ?_
  rintro e w' ⟨e1, zs, z1, z2, z3, z4⟩
  exact ⟨e1, ⟨zs, z1, z2, z3⟩, z4⟩
theorem lent_new {B N : Nat} {w w3 w4 : World} {g gb : Nat} {ys a : List Int} (h : Lent B N w w3 g gb ys a) (hb : Below w3.heap.size w3 w4) : ∀ k, w3.heap.size ≤ k ∧ k < w4.heap.size → k ≠ g ∧ k ≠ gb := by
  obtain ⟨h1, h2, h3, h4, h5, h6, h7, h8, h9⟩ := h
  have := h6.lt
  have := h7.lt
  intro k hk
  exact ⟨by omega, by omega⟩
theorem lent_old {B : Nat} {w w1 w2 w3 : World} {g gb : Nat} {ys a : List Int} (hS : St B w.heap.size w g) (hb : Below w.heap.size w w1) (h : Lent B w.heap.size w2 w3 g gb ys a) : ∀ k, w1.heap.size ≤ k ∧ k < w2.heap.size → k ≠ g ∧ k ≠ gb := by
  obtain ⟨h1, h2, h3, h4, h5, h6, h7, h8, h9⟩ := h
  have := hS.1
  have := hb.size
  intro k hk
  exact ⟨by omega, by omega⟩
/-- below B, but for the lender's own block, the world is as it was -/
structure Round (B g : Nat) (w w' : World) : Prop where
  os : w'.os = w.os
  tape : w'.tape = w.tape
  output : w'.output = w.output
  size : w.heap.size ≤ w'.heap.size
  block : ∀ i, i < B → i ≠ g → w'.heap[i]? = w.heap[i]?
theorem Round.refl (B g : Nat) (w : World) : Round B g w w := ⟨rfl, rfl, rfl, Nat.le_refl _, fun _ _ _ => rfl⟩
theorem Round.below {B g : Nat} {w w1 w2 : World} (h : Round B g w w1) (hB : B ≤ w.heap.size) (hb : Below w1.heap.size w1 w2) : Round B g w w2 :=
  ⟨hb.os.trans h.os, hb.tape.trans h.tape, hb.output.trans h.output, Nat.le_trans h.size hb.size, fun i hi hg => (hb.block i (by have := h.size; omega)).trans (h.block i hi hg)⟩
theorem Round.keeps {B g gb : Nat} {w w1 w2 : World} (h : Round B g w w1) (hB : B ≤ w.heap.size) (hk : Keeps w1 w2 g gb) (hgb : B ≤ gb) : Round B g w w2 :=
  ⟨hk.os.trans h.os, hk.tape.trans h.tape, hk.output.trans h.output, Nat.le_trans h.size hk.size, fun i hi hg => (hk.block i (by have := h.size; omega) hg (by omega)).trans (h.block i hi hg)⟩

set_option maxHeartbeats 2000000 in
set_option maxRecDepth 100000 in
theorem read_ (k B : Nat) (w : World) (g c : Nat) (A : Option Addr) (a : List Int) (r1 : List S27) (r2 r3 : Int) (hsz : a.length ≤ 1048576) (hB : B ≤ w.heap.size) (hS : St B w.heap.size w g) (hc : Kd.C (Kd.int .u8) w A a.length a) (hac : a.length ≤ c) (hfar : 0 < a.length → ∀ ad, A = some ad → ad.block ≠ g ∧ ad.block < B)
    (h0 : spindlelaw0_CopyBytes.f a = some a) (h1 : spindleref11_Read.f k a = some (r1, r2, r3)) (h2 : reloc_Read.f k a = some (r1, r2, r3)) (h3 : spindlelaw11_SameRels.f k r1 r1 = some true) (h4 : spindlelaw0_Num.f r3 = some r3) :
    Calls Try.prog 10 #[.slice A a.length c, .pointer (some ⟨g, 0, none⟩)] w fun e w' => e = .returned (.bool true) ∧ St B w'.heap.size w' g ∧ Round B g w w' := by
  have HS := Lib.hid hS
  have HC := Lib.hid hc
  have HA := Lib.hid hac
  have HF := Lib.hid hfar
  have HBB := Lib.hid hB
  have HZ := Lib.hid hsz
  have H0 := Lib.hid h0
  have H1 := Lib.hid h1
  have H2 := Lib.hid h2
  have H3 := Lib.hid h3
  have H4 := Lib.hid h4
  clear hS hc hac hfar hB hsz h0 h1 h2 h3 h4
  go_enter Try.func10, Try.ntmps10
  go_wp2_with (first
    | (go_at_call 15; refine (spindlelaw0_CopyBytes.calls A c a a w HC.out HA.out H0.out).mono ?_; rintro e w1 ⟨v1, rfl, p1, p2⟩; have P1 := Lib.hid p1; have P2 := Lib.hid p2; clear p1 p2; obtain ⟨A1, c1, rfl⟩ := Kd.R_slice P1.out)
    | (go_at_call 14; refine (spindleref11_Read.calls k _ _ a r1 r2 r3 _ (Kd.R_reads' P1.out).2.2 (Kd.R_reads' P1.out).2.1 H1.out).mono ?_; rintro e w2 ⟨v2, rfl, p1, p2⟩; have P3 := Lib.hid p1; have P4 := Lib.hid p2; clear p1 p2; obtain ⟨A2, c2, rfl⟩ := Kd.R_slice P3.out)
    | (go_at_call 26; refine (lend_ B w.heap.size _ g c A a HZ.out (Nat.le_trans HBB.out (Nat.le_trans P2.out.size P4.out.size)) ((HS.out.below P2.out).below P4.out) (Kd.C_below (Kd.C_below HC.out P2.out) P4.out) HF.out).mono ?_; rintro e w3 ⟨gb, ys, rfl, p1⟩; have P5 := Lib.hid p1; clear p1)
    | (go_at_call 16; refine (reloc_Read.calls k _ _ a r1 r2 r3 _ (lent_C P5.out) (by omega) H2.out).mono ?_; rintro e w4 ⟨v4, rfl, p1, p2⟩; have P6 := Lib.hid p1; have P7 := Lib.hid p2; clear p1 p2; obtain ⟨A4, c4, rfl⟩ := Kd.R_slice P6.out)
    | (go_at_call 27; refine (lent_back P5.out P7.out (Nat.le_trans HBB.out (Nat.le_trans P2.out.size P4.out.size)) (Kd.C_below (Kd.C_below HC.out P2.out) P4.out) HF.out).mono ?_; rintro e w5 ⟨rfl, p1⟩; have P8 := Lib.hid p1; clear p1)
    | (go_at_call 19; refine (spindlelaw11_SameRels.calls k _ _ r1 _ _ r1 true _ (Kd.R_reads' (R_keeps (R_within P6.out) P8.out.2 (lent_new P5.out P7.out))).2.2 (Kd.R_reads' P6.out).2.1 (Kd.R_reads' (R_keeps (Kd.R_below (R_keeps (R_within P3.out) P5.out.2.2.2.2.2.2.2.2 (lent_old HS.out P2.out P5.out)) P7.out) P8.out.2 (lent_old HS.out P2.out P5.out))).2.2 (Kd.R_reads' P3.out).2.1 H3.out).mono ?_; rintro e w' ⟨rfl, ⟨nd, rfl⟩⟩)
    | (go_at_call 18; refine (spindlelaw0_Num.calls r3 r3 _ H4.out).mono ?_; rintro e w' ⟨rfl, ⟨nd2, rfl⟩⟩))
  go_ret
  obtain ⟨h1, h2, h3, h4, h5, h6, h7, h8, h9⟩ := P5.out
  obtain ⟨⟨zs, z1, z2, z3⟩, z4⟩ := P8.out
  have hR := ((((Round.refl B g w).below HBB.out P2.out).below HBB.out P4.out).keeps HBB.out h9 h1).below HBB.out P7.out
  have hR := hR.keeps HBB.out z4 h1
  have hgb := z3.lt
  have hgg := z2.lt
  refine ⟨rfl, ⟨hgg, _, _, z2, .inr ⟨gb, zs, h1, hgb, h3, by omega, by rw [z1], z3⟩⟩, ⟨hR.os, hR.tape, hR.output, hR.size, hR.block⟩⟩

theorem Round.to_below {B g : Nat} {w0 w1 w2 : World} (hb : Below w0.heap.size w0 w1) (h : Round B g w1 w2) (hB : w0.heap.size ≤ B) (hg : w0.heap.size ≤ g) : Below w0.heap.size w0 w2 :=
  ⟨h.os.trans hb.os, h.tape.trans hb.tape, h.output.trans hb.output, Nat.le_trans hb.size h.size, fun i hi => (h.block i (by omega) (by omega)).trans (hb.block i hi)⟩
theorem St.mono {B B' N : Nat} {w : World} {g : Nat} (h : St B N w g) (hB : B' ≤ B) : St B' N w g := by
  obtain ⟨hg, v, n, h1, h2⟩ := h
  refine ⟨hg, v, n, h1, ?_⟩
  rcases h2 with h2 | ⟨gb, xs, a1, a2⟩
  · exact .inl h2
  · exact .inr ⟨gb, xs, by omega, a2⟩
theorem size_alloc (w : World) (o : Obj) : (w.alloc o).heap.size = w.heap.size + 1 := by
  show (w.heap.push o).size = _
  rw [Array.size_push]
theorem St.first {w w1 : World} (hb : Below (w.alloc (.cells #[.slice none 0 0, .int .i64 0] 33)).heap.size (w.alloc (.cells #[.slice none 0 0, .int .i64 0] 33)) w1) : St w1.heap.size w1.heap.size w1 w.heap.size := by
  have h := (Blk.new w 33 #[.slice none 0 0, .int .i64 0]).below hb (by rw [size_alloc]; omega)
  exact ⟨h.lt, _, _, h, .inl rfl⟩
theorem first_far {w w1 : World} {o : Obj} {A : Option Addr} {n c : Nat} {b : List Int} (h : Kd.R (Kd.int .u8) 5 w1 (w.alloc o).heap.size (fun _ => True) (.slice A n c) b) : 0 < b.length → ∀ ad, A = some ad → ad.block ≠ w.heap.size ∧ ad.block < w1.heap.size := by
  intro hp ad e
  obtain ⟨g, cap, e2, h1, h2, _⟩ := Kd.R_form h hp
  rw [size_alloc] at h1
  cases e
  cases e2
  exact ⟨by simp only; omega, h2⟩
theorem old_far {w : World} {A : Option Addr} {a : List Int} (h : Kd.C (Kd.int .u8) w A a.length a) : 0 < a.length → ∀ ad, A = some ad → ad.block ≠ w.heap.size ∧ ad.block < w.heap.size := by
  intro hp ad e
  obtain ⟨b, off, e2, hc⟩ := (Rd.of_C h) hp
  have := World.block_lt_of_cell? w _ (hc 0 hp)
  cases e
  cases e2
  simp only at this ⊢
  exact ⟨by omega, this⟩

set_option maxHeartbeats 2000000 in
set_option maxRecDepth 100000 in
theorem reads_ (k : Nat) (w : World) (c : Nat) (A : Option Addr) (a b : List Int) (r1 s1 : List S27) (r2 r3 s2 s3 : Int) (hsz : a.length ≤ 1048576) (hsb : b.length ≤ 1048576) (hc : Kd.C (Kd.int .u8) w A a.length a) (hac : a.length ≤ c)
    (ht : spindlelaw11_turned.f k a = some b)
    (g0 : spindlelaw0_CopyBytes.f b = some b) (g1 : spindleref11_Read.f k b = some (s1, s2, s3)) (g2 : reloc_Read.f k b = some (s1, s2, s3)) (g3 : spindlelaw11_SameRels.f k s1 s1 = some true) (g4 : spindlelaw0_Num.f s3 = some s3)
    (h0 : spindlelaw0_CopyBytes.f a = some a) (h1 : spindleref11_Read.f k a = some (r1, r2, r3)) (h2 : reloc_Read.f k a = some (r1, r2, r3)) (h3 : spindlelaw11_SameRels.f k r1 r1 = some true) (h4 : spindlelaw0_Num.f r3 = some r3)
    (hw : spindlelaw11_awake.f k = some true) :
    Calls Try.prog 4 #[.slice A a.length c] w fun e w' => e = .returned (.bool true) ∧ Below w.heap.size w w' := by
  have HC := Lib.hid hc
  have HA := Lib.hid hac
  have HF := Lib.hid (old_far hc)
  have HZ := Lib.hid hsz
  have HZ2 := Lib.hid hsb
  have HT := Lib.hid ht
  have G0 := Lib.hid g0
  have G1 := Lib.hid g1
  have G2 := Lib.hid g2
  have G3 := Lib.hid g3
  have G4 := Lib.hid g4
  have H0 := Lib.hid h0
  have H1 := Lib.hid h1
  have H2 := Lib.hid h2
  have H3 := Lib.hid h3
  have H4 := Lib.hid h4
  have HW := Lib.hid hw
  clear hc hac hsz hsb ht g0 g1 g2 g3 g4 h0 h1 h2 h3 h4 hw
  have hL := Lib.hid (Below.refl w.heap.size w)
  go_enter Try.func4, Try.ntmps4
  go_wp2_with (first
    | (go_at_call 11; refine (spindlelaw11_turned.calls k A c a b _ (Kd.C_alloc HC.out _) HA.out HT.out).mono ?_; rintro e w1 ⟨v1, rfl, p1, p2⟩; have P1 := Lib.hid p1; have P2 := Lib.hid p2; have Q0 := Lib.hid (below_step (below_alloc hL.out _) p2); clear p1 p2 hL; obtain ⟨A1, c1, rfl⟩ := Kd.R_slice P1.out)
    | (go_at_call 10; refine (read_ k _ _ _ c1 A1 b s1 s2 s3 HZ2.out (Nat.le_refl _) (St.first P2.out) (Kd.R_reads' P1.out).2.2 (Kd.R_reads' P1.out).2.1 (first_far P1.out) G0.out G1.out G2.out G3.out G4.out).mono ?_; rintro e w2 ⟨rfl, p1, p2⟩; have S1 := Lib.hid (St.mono p1 (B' := w.heap.size) Q0.out.size); have Q1 := Lib.hid (Round.to_below Q0.out p2 Q0.out.size (Nat.le_refl _)); clear p1 p2 P1 P2 Q0)
    | (go_at_call 10; refine (read_ k w.heap.size _ _ c A a r1 r2 r3 HZ.out Q1.out.size S1.out (Kd.C_below HC.out Q1.out) HA.out HF.out H0.out H1.out H2.out H3.out H4.out).mono ?_; rintro e w3 ⟨rfl, p1, p2⟩; have S2 := Lib.hid p1; have Q2 := Lib.hid (Round.to_below Q1.out p2 (Nat.le_refl _) (Nat.le_refl _)); clear p1 p2 Q1 S1)
    | (go_at_call 10; refine (read_ k w.heap.size _ _ c A a r1 r2 r3 HZ.out Q2.out.size S2.out (Kd.C_below HC.out Q2.out) HA.out HF.out H0.out H1.out H2.out H3.out H4.out).mono ?_; rintro e w4 ⟨rfl, p1, p2⟩; have Q3 := Lib.hid (Round.to_below Q2.out p2 (Nat.le_refl _) (Nat.le_refl _)); clear p1 p2 Q2 S2)
    | (go_at_call 9; refine (spindlelaw11_awake.calls k true _ HW.out).mono ?_; rintro e w5 ⟨rfl, p1⟩; have Q4 := Lib.hid (below_step Q3.out p1); clear p1 Q3))
  go_ret
  exact ⟨rfl, Q4.out⟩
end Go.Proofs.Ytolhfcefpjfobaa.Lend
