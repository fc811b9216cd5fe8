/- The state of a tray between calls; 'written' as a whole; RelocWrites as a whole. Written by this session. -/
import Derived.Test.YtolhfcefpjfobaaTray2
import Derived.Test.YtolhfcefpjfobaaPRx8
import Derived.Test.YtolhfcefpjfobaaPRx10
namespace Go.Proofs.Ytolhfcefpjfobaa.Lend
open Go.RowKit Go.Proofs.YtolhfcefpjfobaaW.PrintWords
open Go.Proofs.Ytolhfcefpjfobaa.PR
set_option linter.unusedVariables false
set_option linter.unusedSimpArgs false
attribute [local go_sem] isSome_setCell

def TSt (B N : Nat) (w : World) (g : Nat) : Prop := g < N ∧ ∃ v, Blk w g 25 #[v] ∧ (v = .slice none 0 0 ∨ ∃ (gb : Nat) (xs : List S27), B ≤ gb ∧ gb < N ∧ g ≠ gb ∧ xs.length < 1099511627776 ∧ v = .slice (some ⟨gb, 0, none⟩) xs.length xs.length ∧ Blk w gb 27 (rels xs))
theorem TSt.below {B N : Nat} {w w' : World} {g : Nat} (h : TSt B N w g) (hb : Below w.heap.size w w') : TSt B N w' g := by
  obtain ⟨hg, v, h1, h2⟩ := h
  refine ⟨hg, v, h1.below hb h1.lt, ?_⟩
  rcases h2 with h2 | ⟨gb, xs, a1, a2, a3, a4, a5, a6⟩
  · exact .inl h2
  · exact .inr ⟨gb, xs, a1, a2, a3, a4, a5, a6.below hb a6.lt⟩
theorem TSt.mono {B B' N : Nat} {w : World} {g : Nat} (h : TSt B N w g) (hB : B' ≤ B) : TSt B' N w g := by
  obtain ⟨hg, v, h1, h2⟩ := h
  refine ⟨hg, v, h1, ?_⟩
  rcases h2 with h2 | ⟨gb, xs, a1, a2⟩
  · exact .inl h2
  · exact .inr ⟨gb, xs, by omega, a2⟩
def TLent (B N : Nat) (w w' : World) (g gb L : Nat) (rs : List S27) : Prop := B ≤ gb ∧ (gb < N ∨ w.heap.size ≤ gb) ∧ g ≠ gb ∧ 2 * rs.length + 70 ≤ L ∧ L < 1099511627776 ∧ Blk w' g 25 #[.slice (some ⟨gb, 0, none⟩) L L] ∧ Blk w' gb 27 (rels (TR L rs)) ∧ Keeps w w' g gb
theorem lay_ (B N : Nat) (w : World) (g c : Nat) (A : Option Addr) (rs : List S27) (hsz : rs.length ≤ 1048576) (hB : B ≤ w.heap.size) (h : TSt B N w g) (hc : Kd.C k27 w A rs.length rs) (hfar : 0 < rs.length → ∀ ad, A = some ad → ad.block ≠ g ∧ ad.block < B) :
    Calls Try.prog 24 #[.pointer (some ⟨g, 0, none⟩), .slice A rs.length c] w fun e w' => ∃ gb L, e = .returned (.slice (some ⟨gb, 0, none⟩) rs.length L) ∧ TLent B N w w' g gb L rs := by
  obtain ⟨hg, v, h1, h2⟩ := h
  have fg : Far A rs.length g := fun hp ad e => (hfar hp ad e).1
  have newer : ∀ (L0 : Nat) (B0 : Option Addr), L0 < 2 * rs.length + 70 → Blk w g 25 #[.slice B0 L0 L0] → Calls Try.prog 24 #[.pointer (some ⟨g, 0, none⟩), .slice A rs.length c] w fun e w' => ∃ gb L, e = .returned (.slice (some ⟨gb, 0, none⟩) rs.length L) ∧ TLent B N w w' g gb L rs := by
    intro L0 B0 hs hb
    refine (lay_new w g L0 c A B0 rs hs (by omega) hb hc fg).mono ?_
    rintro e w' ⟨y1, y2, y3, y4⟩
    have := hb.lt
    exact ⟨_, _, y1, hB, .inr (Nat.le_refl _), by omega, by omega, by omega, y2, y3, y4⟩
  rcases h2 with rfl | ⟨gb, xs, a1, a2, a3, a4, rfl, a6⟩
  · exact newer 0 none (by omega) h1
  · by_cases hs : xs.length < 2 * rs.length + 70
    · exact newer _ _ hs h1
    · refine (lay_old w g gb xs.length c A xs rs rfl (by omega) (by omega) h1 a6 a3 hc fg (fun hp ad e => by have := (hfar hp ad e).2; omega)).mono ?_
      rintro e w' ⟨y1, y2, y3, y4⟩
      exact ⟨gb, _, y1, a1, .inl a2, a3, by omega, by omega, y2, y3, y4⟩
theorem tlent_C {B N : Nat} {w w' : World} {g gb L : Nat} {rs : List S27} (h : TLent B N w w' g gb L rs) : Kd.C k27 w' (some ⟨gb, 0, none⟩) rs.length rs := by
  obtain ⟨h1, h2, h3, h4, h5, h6, h7, h8⟩ := h
  have hl : rs.length ≤ L := by omega
  have h := C_of_rels h7 rs.length (by rw [TR_length _ _ hl]; exact hl) (by rw [TR_length _ _ hl]; omega)
  rw [TR_take] at h
  exact h
def TBack (w w' : World) (g gb L : Nat) : Prop := (∃ zs : List S27, zs.length = L ∧ Blk w' g 25 #[.slice (some ⟨gb, 0, none⟩) L L] ∧ Blk w' gb 27 (rels zs)) ∧ Keeps w w' g gb
theorem tlent_back {B N k0 : Nat} {w w3 w4 : World} {g gb L c : Nat} {A : Option Addr} {rs : List S27} (h : TLent B N w w3 g gb L rs) (hb : Below w3.heap.size w3 w4) (hc : Kd.C k27 w A rs.length rs) (hac : rs.length ≤ c) (hfar : 0 < rs.length → ∀ ad, A = some ad → ad.block ≠ g ∧ ad.block < B) (hs : spindlelaw11_SameRels.f k0 rs rs = some true) :
    Calls Try.prog 25 #[.pointer (some ⟨g, 0, none⟩), .slice A rs.length c] w4 fun e w' => e = .returned (.bool true) ∧ TBack w4 w' g gb L := by
  obtain ⟨h1, h2, h3, h4, h5, h6, h7, h8⟩ := h
  have fg : Far A rs.length g := fun hp ad e => (hfar hp ad e).1
  have fb : Far A rs.length gb := fun hp ad e => by have := (hfar hp ad e).2; omega
  refine (tback_ k0 w4 g gb L c A rs (by omega) (by omega) (h6.below hb h6.lt) (h7.below hb h7.lt) h3 (Kd.C_below (C27_keeps hc h8 fg fb) hb) hac hs).mono ?_
  rintro e w' ⟨e1, zs, z1, z2, z3, z4⟩
  exact ⟨e1, ⟨zs, z1, z2, z3⟩, z4⟩
theorem tlent_new {B N : Nat} {w w3 w4 : World} {g gb L : Nat} {rs : List S27} (h : TLent B N w w3 g gb L rs) (hb : Below w3.heap.size w3 w4) : ∀ k, w3.heap.size ≤ k ∧ k < w4.heap.size → k ≠ g ∧ k ≠ gb := by
  obtain ⟨h1, h2, h3, h4, h5, h6, h7, h8⟩ := h
  have := h6.lt
  have := h7.lt
  intro k hk
  exact ⟨by omega, by omega⟩
theorem tlent_old {B : Nat} {w w2 w3 : World} {g gb L : Nat} {rs : List S27} (hS : TSt B w.heap.size w g) (h : TLent B w.heap.size w2 w3 g gb L rs) : ∀ k, w.heap.size ≤ k ∧ k < w2.heap.size → k ≠ g ∧ k ≠ gb := by
  obtain ⟨h1, h2, h3, h4, h5, h6, h7, h8⟩ := h
  have := hS.1
  intro k hk
  exact ⟨by omega, by omega⟩
set_option maxHeartbeats 2000000 in
set_option maxRecDepth 100000 in
theorem written_ (k B : Nat) (w : World) (g c : Nat) (A : Option Addr) (rs : List S27) (r1 : List Int) (r2 : Int) (hsz : rs.length ≤ 1048576) (hB : B ≤ w.heap.size) (hS : TSt B w.heap.size w g) (hc : Kd.C k27 w A rs.length rs) (hac : rs.length ≤ c) (hfar : 0 < rs.length → ∀ ad, A = some ad → ad.block ≠ g ∧ ad.block < B)
    (h1 : spindleref11_Write.f k rs = some (r1, r2)) (h2 : reloc_Write.f k rs = some (r1, r2)) (h3 : spindlelaw11_SameRels.f k rs rs = some true) (h4 : spindlelaw0_SameBytes.f r1 r1 = some true) (h5 : spindlelaw0_Num.f r2 = some r2) :
    Calls Try.prog 8 #[.pointer (some ⟨g, 0, none⟩), .slice A rs.length c] w fun e w' => e = .returned (.bool true) ∧ TSt B w'.heap.size w' g ∧ Round B g w w' := by
  have HS := Lib.hid hS
  have HC := Lib.hid hc
  have HA := Lib.hid hac
  have HF := Lib.hid hfar
  have HBB := Lib.hid hB
  have HZ := Lib.hid hsz
  have H1 := Lib.hid h1
  have H2 := Lib.hid h2
  have H3 := Lib.hid h3
  have H4 := Lib.hid h4
  have H5 := Lib.hid h5
  clear hS hc hac hfar hB hsz h1 h2 h3 h4 h5
  go_enter Try.func8, Try.ntmps8
  go_wp2_with (first
    | (go_at_call 12; refine (spindleref11_Write.calls k _ _ rs r1 r2 _ HC.out HA.out H1.out).mono ?_; rintro e w2 ⟨v2, rfl, p1, p2⟩; have P3 := Lib.hid p1; have P4 := Lib.hid p2; clear p1 p2; obtain ⟨A2, c2, rfl⟩ := Kd.R_slice P3.out)
    | (go_at_call 24; refine (lay_ B w.heap.size _ g c A rs HZ.out (Nat.le_trans HBB.out P4.out.size) (HS.out.below P4.out) (Kd.C_below HC.out P4.out) HF.out).mono ?_; rintro e w3 ⟨gb, L, rfl, p1⟩; have P5 := Lib.hid p1; clear p1)
    | (go_at_call 13; refine (reloc_Write.calls k _ _ rs r1 r2 _ (tlent_C P5.out) (by have := P5.out.2.2.2.1; omega) H2.out).mono ?_; rintro e w4 ⟨v4, rfl, p1, p2⟩; have P6 := Lib.hid p1; have P7 := Lib.hid p2; clear p1 p2; obtain ⟨A4, c4, rfl⟩ := Kd.R_slice P6.out)
    | (go_at_call 25; refine (tlent_back P5.out P7.out (Kd.C_below HC.out P4.out) HA.out HF.out H3.out).mono ?_; rintro e w5 ⟨rfl, p1⟩; have P8 := Lib.hid p1; clear p1)
    | (go_at_call 17; refine (spindlelaw0_SameBytes.calls _ _ r1 _ _ r1 true _ (Kd.R_reads' (R_keeps (R_within P6.out) P8.out.2 (tlent_new P5.out P7.out))).2.2 (Kd.R_reads' P6.out).2.1 (Kd.R_reads' (R_keeps (Kd.R_below (R_keeps (R_within P3.out) P5.out.2.2.2.2.2.2.2 (tlent_old HS.out P5.out)) P7.out) P8.out.2 (tlent_old HS.out P5.out))).2.2 (Kd.R_reads' P3.out).2.1 H4.out).mono ?_; rintro e w' ⟨rfl, ⟨nd, rfl⟩⟩)
    | (go_at_call 18; refine (spindlelaw0_Num.calls r2 r2 _ H5.out).mono ?_; rintro e w' ⟨rfl, ⟨nd2, rfl⟩⟩))
  go_ret
  obtain ⟨h1, h2, h3, h4, h5, h6, h7, h8⟩ := P5.out
  obtain ⟨⟨zs, z1, z2, z3⟩, z4⟩ := P8.out
  have hR := (((Round.refl B g w).below HBB.out P4.out).keeps HBB.out h8 h1).below HBB.out P7.out
  have hR := hR.keeps HBB.out z4 h1
  have hgb := z3.lt
  have hgg := z2.lt
  refine ⟨rfl, ⟨hgg, _, z2, .inr ⟨gb, zs, h1, hgb, h3, by omega, by rw [z1], z3⟩⟩, ⟨hR.os, hR.tape, hR.output, hR.size, hR.block⟩⟩
end Go.Proofs.Ytolhfcefpjfobaa.Lend
