/- What is handed in: back, the walk. Written by this session. -/
import Derived.Test.YthmeojeehemlaaaHandA
import Derived.Deep.RegionHeld3
namespace Go.Proofs.Ythmeojeehemlaaa.Mem
open Go.RowKit Go.Proofs.YthmeojeehemlaaaW.PrintWords
open Go.Proofs.Ythmeojeehemlaaa.PM
set_option linter.unusedVariables false
set_option linter.unusedSimpArgs false
attribute [local go_sem] isSome_setCell
theorem full_cell {base : Nat} {w : World} {V : Value} {n : Nat} {xs : List S39} {bs : List (Nat × Nat)} (h : w.ownsRow base 37 1 V n (fullCells xs bs n)) (hn : n ≤ bs.length) (hp : 0 < n) : ∃ vg vc, V = .slice (some ⟨vg, 0, none⟩) n vc ∧ n ≤ vc ∧ ∀ i (hi : i < n), w.cell? ⟨vg, i, none⟩ = some (.slice (some ⟨(bs[i]'(by omega)).1, 0, none⟩) (2 * gLen xs i + 70) (bs[i]'(by omega)).2) := by
  rcases h.2 with ⟨_, h0⟩ | ⟨g, cap, cur, rfl, _, hh, hnc, _, hsz, ht⟩
  · omega
  · refine ⟨g, cap, rfl, hnc, fun i hi => ?_⟩
    have e1 : (cur.toList.take (n * 1))[i]? = some (.slice (some ⟨(bs[i]'(by omega)).1, 0, none⟩) (2 * gLen xs i + 70) (bs[i]'(by omega)).2) := by
      rw [ht]
      unfold fullCells
      rw [List.getElem?_map, List.getElem?_range hi]
      have e : bs.getD i (0, 0) = bs[i]'(by omega) := by rw [List.getD_eq_getElem?_getD, List.getElem?_eq_getElem (by omega)]; rfl
      rw [Option.map_some, e]
    rw [List.getElem?_take] at e1
    split at e1
    · rw [Blk.cell hh i]; simpa using e1
    · cases e1
/-- the facts of place i of what was handed in -/
theorem back_row {w0 w wr : World} {G : Nat} {A : Option Addr} {n : Nat} {xs : List S39} {bs : List (Nat × Nat)} {V : Value} {i : Nat} (hC : Kd.C k39 w0 A n xs) (h0 : Below w0.heap.size w0 w) (hL : Left w0.heap.size w wr G xs bs i) (hb : bs.length = n + 70) (hV : w.ownsRow w0.heap.size 37 1 V n (fullCells xs bs n)) (hi : i < n) (hd : ∀ x ∈ xs, x.f1.length ≤ 1048576) :
    ∃ (f : Int) (m d c2 ci vg vc : Nat) (l : List Int) (ad : Addr) (Ai : Option Addr), A = some ad ∧ V = .slice (some ⟨vg, 0, none⟩) n vc ∧ n ≤ vc ∧ m ≤ 1048576 ∧ (∃ h : i < bs.length, bs[i] = (d, c2)) ∧
      wr.cell? ⟨G, i * 2, none⟩ = some (.int .u64 f) ∧ wr.cell? ⟨G, i * 2 + 1, none⟩ = some (.slice (some ⟨d, 0, none⟩) m c2) ∧ wr.cell? (ad.add (i * 2)) = some (.int .u64 f) ∧ wr.cell? ⟨(ad.add (i * 2)).block, (ad.add (i * 2)).off + 1, none⟩ = some (.slice Ai m ci) ∧
      (∀ wr2, Left w0.heap.size w wr2 G xs bs (i + 1) → wr2.cell? ⟨vg, i, none⟩ = some (.slice (some ⟨d, 0, none⟩) (2 * m + 70) c2)) ∧ Kd.C (Kd.int .u8) wr Ai m l ∧ m ≤ ci ∧ m = l.length ∧ Dat wr (some ⟨d, 0, none⟩) c2 (l ++ spareL m) := by
  have hix : i < xs.length := by rw [hC.1]; exact hi
  have hib : i < bs.length := by omega
  obtain ⟨ad, Ai, ci, hA, e0, e1, l1, k1⟩ := at_T39 (Kd.C_below hC (h0.trans hL.below)) (i : Int) (by omega) (by omega)
  rw [Int.toNat_natCast, rd39 xs i hix] at e0 e1
  rw [rd39 xs i hix] at l1 k1
  obtain ⟨cs, h1, h2, h3⟩ := hL.blk
  obtain ⟨q0, q1⟩ := h3 i hib (Nat.le_refl _)
  have gf : gFirst xs i = xs[i].f0 := by unfold gFirst; rw [dif_pos hix]
  have gl : gLen xs i = xs[i].f1.length := by unfold gLen; rw [dif_pos hix]
  have gd : gData xs i = xs[i].f1 ++ spareL xs[i].f1.length := by unfold gData; rw [dif_pos hix]
  rw [gf] at q0
  rw [gl] at q1
  have hdat := hL.dat i hib (Nat.le_refl _)
  rw [gd] at hdat
  obtain ⟨vg, vc, hVe, hnv, _⟩ := full_cell hV (by omega) (by omega)
  refine ⟨xs[i].f0, xs[i].f1.length, bs[i].1, bs[i].2, ci, vg, vc, xs[i].f1, ad, Ai, hA, hVe, hnv, hd _ (List.getElem_mem hix), ⟨hib, rfl⟩, (h1.cell _).trans q0, (h1.cell _).trans q1, e0, e1, fun wr2 hl2 => ?_, k1, l1, rfl, hdat⟩
  have hV2 : wr2.ownsRow w0.heap.size 37 1 V n (fullCells xs bs n) := ownsRow_move hV (fun g cs2 hg => hl2.frame g 37 cs2 (by decide) (by intro h; cases h) hg)
  obtain ⟨vg2, vc2, hVe2, _, hc2⟩ := full_cell hV2 (by omega) (by omega)
  rw [hVe] at hVe2
  injection hVe2 with e1
  injection e1 with e1
  injection e1 with e1
  subst e1
  rw [hc2 i hi, gl]
theorem left_cells {base : Nat} {w wr : World} {G : Nat} {xs : List S39} {bs : List (Nat × Nat)} {i : Nat} (h : Left base w wr G xs bs i) (j : Nat) (hj : j < xs.length + 70) : ∃ v0 v1, wr.cell? ⟨G, j * 2, none⟩ = some v0 ∧ wr.cell? ⟨G, j * 2 + 1, none⟩ = some v1 ∧ wr.frozen? ⟨G, j * 2, none⟩ = false ∧ wr.frozen? ⟨G, j * 2 + 1, none⟩ = false := by
  obtain ⟨cs, h1, h2, _⟩ := h.blk
  exact ⟨_, _, (h1.cell _).trans (Array.getElem?_eq_getElem (by omega)), (h1.cell _).trans (Array.getElem?_eq_getElem (by omega)), h1.frozen _, h1.frozen _⟩
theorem back_mark {base : Nat} {w wr : World} {G : Nat} {xs : List S39} {bs : List (Nat × Nat)} {i : Nat} (h : Left base w wr G xs bs i) (hi : i < bs.length) (hx : ¬ i < xs.length) : ∃ d c2, wr.cell? ⟨G, i * 2, none⟩ = some (.int .u64 (i : Int)) ∧ wr.cell? ⟨G, i * 2 + 1, none⟩ = some (.slice (some ⟨d, 0, none⟩) 1 c2) ∧ wr.cell? ⟨d, 0, none⟩ = some (.int .u8 77) := by
  obtain ⟨cs, h1, h2, h3⟩ := h.blk
  obtain ⟨q0, q1⟩ := h3 i hi (Nat.le_refl _)
  have hd := h.dat i hi (Nat.le_refl _)
  have gf : gFirst xs i = (i : Int) := by unfold gFirst; rw [dif_neg hx]
  have gl : gLen xs i = 1 := by unfold gLen; rw [dif_neg hx]
  have gd : gData xs i = [77] := by unfold gData; rw [dif_neg hx]
  rw [gf] at q0
  rw [gl] at q1
  rw [gd] at hd
  obtain ⟨d2, ds, e, hb, hl, hc⟩ := hd.row (by decide)
  cases e
  exact ⟨_, _, (h1.cell _).trans q0, (h1.cell _).trans q1, (hb.cell 0).trans (hc 0 (by decide))⟩
set_option maxHeartbeats 4000000 in
set_option maxRecDepth 100000 in
theorem back_ (w0 w : World) (G : Nat) (V : Value) (A : Option Addr) (n c : Nat) (xs : List S39) (bs : List (Nat × Nat)) (hC : Kd.C k39 w0 A n xs) (hc : n ≤ c) (h0 : Below w0.heap.size w0 w) (hL : Laid w0.heap.size w G xs bs) (hb : bs.length = n + 70) (hV : w.ownsRow w0.heap.size 37 1 V n (fullCells xs bs n)) (hn : n ≤ 1048576) (hd : ∀ x ∈ xs, x.f1.length ≤ 1048576) :
    Calls Try.prog 36 #[.slice (some ⟨G, 0, none⟩) (n + 70) (n + 70), V, .slice A n c] w fun e w' => e = .returned (.bool true) ∧ Below w0.heap.size w w' ∧ ∀ g t cs, t ≠ 39 → (t = 5 → ∀ b ∈ bs, g ≠ b.1) → Blk w g t cs → Blk w' g t cs := by
  have HC := Lib.hid hC
  have HN := Lib.hid hC.1
  have H0 := Lib.hid h0
  have HL := Lib.hid (Left.start hL)
  have HBS := Lib.hid hb
  have HV := Lib.hid hV
  have HD := Lib.hid hd
  clear hC h0 hL hb hV hd
  go_enter Try.func36, Try.ntmps36
  go_wp2
  go_loopw [7] (fun iV wr => ∃ (i : Nat), i ≤ n + 70 ∧ iV = .int .i64 (i : Int) ∧ Hid (Left w0.heap.size w wr G xs bs i)) (fun iV _ => n + 70 - (RowKit.intOf iV).toNat)
  case atStart => exact ⟨0, Nat.zero_le _, rfl, HL⟩
  case round =>
    obtain ⟨i, hiN, rfl, hLE⟩ := hrel
    by_cases hlt : i < n + 70
    · by_cases hin : i < n
      · obtain ⟨f, m, d, c2, ci, vg, vc, l, ad, Ai, rfl, rfl, hnv, hms, hbi, g0, g1, e0, e1, hvc, hk, hmci, hml, hdat⟩ := back_row HC.out H0.out hLE.out HBS.out HV.out hin HD.out
        have HVC := Lib.hid hvc
        have HBI := Lib.hid hbi
        have HDAT := Lib.hid hdat
        have HSZ := Lib.hid (show w0.heap.size ≤ wr.heap.size from Nat.le_trans H0.out.size hLE.out.below.size)
        have v0 := HVC.out wr hLE.out.next
        have hin2 : (i : Int) < (n : Int) := by omega
        have HKEPT := Lib.hid (show ∀ W, Below wr.heap.size wr W → Calls Try.prog 68 #[.slice (some ⟨d, 0, none⟩) (2 * m + 70) c2, .slice Ai m ci] W fun e w' => e = .returned (.bool true) ∧ Below W.heap.size W w' from fun W hW => kept_ W d (2 * m + 70) c2 m ci Ai l hml rfl (by omega) (hdat.below hW) (Kd.C_below hk hW) hmci)
        have HSA := Lib.hid (show ∀ W, Below wr.heap.size wr W → (fun W => W.cell? ⟨G, i * 2, none⟩ = some (.int .u64 f) ∧ W.cell? ⟨G, i * 2 + 1, none⟩ = some (.slice (some ⟨d, 0, none⟩) m c2) ∧ W.cell? (ad.add (i * 2)) = some (.int .u64 f) ∧ W.cell? ⟨(ad.add (i * 2)).block, (ad.add (i * 2)).off + 1, none⟩ = some (.slice Ai m ci) ∧ W.cell? ⟨vg, i, none⟩ = some (.slice (some ⟨d, 0, none⟩) (2 * m + 70) c2)) W from fun W hW => ⟨(hW.cell (World.block_lt_of_cell? wr _ g0)).trans g0, (hW.cell (World.block_lt_of_cell? wr _ g1)).trans g1, (hW.cell (World.block_lt_of_cell? wr _ e0)).trans e0, (hW.cell (World.block_lt_of_cell? wr _ e1)).trans e1, (hW.cell (World.block_lt_of_cell? wr _ v0)).trans v0⟩)
        have HS0 := Lib.hid (HSA.out wr.drew (below_drew (Below.refl _ _)))
        have HLEN := Lib.hid hml
        clear hvc hbi hdat hk hml hmci g0 g1 e0 e1 v0
        go_wp2
        go_region_held3 (fun W => W.cell? ⟨G, i * 2, none⟩ = some (.int .u64 f) ∧ W.cell? ⟨G, i * 2 + 1, none⟩ = some (.slice (some ⟨d, 0, none⟩) m c2) ∧ W.cell? (ad.add (i * 2)) = some (.int .u64 f) ∧ W.cell? ⟨(ad.add (i * 2)).block, (ad.add (i * 2)).off + 1, none⟩ = some (.slice Ai m ci) ∧ W.cell? ⟨vg, i, none⟩ = some (.slice (some ⟨d, 0, none⟩) (2 * m + 70) c2)) (first | exact HS0.out | exact HS1.out) (first | (go_at_call 68; refine (HKEPT.out _ (below_drew (Below.refl _ _))).mono ?_; rintro e w2 ⟨rfl, hb2⟩; have HB2 := Lib.hid ((below_drew (Below.refl wr.heap.size wr)).trans hb2); have HS1 := Lib.hid (HSA.out w2 HB2.out); clear hb2))
        have HL2 := Lib.hid ((hLE.out.after HB2.out HSZ.out).next)
        have HBK := Lib.hid (show ∃ cs : Array Value, Blk w2 d 5 cs ∧ 2 * m + 70 ≤ cs.size from by
          obtain ⟨d3, cs, e, hb, hl, _⟩ := (HDAT.out.below HB2.out).row (by have := (spareL_ok m (by omega)).2.1; simp; omega)
          cases e
          refine ⟨cs, hb, ?_⟩
          have := (spareL_ok m (by omega)).2.1
          have h5 := HLEN.out
          simp at hl
          omega)
        go_wp2
        go_loopw [8] (fun kV wr2 => ∃ (k : Nat), k ≤ 2 * m + 70 ∧ kV = .int .i64 (k : Int) ∧ Hid (Left w0.heap.size w wr2 G xs bs (i + 1)) ∧ Hid (∃ cs : Array Value, Blk wr2 d 5 cs ∧ 2 * m + 70 ≤ cs.size)) (fun kV _ => 2 * m + 70 - (RowKit.intOf kV).toNat)
        case atStart => exact ⟨0, Nat.zero_le _, rfl, HL2, HBK⟩
        case round =>
          obtain ⟨k, hk, rfl, hLk, hBk⟩ := hrel
          have vk := HVC.out _ hLk.out
          by_cases hkl : k < 2 * m + 70
          · obtain ⟨cs, hcs, hsz⟩ := hBk.out
            have ck := (hcs.cell k).trans (Array.getElem?_eq_getElem (by omega))
            have fk := hcs.frozen k
            have HCS := Lib.hid (And.intro hcs hsz)
            obtain ⟨vz, hvz⟩ : ∃ vz, vz = cs[k]'(by omega) := ⟨_, rfl⟩
            rw [← hvz] at ck
            clear hcs hsz hvz hBk
            go_wp2
            go_roundw
            case rel =>
              refine ⟨k + 1, by omega, by go_num, Lib.hid ?_, Lib.hid ⟨_, HCS.out.1.set_ k _, by simpa using HCS.out.2⟩⟩
              obtain ⟨hib, hbi⟩ := HBI.out
              have h7 := hLk.out.store hib k (.int .u8 66) (by rw [hbi]; exact ⟨_, HCS.out.1⟩)
              rw [hbi] at h7
              exact h7
            case measure => simp [RowKit.intOf]; omega
          · obtain rfl : k = 2 * m + 70 := by omega
            go_wp2
            go_roundw
            case rel => exact ⟨i + 1, by omega, by go_num, hLk⟩
            case measure => simp [RowKit.intOf]; omega
      · have k1 : IntKind.u64.wrap (i : Int) = (i : Int) := Mem.u64 _ (by omega) (by omega)
        have hge : ¬ (i : Int) < (n : Int) := by omega
        have hdn : decide (i < n) = false := decide_eq_false hin
        obtain ⟨d, c2, g0, g1, p0⟩ := back_mark hLE.out (by rw [HBS.out]; exact hlt) (by rw [HN.out]; exact hin)
        go_wp2
        go_roundw
        case rel => exact ⟨i + 1, by omega, by go_num, Lib.hid hLE.out.next⟩
        case measure => simp [RowKit.intOf]; omega
    · obtain rfl : i = n + 70 := by omega
      go_wp2
      go_loopw [9] (fun jV wr3 => ∃ (j : Nat), j ≤ n ∧ jV = .int .i64 (j : Int) ∧ Hid (Left w0.heap.size w wr3 G xs bs (xs.length + 70))) (fun jV _ => n - (RowKit.intOf jV).toNat)
      case atStart => exact ⟨0, Nat.zero_le _, rfl, Lib.hid (by rw [HN.out]; exact hLE.out)⟩
      case round =>
        obtain ⟨j, hj, rfl, hL3⟩ := hrel
        by_cases hjl : j < n
        · obtain ⟨v0, v1, y0, y1, z0, z1⟩ := left_cells hL3.out j (by rw [HN.out]; omega)
          have hjn : j < n + 70 := by omega
          have hjI : (j : Int) < (n : Int) := by omega
          have hjI2 : (j : Int) < (n : Int) + 70 := by omega
          go_wp2
          go_roundw
          case rel => exact ⟨j + 1, by omega, by go_num, Lib.hid ((hL3.out.wipe (i := 0) (by rw [HBS.out, HN.out]) _ _).wipe (i := 0) (by rw [HBS.out, HN.out]) _ _)⟩
          case measure => simp [RowKit.intOf]; omega
        · obtain rfl : j = n := by omega
          go_wp2
          go_ret
          exact ⟨rfl, hL3.out.below, hL3.out.frame⟩
end Go.Proofs.Ythmeojeehemlaaa.Mem
