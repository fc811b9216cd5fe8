/- Parts of the proof, laid together by a program of this session (pack.py): AllB. -/
import Derived.Test.YthmeojeehemlaaaZA12
section
namespace Go.Proofs.Ythmeojeehemlaaa.Mem
open Go.RowKit Go.Proofs.YthmeojeehemlaaaW.PrintWords
open Go.Proofs.Ythmeojeehemlaaa.PM
set_option linter.unusedVariables false
set_option linter.unusedSimpArgs false
attribute [local go_sem] isSome_setCell
set_option maxHeartbeats 4000000 in
set_option maxRecDepth 100000 in
theorem all_ (w : World) (A1 A2 A3 : Option Addr) (n1 n2 n3 c1 c2 c3 : Nat) (xs ys : List S39) (ac : List S46) (h1 : Kd.C k39 w A1 n1 xs) (h2 : Kd.C k39 w A2 n2 ys) (h3 : Kd.C k46 w A3 n3 ac) (l1 : n1 ≤ c1) (l2 : n2 ≤ c2) (l3 : n3 ≤ c3)
    (hx : ∀ y ∈ xs, Small y) (hy : ∀ y ∈ ys, Small y) (ha : ∀ a ∈ ac, Fit46 a) (hn1 : n1 + n3 + 2 ≤ 1048576) (hn2 : n2 + n3 + 2 ≤ 1048576) :
    Calls Try.prog 4 #[.slice A1 n1 c1, .slice A2 n2 c2, .slice A3 n3 c3] w fun e w' => e = .returned (.bool true) ∧ Below w.heap.size w w' := by
  have HC1 := Lib.hid h1
  have HC2 := Lib.hid h2
  have HC3 := Lib.hid h3
  have HL1 := Lib.hid h1.1
  have HL2 := Lib.hid h2.1
  have HL3 := Lib.hid h3.1
  have HX := Lib.hid hx
  have HY := Lib.hid hy
  have HA := Lib.hid ha
  clear h1 h2 h3 hx hy ha
  go_enter Try.func4, Try.ntmps4
  go_wp2_with (first | (go_at_call_of 14 (Value.slice A1 n1 c1); refine (open2_ w A1 n1 c1 xs HC1.out l1 (by omega) HX.out).mono ?_; intro e w2 hp; have hp1 := hp; obtain ⟨g1, F1, ok1, P1, rl1, rs1, rfl, _, hb1, _⟩ := hp1; have HO1 := Lib.hid hp; have HB1 := Lib.hid hb1; clear hp hb1) | (go_at_call_of 14 (Value.slice A2 n2 c2); refine (open2_ w2 A2 n2 c2 ys (Kd.C_below HC2.out HB1.out) l2 (by omega) HY.out).mono ?_; intro e w3 hp; have hp1 := hp; obtain ⟨g2, F2, ok2, P2, rl2, rs2, rfl, _, hb1, _⟩ := hp1; have HO2 := Lib.hid hp; clear hp hb1) | (go_at_call 15; refine (nils_ _).mono ?_; rintro e w4 ⟨rfl, hb⟩; have HB4 := Lib.hid hb; clear hb))
  have HP := Lib.hid (show Duo w w4 g1 g2 n1 n2 from by
    obtain ⟨gx, gy, e1, e2, hp⟩ := duo_of HO1.out HO2.out
    cases e1; cases e2
    rw [HL1.out, HL2.out] at hp
    exact hp.below HB4.out)
  clear HO1 HO2 HB4 HB1
  go_loopw [11, 12, 13, 14, 15] (fun iv _ _ _ _ wr => ∃ (k : Nat), k ≤ n3 ∧ iv = .int .i64 (k : Int) ∧ Hid (Duo w wr g1 g2 (n1 + k) (n2 + k))) (fun iv _ _ _ _ _ => n3 - (RowKit.intOf iv).toNat)
  case atStart => exact ⟨0, Nat.zero_le _, rfl, HP⟩
  case round =>
    obtain ⟨k, hk, rfl, hP⟩ := hrel
    by_cases hlt : k < n3
    · obtain ⟨ad, Ai, ci, rfl, d0, d1, d2, d3, d4, d5, hd, hdk⟩ := at46 HC3.out k (by rw [HL3.out]; exact hlt)
      obtain ⟨a, hak⟩ : ∃ a, a = ac[k]'(by rw [HL3.out]; exact hlt) := ⟨_, rfl⟩
      rw [← hak] at d0 d1 d2 d3 d4 d5 hd hdk
      have HFA := Lib.hid (show Fit46 a from by rw [hak]; exact HA.out _ (List.getElem_mem _))
      have HDK := Lib.hid hdk
      replace d0 := (hP.out.bel.cell (World.block_lt_of_cell? w _ d0)).trans d0
      replace d1 := (hP.out.bel.cell (World.block_lt_of_cell? w _ d1)).trans d1
      replace d2 := (hP.out.bel.cell (World.block_lt_of_cell? w _ d2)).trans d2
      replace d3 := (hP.out.bel.cell (World.block_lt_of_cell? w _ d3)).trans d3
      replace d4 := (hP.out.bel.cell (World.block_lt_of_cell? w _ d4)).trans d4
      replace d5 := (hP.out.bel.cell (World.block_lt_of_cell? w _ d5)).trans d5
      have HAX := Lib.hid (hP.out.act a.wh a.kd a.x a.m a.v Ai _ ci a.dat hdk hd HFA.out (by omega))
      have HAY := Lib.hid (hP.out.symm.act a.wh a.kd a.x a.m a.v Ai _ ci a.dat hdk hd HFA.out (by omega))
      clear hak hdk
      go_wp2_with (first | (go_at_call_of 16 (Value.pointer (some ⟨g1, 0, none⟩)); refine HAX.out.mono ?_; rintro e w5 ⟨v1, v2, rfl, hp⟩; have HP5 := Lib.hid hp; clear hp) | (go_at_call_of 16 (Value.pointer (some ⟨g2, 0, none⟩)); refine HAY.out.mono ?_; rintro e w5 ⟨v1, v2, rfl, hp⟩; have HP5 := Lib.hid hp.symm; clear hp))
      all_goals
        go_roundw
        case rel => exact ⟨k + 1, by omega, by go_num, Lib.hid (by rw [show n1 + (k + 1) = n1 + k + 1 by omega, show n2 + (k + 1) = n2 + k + 1 by omega]; exact HP5.out)⟩
        case measure => simp [RowKit.intOf]; omega
    · obtain rfl : k = n3 := by omega
      have HC1b := Lib.hid (Kd.C_below HC1.out hP.out.bel)
      go_wp2_with (first | (go_at_call_of 14 (Value.slice A1 n1 c1); refine (open2_ wr A1 n1 c1 xs HC1b.out l1 (by omega) HX.out).mono ?_; intro e w2 hp; have hp1 := hp; obtain ⟨g3, F3, ok3, P3, rl3, rs3, rfl, _, hb3, _⟩ := hp1; have HO3 := Lib.hid hp; clear hp hb3))
      obtain ⟨g4, e4, hT⟩ := trip_of hP.out HO3.out #[.int .i64 0, .int .i64 4, .int .u64 16, .int .i64 8, .int .u64 9, .slice none 0 0, .int .i64 0, .int .i64 7, .int .u64 0, .int .i64 0, .int .u64 0, .slice none 0 0]
      cases e4
      rw [HL1.out] at hT
      obtain ⟨lb, hlb⟩ : ∃ lb, lb = w2.heap.size := ⟨_, rfl⟩
      rw [← hlb] at hT ⊢
      have HT0 := Lib.hid hT
      clear hP HC1b HO3 hT hlb
      go_loopw [18, 19, 20, 21, 22, 23, 24, 25, 26, 27] (fun iv _ _ _ _ _ _ _ _ _ wr => ∃ (j : Nat), j ≤ 2 ∧ iv = .int .i64 (j : Int) ∧ Hid (Trip w wr lb #[.int .i64 0, .int .i64 4, .int .u64 16, .int .i64 8, .int .u64 9, .slice none 0 0, .int .i64 0, .int .i64 7, .int .u64 0, .int .i64 0, .int .u64 0, .slice none 0 0] g1 g2 g3 (n1 + k + j) (n2 + k + j) (n1 + j))) (fun iv _ _ _ _ _ _ _ _ _ _ => 2 - (RowKit.intOf iv).toNat)
      case atStart => exact ⟨0, by decide, rfl, HT0⟩
      case round =>
        obtain ⟨j, hj, rfl, hT⟩ := hrel
        clear HT0
        have HST := Lib.hid (show ∀ W ga gb gc na nb nc, Trip w W lb #[.int .i64 0, .int .i64 4, .int .u64 16, .int .i64 8, .int .u64 9, .slice none 0 0, .int .i64 0, .int .i64 7, .int .u64 0, .int .i64 0, .int .u64 0, .slice none 0 0] ga gb gc na nb nc → na + 1 ≤ 1048576 → Calls Try.prog 16 #[.pointer (some ⟨ga, 0, none⟩), .agg #[.int .i64 0, .int .i64 4, .int .u64 16, .int .i64 8, .int .u64 9, .slice none 0 0]] W fun e w' => ∃ v1 v2, e = .returned (.tuple #[.bool true, v1, v2]) ∧ Trip w w' lb #[.int .i64 0, .int .i64 4, .int .u64 16, .int .i64 8, .int .u64 9, .slice none 0 0, .int .i64 0, .int .i64 7, .int .u64 0, .int .i64 0, .int .u64 0, .slice none 0 0] ga gb gc (na + 1) nb nc from fun W ga gb gc na nb nc h hn => h.act 0 4 16 8 9 none 0 0 [] ⟨rfl, by decide, fun h => absurd h (by decide)⟩ (Nat.le_refl _) (by refine ⟨⟨⟨?_, ?_, fun b hb => absurd hb List.not_mem_nil, ?_⟩, ?_⟩, ⟨?_, ?_⟩, ?_, ?_⟩ <;> decide) hn)
        have HRG := Lib.hid (show ∀ W ga gb gc na nb nc, Trip w W lb #[.int .i64 0, .int .i64 4, .int .u64 16, .int .i64 8, .int .u64 9, .slice none 0 0, .int .i64 0, .int .i64 7, .int .u64 0, .int .i64 0, .int .u64 0, .slice none 0 0] ga gb gc na nb nc → na + 1 ≤ 1048576 → Calls Try.prog 16 #[.pointer (some ⟨ga, 0, none⟩), .agg #[.int .i64 0, .int .i64 7, .int .u64 0, .int .i64 0, .int .u64 0, .slice none 0 0]] W fun e w' => ∃ v1 v2, e = .returned (.tuple #[.bool true, v1, v2]) ∧ Trip w w' lb #[.int .i64 0, .int .i64 4, .int .u64 16, .int .i64 8, .int .u64 9, .slice none 0 0, .int .i64 0, .int .i64 7, .int .u64 0, .int .i64 0, .int .u64 0, .slice none 0 0] ga gb gc (na + 1) nb nc from fun W ga gb gc na nb nc h hn => h.act 0 7 0 0 0 none 0 0 [] ⟨rfl, by decide, fun h => absurd h (by decide)⟩ (Nat.le_refl _) (by refine ⟨⟨⟨?_, ?_, fun b hb => absurd hb List.not_mem_nil, ?_⟩, ?_⟩, ⟨?_, ?_⟩, ?_, ?_⟩ <;> decide) hn)
        have HT := hT
        have l0 := HT.out.blk.cell 0; have l1 := HT.out.blk.cell 1; have l2 := HT.out.blk.cell 2; have l3 := HT.out.blk.cell 3; have l4 := HT.out.blk.cell 4; have l5 := HT.out.blk.cell 5; have l6 := HT.out.blk.cell 6; have l7 := HT.out.blk.cell 7; have l8 := HT.out.blk.cell 8; have l9 := HT.out.blk.cell 9; have l10 := HT.out.blk.cell 10; have l11 := HT.out.blk.cell 11; simp only [List.getElem?_toArray, List.getElem?_cons_zero, List.getElem?_cons_succ] at l0 l1 l2 l3 l4 l5 l6 l7 l8 l9 l10 l11
        by_cases hlt : j < 2
        · have hj2 : j = 0 ∨ j = 1 := by omega
          rcases hj2 with rfl | rfl
          · go_wp2_with (first | (go_at_call_of 16 (Value.pointer (some ⟨g3, 0, none⟩)); refine (HST.out _ _ _ _ _ _ _ hT.out.zyx (by omega)).mono ?_; rintro e w5 ⟨v1, v2, rfl, hp⟩; have HT5 := Lib.hid hp.zyx; have HT := HT5; have l0 := HT.out.blk.cell 0; have l1 := HT.out.blk.cell 1; have l2 := HT.out.blk.cell 2; have l3 := HT.out.blk.cell 3; have l4 := HT.out.blk.cell 4; have l5 := HT.out.blk.cell 5; have l6 := HT.out.blk.cell 6; have l7 := HT.out.blk.cell 7; have l8 := HT.out.blk.cell 8; have l9 := HT.out.blk.cell 9; have l10 := HT.out.blk.cell 10; have l11 := HT.out.blk.cell 11; simp only [List.getElem?_toArray, List.getElem?_cons_zero, List.getElem?_cons_succ] at l0 l1 l2 l3 l4 l5 l6 l7 l8 l9 l10 l11; clear hp) | (go_at_call_of 16 (Value.pointer (some ⟨g1, 0, none⟩)); refine (HRG.out _ _ _ _ _ _ _ HT5.out (by omega)).mono ?_; rintro e w6 ⟨v1', v2', rfl, hp⟩; have HT6 := Lib.hid hp; have HT := HT6; have l0 := HT.out.blk.cell 0; have l1 := HT.out.blk.cell 1; have l2 := HT.out.blk.cell 2; have l3 := HT.out.blk.cell 3; have l4 := HT.out.blk.cell 4; have l5 := HT.out.blk.cell 5; have l6 := HT.out.blk.cell 6; have l7 := HT.out.blk.cell 7; have l8 := HT.out.blk.cell 8; have l9 := HT.out.blk.cell 9; have l10 := HT.out.blk.cell 10; have l11 := HT.out.blk.cell 11; simp only [List.getElem?_toArray, List.getElem?_cons_zero, List.getElem?_cons_succ] at l0 l1 l2 l3 l4 l5 l6 l7 l8 l9 l10 l11; clear hp) | (go_at_call_of 16 (Value.pointer (some ⟨g2, 0, none⟩)); refine (HRG.out _ _ _ _ _ _ _ HT6.out.yxz (by omega)).mono ?_; rintro e w7 ⟨v1'', v2'', rfl, hp⟩; have HT7 := Lib.hid hp.yxz; clear hp))
            go_roundw
            case rel => exact ⟨1, by decide, rfl, HT7⟩
            case measure => simp [RowKit.intOf]
          · go_wp2_with (first | (go_at_call_of 16 (Value.pointer (some ⟨g3, 0, none⟩)); refine (HRG.out _ _ _ _ _ _ _ hT.out.zyx (by omega)).mono ?_; rintro e w5 ⟨v1, v2, rfl, hp⟩; have HT5 := Lib.hid hp.zyx; have HT := HT5; have l0 := HT.out.blk.cell 0; have l1 := HT.out.blk.cell 1; have l2 := HT.out.blk.cell 2; have l3 := HT.out.blk.cell 3; have l4 := HT.out.blk.cell 4; have l5 := HT.out.blk.cell 5; have l6 := HT.out.blk.cell 6; have l7 := HT.out.blk.cell 7; have l8 := HT.out.blk.cell 8; have l9 := HT.out.blk.cell 9; have l10 := HT.out.blk.cell 10; have l11 := HT.out.blk.cell 11; simp only [List.getElem?_toArray, List.getElem?_cons_zero, List.getElem?_cons_succ] at l0 l1 l2 l3 l4 l5 l6 l7 l8 l9 l10 l11; clear hp) | (go_at_call_of 16 (Value.pointer (some ⟨g1, 0, none⟩)); refine (HST.out _ _ _ _ _ _ _ HT5.out (by omega)).mono ?_; rintro e w6 ⟨v1', v2', rfl, hp⟩; have HT6 := Lib.hid hp; have HT := HT6; have l0 := HT.out.blk.cell 0; have l1 := HT.out.blk.cell 1; have l2 := HT.out.blk.cell 2; have l3 := HT.out.blk.cell 3; have l4 := HT.out.blk.cell 4; have l5 := HT.out.blk.cell 5; have l6 := HT.out.blk.cell 6; have l7 := HT.out.blk.cell 7; have l8 := HT.out.blk.cell 8; have l9 := HT.out.blk.cell 9; have l10 := HT.out.blk.cell 10; have l11 := HT.out.blk.cell 11; simp only [List.getElem?_toArray, List.getElem?_cons_zero, List.getElem?_cons_succ] at l0 l1 l2 l3 l4 l5 l6 l7 l8 l9 l10 l11; clear hp) | (go_at_call_of 16 (Value.pointer (some ⟨g2, 0, none⟩)); refine (HST.out _ _ _ _ _ _ _ HT6.out.yxz (by omega)).mono ?_; rintro e w7 ⟨v1'', v2'', rfl, hp⟩; have HT7 := Lib.hid hp.yxz; clear hp))
            go_roundw
            case rel => exact ⟨2, by decide, rfl, HT7⟩
            case measure => simp [RowKit.intOf]
        · obtain rfl : j = 2 := by omega
          go_wp2_with (go_at_call 9; refine (awake_ _).mono ?_; rintro e w4 ⟨rfl, hb4⟩; have HB4 := Lib.hid hb4; clear hb4)
          go_ret
          exact ⟨rfl, hT.out.bel.trans (HB4.out.mono hT.out.bel.size)⟩
end Go.Proofs.Ythmeojeehemlaaa.Mem
end
