/- MemoryStored: the law's loops (printed by gen_tail.py, a program of this session). -/
import Derived.Test.YthmeojeehemlaaaMem16
namespace Go.Proofs.Ythmeojeehemlaaa.Mem
open Go.RowKit Go.Proofs.YthmeojeehemlaaaW.PrintWords
open Go.Proofs.Ythmeojeehemlaaa.PM
set_option linter.unusedVariables false
set_option linter.unusedSimpArgs false
attribute [local go_sem] isSome_setCell
def postC : Nat → Code → Code
  | n + 1, .seq _ b => postC n b
  | _, c => c
/-- the cells of the two regions i -/
theorem tail_row {W : World} {m i : Nat} {A1 A2 : Option Addr} {rs rs2 : List Reg} {ok : Bool} {x kk xm : Int} (hC1 : Kd.C k39 W A1 m (rs.map s39)) (hC2 : Kd.C k39 W A2 m (rs2.map s39)) (hP : Pair ok x kk xm rs rs2) (hm : m = rs.length) (hL : ∀ r ∈ rs, r.data.length ≤ 140737488351232) (hE : Ends rs) (hB1 : AllBytes rs) (hB2 : AllBytes rs2) (hi : i < m) :
    ∃ (f : Int) (l : Nat) (ad ae : Addr) (da dc : Option Addr) (ca cc : Nat), A1 = some ad ∧ A2 = some ae ∧ W.cell? (ad.add (i * 2)) = some (.int .u64 f) ∧ W.cell? ⟨(ad.add (i * 2)).block, (ad.add (i * 2)).off + 1, none⟩ = some (.slice da l ca) ∧ W.cell? (ae.add (i * 2)) = some (.int .u64 f) ∧ W.cell? ⟨(ae.add (i * 2)).block, (ae.add (i * 2)).off + 1, none⟩ = some (.slice dc l cc) ∧ l ≤ 140737488351232 ∧ l ≤ ca ∧ l ≤ cc ∧
      Hid (∀ j, j < l → ∃ pa pc b1 b2, da = some pa ∧ dc = some pc ∧ W.cell? (pa.add j) = some (.int .u8 b1) ∧ W.cell? (pc.add j) = some (.int .u8 b2) ∧ b2 = wantOf ok x kk xm (f + (j : Int)) b1 ∧ loadOf rs2 (f + (j : Int)) 8 = (b2, 0) ∧ 0 ≤ b1 ∧ b1 < 256 ∧ 0 ≤ b2 ∧ b2 < 256 ∧ 0 ≤ f ∧ f + (j : Int) < 18446744073709551616) := by
  have hi1 : i < rs.length := by omega
  obtain ⟨hi2, hf, hl⟩ := hP.first i hi1
  obtain ⟨ad, da, ca, hA1, e0, e1, l1, k1⟩ := at_T39 hC1 (i : Int) (by omega) (by omega)
  obtain ⟨ae, dc, cc, hA2, g0, g1, l2, k2⟩ := at_T39 hC2 (i : Int) (by omega) (by omega)
  rw [rd39 _ i (by simpa using hi1)] at e0 e1 l1 k1
  rw [rd39 _ i (by simpa using hi2)] at g0 g1 l2 k2
  simp only [List.getElem_map, s39, Int.toNat_natCast] at e0 e1 l1 k1 g0 g1 l2 k2
  rw [hf] at g0
  rw [hl] at g1 l2
  obtain ⟨d0, d1, d2, d3⟩ := hE _ (List.getElem_mem hi1)
  refine ⟨rs[i].first, rs[i].data.length, ad, ae, da, dc, ca, cc, hA1, hA2, e0, e1, g0, g1, hL _ (List.getElem_mem hi1), l1, l2, Lib.hid fun j hj => ?_⟩
  obtain ⟨_, hj2, hw, hld⟩ := hP.byte i hi1 j hj
  have q1 := (Kd.C_byte k1).2
  have q2 := (Kd.C_byte k2).2
  obtain ⟨pa, _, ha, _⟩ := Kd.C_get k1 (0 : Int) (j : Int) (by omega) (by omega)
  obtain ⟨pc, _, hc, _⟩ := Kd.C_get k2 (0 : Int) (j : Int) (by omega) (by omega)
  have b1 := hB1 _ (List.getElem_mem hi1) _ (List.getElem_mem hj)
  have b2 := hB2 _ (List.getElem_mem hi2) _ (List.getElem_mem hj2)
  have d3' := d3 (by omega)
  refine ⟨pa, pc, rs[i].data[j], rs2[i].data[j], ha, hc, ?_, ?_, hw, hld, b1.1, b1.2, b2.1, b2.2, d0, by omega⟩
  · rw [q1 pa ha j hj, List.getD_eq_getElem?_getD, List.getElem?_eq_getElem hj]; rfl
  · rw [q2 pc hc j hj2, List.getD_eq_getElem?_getD, List.getElem?_eq_getElem hj2]; rfl
set_option maxHeartbeats 4000000 in
set_option maxRecDepth 100000 in
theorem tail_ (w : World) (W : World) (B s m : Nat) (x xm kk fv : Int) (A1 A2 : Option Addr) (c1 c2 : Nat) (rs rs2 : List Reg) (ok : Bool)
    (hb : Below w.heap.size w W) (hst : St B W s rs2) (hm : m = rs.length) (hms : m ≤ 4398046510976) (hC1 : Kd.C k39 W A1 m (rs.map s39)) (hC2 : Kd.C k39 W A2 m (rs2.map s39)) (hP : Pair ok x kk xm rs rs2) (hE : Ends rs) (hL : ∀ r ∈ rs, r.data.length ≤ 140737488351232) (hBy : AllBytes rs) (hok : (fv == 0) = ok)
    (hx0 : 0 ≤ x) (hx1 : x < 18446744073709551616) (hkk : 0 ≤ kk) (hkk1 : kk ≤ 8) (hxm0 : 0 ≤ xm) (hxm1 : xm < 18446744073709551616)
    {y0 y2 y4 y5 y6 y7 y10 y12 y15 y16 y17 y19 y20 y21 y22 y23 y24 y25 y26 y27 y28 y29 y30 y31 y32 y33 y34 y35 y36 y37 y38 y39 y40 y41 y42 y43 y44 y45 y46 y47 y48 y49 y50 y51 y52 y53 y54 y55 y56 y57 y58 y59 y60 y61 y62 y63 y64 y65 y66 y67 y68 y69 y70 y71 y72 y73 y74 y75 y76 y77 y78 y79 y80 y81 y82 y83 y84 y85 y86 y87 y88 y89 y90 y91 y92 y93 y94 y95 y96 y97 y98 y99 y100 y101 y102 y103 y104 y105 y106 y107 y108 y109 y110 y111 y112 y113 y114 y115 y116 y117 y118 y119 y120 y121 y122 y123 y124 y125 y126 y127 y128 y129 y130 y131 y132 y133 y134 y135 y136 y137 y138 y139 y140 y141 y142 y143 y144 y145 y146 y147 y148 y149 y150 y151 y152 y153 y154 y155 y156 y157 y158 y159 y160 y161 y162 y163 y164 y165 y166 y167 y168 y169 y170 y171 y172 y173 y174 y175 y176 y177 y178 y179 y180 y181 y182 y183 y184 y185 y186 y187 y188 y189 y190 y191 y192 y193 y194 y195 y196 y197 y198 y199 y200 y201 y202 y203 y204 y205 y206 y207 y208 y209 y210 y211 y212 y213 y214 y215 y216 y217 y218 y219 y220 y221 y222 y223 y224 y225 y226 y227 y228 y229 y230 y231 y232 y233 y234 y235 : Value} :
    Code.wp Try.prog (postC 12 (Try.f3.body.getD .skip)) (bodyPost Try.prog Try.f3 fun e w' => e = .returned (.bool true) ∧ Below w.heap.size w w') { tmps := #[y0, Value.int .u64 x, y2, Value.int .u64 xm, y4, y5, y6, y7, Value.bool false, Value.pointer (some ⟨s, 0, none⟩), y10, Value.slice A1 m c1, y12, Value.int .i64 fv, Value.slice A2 m c2, y15, y16, y17, Value.int .u64 kk, y19, y20, y21, y22, y23, y24, y25, y26, y27, y28, y29, y30, y31, y32, y33, y34, y35, y36, y37, y38, y39, y40, y41, y42, y43, y44, y45, y46, y47, y48, y49, y50, y51, y52, y53, y54, y55, y56, y57, y58, y59, y60, y61, y62, y63, y64, y65, y66, y67, y68, y69, y70, y71, y72, y73, y74, y75, y76, y77, y78, y79, y80, y81, y82, y83, y84, y85, y86, y87, y88, y89, y90, y91, y92, y93, y94, y95, y96, y97, y98, y99, y100, y101, y102, y103, y104, y105, y106, y107, y108, y109, y110, y111, y112, y113, y114, y115, y116, y117, y118, y119, y120, y121, y122, y123, y124, y125, y126, y127, y128, y129, y130, y131, y132, y133, y134, y135, y136, y137, y138, y139, y140, y141, y142, y143, y144, y145, y146, y147, y148, y149, y150, y151, y152, y153, y154, y155, y156, y157, y158, y159, y160, y161, y162, y163, y164, y165, y166, y167, y168, y169, y170, y171, y172, y173, y174, y175, y176, y177, y178, y179, y180, y181, y182, y183, y184, y185, y186, y187, y188, y189, y190, y191, y192, y193, y194, y195, y196, y197, y198, y199, y200, y201, y202, y203, y204, y205, y206, y207, y208, y209, y210, y211, y212, y213, y214, y215, y216, y217, y218, y219, y220, y221, y222, y223, y224, y225, y226, y227, y228, y229, y230, y231, y232, y233, y234, y235], defers := [] } W := by
  have HB := Lib.hid hb
  have HST := Lib.hid hst
  have HM := Lib.hid hm
  have HC1 := Lib.hid hC1
  have HC2 := Lib.hid hC2
  have HP := Lib.hid hP
  have HE := Lib.hid hE
  have HL := Lib.hid hL
  have HBY := Lib.hid hBy
  have HX := Lib.hid (And.intro hx0 hx1)
  have HKK := Lib.hid (And.intro hkk hkk1)
  have HXM := Lib.hid (And.intro hxm0 hxm1)
  clear hb hst hm hC1 hC2 hP hE hL hBy hx0 hx1 hkk hkk1 hxm0 hxm1
  have HSP := Lib.hid HST.out.space
  have HRI := Lib.hid HST.out.rising
  have HAB := Lib.hid HST.out.bytes
  unfold Try.f3
  dsimp only [Option.getD, postC]
  go_wp2
  go_loopw [20] (fun v wr => ∃ (i q : Nat), i ≤ m ∧ v = .int .i64 (i : Int) ∧ wr = W.drewN q) (fun v _ => m - (RowKit.intOf v).toNat)
  case atStart => exact ⟨0, 0, Nat.zero_le _, rfl, rfl⟩
  case round =>
    obtain ⟨i, q, hi, rfl, rfl⟩ := hrel
    by_cases hlt : i < m
    · obtain ⟨f, l, ad, ae, da, dc, ca, cc, rfl, rfl, e0, e1, g0, g1, hl, hca, hcc, HBY2⟩ := tail_row HC1.out HC2.out HP.out HM.out HL.out HE.out HBY.out HST.out.bytes hlt
      go_wp2
      go_quiet (fail)
      go_wp2
      go_loopw [21] (fun v wr2 => ∃ (j q2 : Nat), j ≤ l ∧ v = .int .i64 (j : Int) ∧ wr2 = W.drewN q2) (fun v _ => l - (RowKit.intOf v).toNat)
      case atStart => exact ⟨0, _, Nat.zero_le _, rfl, by first | rfl | exact World.drewN_drewN _ _ _⟩
      case round =>
        obtain ⟨j, q2, hj, rfl, rfl⟩ := hrel
        by_cases hjl : j < l
        · obtain ⟨pa, pc, b1, b2, rfl, rfl, p0, p1, hw, hld, bb0, bb1, bc0, bc1, hf0, haj⟩ := HBY2.out j hjl
          obtain ⟨a, ha⟩ : ∃ a, a = f + (j : Int) := ⟨_, rfl⟩
          have k1 : IntKind.u64.wrap (j : Int) = (j : Int) := u64 _ (by omega) (by omega)
          have k2 : IntKind.u64.wrap (f + (j : Int)) = a := by rw [ha]; exact u64 _ (by omega) haj
          obtain ⟨dl, hdl⟩ : ∃ dl, dl = IntKind.u64.wrap (a - x) := ⟨_, rfl⟩
          have k3 := hdl.symm
          have k4 : IntKind.u64.wrap b2 = b2 := u64 _ bc0 (by omega)
          rw [← ha] at hw hld
          have HA := Lib.hid (show 0 ≤ a ∧ a < 18446744073709551616 from ⟨by omega, by omega⟩)
          have HLD := Lib.hid hld
          have HWW := Lib.hid hw
          have HDL := Lib.hid hdl
          have HBB := Lib.hid (And.intro (And.intro bb0 bb1) (And.intro bc0 bc1))
          have hjn : (j : Int) < (l : Int) := by omega
          clear ha hw hld bb0 bb1 bc0 bc1 hf0 haj hdl
          by_cases hwin : ok = true ∧ dl < kk ∧ x ≤ a
          · obtain ⟨h1, h2, h3⟩ := hwin
            subst h1
            have z2 : decide (dl < kk) = true := decide_eq_true h2
            have z3 : decide (x ≤ a) = true := decide_eq_true h3
            have hdx : 0 ≤ dl ∧ dl < 8 := by
              have h4 := HKK.out.2
              have h5 := HDL.out
              have h6 := HA.out
              have h7 := HX.out
              rw [u64 (a - x) (by omega) (by omega)] at h5
              omega
            have k5 : IntKind.u64.wrap (8 * dl) = 8 * dl := u64 _ (by omega) (by omega)
            have k6 : xm / 2 ^ (8 * dl).toNat % 256 = b2 := by
              have h4 := HWW.out
              have h5 := HDL.out
              have h6 := HA.out
              have h7 := HX.out
              unfold wantOf at h4
              rw [← h5, if_pos ⟨rfl, h2, h3⟩] at h4
              rw [u64 (a - x) (by omega) (by omega)] at h5
              rw [h4, show (8 * dl).toNat = 8 * (a - x).toNat by omega, Int.pow_mul]
              rfl
            go_wp2_with (go_at_call 12; refine (load_ _ s rs2 a 8 (HSP.out.drewN _) HRI.out HAB.out HA.out.1 HA.out.2).mono ?_; rintro e w' ⟨rfl, ⟨nd, rfl⟩⟩; rw [HLD.out])
            go_roundw
            case rel => exact ⟨j + 1, _, by omega, by go_num, rfl⟩
            case measure => simp [RowKit.intOf]; omega
          · have e12 : b2 = b1 := by
              have h4 := HWW.out
              unfold wantOf at h4
              rw [← HDL.out, if_neg hwin] at h4
              exact h4
            subst e12
            clear HWW
            cases hok2 : ok with
            | false =>
              have hok3 := hok.trans hok2
              clear hok
              go_wp2_with (go_at_call 12; refine (load_ _ s rs2 a 8 (HSP.out.drewN _) HRI.out HAB.out HA.out.1 HA.out.2).mono ?_; rintro e w' ⟨rfl, ⟨nd, rfl⟩⟩; rw [HLD.out])
              go_roundw
              case rel => exact ⟨j + 1, _, by omega, by go_num, rfl⟩
              case measure => simp [RowKit.intOf]; omega
            | true =>
              have hok3 := hok.trans hok2
              clear hok
              by_cases h2 : dl < kk
              · have z2 : decide (dl < kk) = true := decide_eq_true h2
                have h3 : ¬ x ≤ a := fun h3 => hwin ⟨hok2, h2, h3⟩
                have z3 : decide (x ≤ a) = false := decide_eq_false h3
                go_wp2_with (go_at_call 12; refine (load_ _ s rs2 a 8 (HSP.out.drewN _) HRI.out HAB.out HA.out.1 HA.out.2).mono ?_; rintro e w' ⟨rfl, ⟨nd, rfl⟩⟩; rw [HLD.out])
                go_roundw
                case rel => exact ⟨j + 1, _, by omega, by go_num, rfl⟩
                case measure => simp [RowKit.intOf]; omega
              · have z2 : decide (dl < kk) = false := decide_eq_false h2
                go_wp2_with (go_at_call 12; refine (load_ _ s rs2 a 8 (HSP.out.drewN _) HRI.out HAB.out HA.out.1 HA.out.2).mono ?_; rintro e w' ⟨rfl, ⟨nd, rfl⟩⟩; rw [HLD.out])
                go_roundw
                case rel => exact ⟨j + 1, _, by omega, by go_num, rfl⟩
                case measure => simp [RowKit.intOf]; omega
        · obtain rfl : j = l := by omega
          go_wp2
          go_roundw
          case rel => exact ⟨i + 1, _, by omega, by go_num, rfl⟩
          case measure => simp [RowKit.intOf]; omega
    · obtain rfl : i = m := by omega
      go_wp2_with (go_at_call 9; refine (awake_ _).mono ?_; rintro e w' ⟨rfl, hb2⟩; have HB2 := Lib.hid hb2; clear hb2)
      go_ret
      exact ⟨rfl, HB.out.trans ((pw_below_drewN (Below.refl _ _) _).trans (HB2.out.mono HB.out.size))⟩
end Go.Proofs.Ythmeojeehemlaaa.Mem
