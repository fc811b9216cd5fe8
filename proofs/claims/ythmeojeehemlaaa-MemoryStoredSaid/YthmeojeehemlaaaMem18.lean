/- MemoryStored: the law's walk (printed by gen_law.py, a program of this session). -/
import Derived.Test.YthmeojeehemlaaaMem17
namespace Go.Proofs.Ythmeojeehemlaaa.Mem
open Go.RowKit Go.Proofs.YthmeojeehemlaaaW.PrintWords
open Go.Proofs.Ythmeojeehemlaaa.PM
set_option linter.unusedVariables false
set_option linter.unusedSimpArgs false
attribute [local go_sem] isSome_setCell
theorem wraps_u64 (n : Int) (h₀ : 0 ≤ n) (h₁ : n < 2 ^ 64) : IntKind.u64.wrap n = n := by rw [IntKind.wrap_u64]; omega
theorem mask_8 (x : Int) (h0 : 0 ≤ x) (h1 : x < 18446744073709551616) : Go.bits .and .u64 x 255 = x % 256 := bits_mask .u64 64 (by decide) wraps_u64 8 (by decide) x h0 h1
theorem mask_16 (x : Int) (h0 : 0 ≤ x) (h1 : x < 18446744073709551616) : Go.bits .and .u64 x 65535 = x % 65536 := bits_mask .u64 64 (by decide) wraps_u64 16 (by decide) x h0 h1
theorem mask_32 (x : Int) (h0 : 0 ≤ x) (h1 : x < 18446744073709551616) : Go.bits .and .u64 x 4294967295 = x % 4294967296 := bits_mask .u64 64 (by decide) wraps_u64 32 (by decide) x h0 h1
theorem outs_C {w : World} {base : Nat} {A : Option Addr} {n c : Nat} {os : List Out} {rs : List Reg} (h : Outs w base (.slice A n c) os) (he : os.map (fun o => (o.first, o.data)) = rs.map toOut) (hm : n = rs.length) (hl : rs.length ≤ 4398046510976) : Kd.C k39 w A n (rs.map s39) := by
  obtain ⟨h1, h2⟩ := outs_rs he
  obtain ⟨A2, c2, e, _, hc⟩ := h.C (by omega)
  injection e with e1 e2 e3
  subst e1
  rw [← h2, e2]
  exact hc
theorem told2_ (B : Nat) (w : World) (s : Nat) (rs : List Reg) (m : Nat) (hm : m = rs.length) (h : St B w s rs) (hl : rs.length ≤ 4398046510976) (hd : ∀ r ∈ rs, r.data.length ≤ 140737488351232) :
    Calls Try.prog 10 #[.pointer (some ⟨s, 0, none⟩)] w fun e w' => ∃ A c os, e = .returned (.tuple #[.slice A m c, .bool true]) ∧ m ≤ c ∧ Outs w' w.heap.size (.slice A m c) os ∧ os.map (fun o => (o.first, o.data)) = rs.map toOut ∧ Below w.heap.size w w' := by
  refine (told_ B w s rs h (fun r hr => by have := hd r hr; omega)).mono ?_
  rintro e w' ⟨v, os, rfl, ho, he, hb⟩
  obtain ⟨h1, h2⟩ := outs_rs he
  obtain ⟨A, c, rfl, h3, h4⟩ := ho.C (by omega)
  have e : os.length = m := by omega
  rw [e] at ho h3
  exact ⟨A, c, os, by rw [e], h3, ho, he, hb⟩
def News (w : World) (xs : List S39) (P0 : Option Addr) (c0 : Int) (w' : World) : Prop :=
  (c0 = 0 ∧ ∃ s rs, P0 = some ⟨s, 0, none⟩ ∧ Adds xs rs ∧ St w.heap.size w' s rs ∧ Below w.heap.size w w') ∨ (c0 = 201 ∧ P0 = none ∧ Below w.heap.size w w')
theorem new2_ (w : World) (A : Option Addr) (n c : Nat) (xs : List S39) (hC : Kd.C k39 w A n xs) (hF : ∀ x ∈ xs, Fits x) (hn : n ≤ 4398046510976) :
    Calls Try.prog 7 #[.slice A n c] w fun e w' => ∃ P0 c0, e = .returned (.tuple #[.pointer P0, .int .i64 c0]) ∧ News w xs P0 c0 w' := by
  refine (new_ w A n c xs hC hF (by omega)).mono ?_
  rintro e w' (⟨s, rs, rfl, h1, h2, h3⟩ | ⟨rfl, _, h3⟩)
  · exact ⟨_, _, rfl, .inl ⟨rfl, s, rs, rfl, h1, h2, h3⟩⟩
  · exact ⟨_, _, rfl, .inr ⟨rfl, rfl, h3⟩⟩
/-- what stands behind New -/
structure Ready (w W : World) (xs : List S39) (rs : List Reg) (s B : Nat) : Prop where
  low : w.heap.size ≤ B
  b : Below w.heap.size w W
  st : St B W s rs
  apt : Apt rs
  ends : Ends rs
  small : rs.length ≤ 4398046510976
  data : ∀ r ∈ rs, r.data.length ≤ 140737488351232
theorem adds_data {xs : List S39} {rs : List Reg} (h : Adds xs rs) (hx : ∀ x ∈ xs, x.f1.length ≤ 140737488351232) : ∀ r ∈ rs, r.data.length ≤ 140737488351232 := by
  induction h with
  | nil => intro r h; exact absurd h List.not_mem_nil
  | @snoc xs rs x rg _ hm h1 h2 ih =>
    intro r hr
    rcases (mem_ins _ _ _ r).1 hr with rfl | hr
    · rw [h2]; exact hx x (by simp)
    · exact ih (fun y hy => hx y (List.mem_append_left _ hy)) r hr
/-- the heap's size is above the regions' data -/
theorem St.dlt {B : Nat} {w : World} {s : Nat} {rs : List Reg} (h : St B w s rs) {q : Reg} (hq : q ∈ rs) {d : Nat} (hp : 0 < q.data.length) (hA : q.A = some ⟨d, 0, none⟩) : d < w.heap.size := by
  obtain ⟨P, cap, _, hrow, _⟩ := h.sp
  obtain ⟨d2, cs, e, hb, _, _⟩ := (hrow.regs q hq).row hp
  rw [hA] at e
  injection e with e
  injection e with e1
  subst e1
  exact hb.lt
set_option maxHeartbeats 4000000 in
set_option maxRecDepth 100000 in
theorem law_none_8 (w W0 : World) (B s : Nat) (xs : List S39) (rs : List Reg) (x v : Int) (hR : Ready w W0 xs rs s B) (hx0 : 0 ≤ x) (hx1 : x < 18446744073709551616) (hv0 : 0 ≤ v) (hv1 : v < 18446744073709551616) (hS : storeOf rs x 8 v = none)
    {y0 y4 y5 y6 y7 y11 y12 y13 y14 y15 y16 y17 y18 y19 y20 y21 y22 y23 y24 y25 y26 y27 y28 y29 y30 y31 y32 y33 y34 y35 y36 y37 y38 y39 y40 y41 y42 y43 y44 y45 y46 y47 y48 y49 y50 y51 y52 y53 y54 y55 y56 y57 y58 y59 y60 y61 y62 y63 y64 y65 y66 y67 y68 y69 y70 y71 y72 y73 y74 y75 y76 y77 y78 y79 y80 y81 y82 y83 y84 y85 y86 y87 y88 y89 y90 y91 y92 y93 y94 y95 y96 y97 y98 y99 y100 y101 y102 y103 y104 y105 y106 y107 y108 y109 y110 y111 y112 y113 y114 y115 y116 y117 y118 y119 y120 y121 y122 y123 y124 y125 y126 y127 y128 y129 y130 y131 y132 y133 y134 y135 y136 y137 y138 y139 y140 y141 y142 y143 y144 y145 y146 y147 y148 y149 y150 y151 y152 y153 y154 y155 y156 y157 y158 y159 y160 y161 y162 y163 y164 y165 y166 y167 y168 y169 y170 y171 y172 y173 y174 y175 y176 y177 y178 y179 y180 y181 y182 y183 y184 y185 y186 y187 y188 y189 y190 y191 y192 y193 y194 y195 y196 y197 y198 y199 y200 y201 y202 y203 y204 y205 y206 y207 y208 y209 y210 y211 y212 y213 y214 y215 y216 y217 y218 y219 y220 y221 y222 y223 y224 y225 y226 y227 y228 y229 y230 y231 y232 y233 y234 y235 : Value} :
    Code.wp Try.prog (postC 3 (Try.f3.body.getD .skip)) (bodyPost Try.prog Try.f3 fun e w' => e = .returned (.bool true) ∧ Below w.heap.size w w') { tmps := #[y0, Value.int .u64 x, Value.int .i64 8, Value.int .u64 v, y4, y5, y6, y7, Value.bool false, Value.pointer (some ⟨s, 0, none⟩), Value.int .i64 0, y11, y12, y13, y14, y15, y16, y17, y18, y19, y20, y21, y22, y23, y24, y25, y26, y27, y28, y29, y30, y31, y32, y33, y34, y35, y36, y37, y38, y39, y40, y41, y42, y43, y44, y45, y46, y47, y48, y49, y50, y51, y52, y53, y54, y55, y56, y57, y58, y59, y60, y61, y62, y63, y64, y65, y66, y67, y68, y69, y70, y71, y72, y73, y74, y75, y76, y77, y78, y79, y80, y81, y82, y83, y84, y85, y86, y87, y88, y89, y90, y91, y92, y93, y94, y95, y96, y97, y98, y99, y100, y101, y102, y103, y104, y105, y106, y107, y108, y109, y110, y111, y112, y113, y114, y115, y116, y117, y118, y119, y120, y121, y122, y123, y124, y125, y126, y127, y128, y129, y130, y131, y132, y133, y134, y135, y136, y137, y138, y139, y140, y141, y142, y143, y144, y145, y146, y147, y148, y149, y150, y151, y152, y153, y154, y155, y156, y157, y158, y159, y160, y161, y162, y163, y164, y165, y166, y167, y168, y169, y170, y171, y172, y173, y174, y175, y176, y177, y178, y179, y180, y181, y182, y183, y184, y185, y186, y187, y188, y189, y190, y191, y192, y193, y194, y195, y196, y197, y198, y199, y200, y201, y202, y203, y204, y205, y206, y207, y208, y209, y210, y211, y212, y213, y214, y215, y216, y217, y218, y219, y220, y221, y222, y223, y224, y225, y226, y227, y228, y229, y230, y231, y232, y233, y234, y235], defers := [] } W0 := by
  obtain ⟨m, hm⟩ : ∃ m, m = rs.length := ⟨_, rfl⟩
  have hms : m ≤ 4398046510976 := by rw [hm]; exact hR.small
  have HM := Lib.hid hm
  have HR := Lib.hid hR
  have HX := Lib.hid (And.intro hx0 hx1)
  have HV := Lib.hid (And.intro hv0 hv1)
  have HS := Lib.hid hS
  have hwb : wb 8 = 1 := by rfl
  have HWB := Lib.hid hwb
  obtain ⟨xm, hxm⟩ : ∃ xm, xm = v % 256 := ⟨_, rfl⟩
  have HXM := Lib.hid (show xm = v % 256 ^ 1 from hxm)
  have kb : Go.bits .and .u64 v 255 = xm := by rw [hxm]; exact mask_8 v hv0 hv1
  have HXR := Lib.hid (show 0 ≤ xm ∧ xm < 18446744073709551616 from by rw [hxm]; omega)
  have HP := Lib.hid (pair_none hR.st.rising hR.apt x 1 xm)
  have HLD := Lib.hid (load_none hS)
  have HM2 := HM
  have HD2 := Lib.hid hR.data
  have HSTORE := Lib.hid (show ∀ W, St B W s rs → Calls Try.prog 11 #[.pointer (some ⟨s, 0, none⟩), .int .u64 x, .int .i64 8, .int .u64 v] W fun e w' => StoreRes (none) rs B W s e w' from fun W hW => by
    have h := store_ B W s rs x 8 v hW hx0 hx1 hv0 hv1
    rw [hS] at h
    exact h)
  have HHELD := Lib.hid (show ∀ W A c, Kd.C k39 W A m (rs.map s39) → m ≤ c → Calls Try.prog 13 #[.slice A m c, .int .u64 x, .int .u64 1] W fun e w' => e = .returned (.bool false) ∧ Drawn0 W w' from fun W A c h1 h2 => by
    subst hm
    have h := held_ W A c rs x 1 h1 h2 hR.st.rising hR.apt hR.ends hR.st.bytes hx0 hx1 (by decide) (by decide) hR.small
    rw [← hwb, store_held (v := v), hS, hwb] at h
    exact h)
  clear hm hR hx0 hx1 hv0 hv1 hS hwb hxm
  unfold Try.f3
  dsimp only [Option.getD, postC]
  refine wp_seq_k (fun K hK => ?_)
  have HK := Lib.hid hK
  clear hK
  go_wp2_with (go_at_call 10; refine (told2_ B _ s rs m HM.out HR.out.st HR.out.small HR.out.data).mono ?_; rintro e w1 ⟨A1, c1, os1, rfl, hc1, ho1, he1, hb1⟩; have HO1 := Lib.hid ho1; have HE1 := Lib.hid he1; have HB1 := Lib.hid hb1; clear ho1 he1 hb1)
  refine HK.out _ _ ?_
  clear HK K
  refine wp_seq_k (fun K hK => ?_)
  have HK := Lib.hid hK
  clear hK
  go_wp2_with (go_at_call 11; refine (HSTORE.out _ (HR.out.st.below HB1.out)).mono ?_; rintro e w2 ⟨rfl, ⟨nd2, rfl⟩⟩)
  refine HK.out _ _ ?_
  clear HK K
  have HST2 := Lib.hid ((HR.out.st.below HB1.out).drewN nd2)
  have HO2 := Lib.hid (HO1.out.below (pw_below_drewN (Below.refl _ _) nd2))
  have HBB2 := Lib.hid (pw_below_drewN (HR.out.b.trans (HB1.out.mono HR.out.b.size)) nd2)
  refine wp_seq_k (fun K hK => ?_)
  have HK := Lib.hid hK
  clear hK
  go_wp2_with (go_at_call 10; refine (told2_ B _ s rs m HM2.out HST2.out (by rw [← HM2.out]; exact hms) HD2.out).mono ?_; rintro e w3 ⟨A2, c2, os2, rfl, hc2, ho3, he3, hb3⟩; have HO3 := Lib.hid ho3; have HE3 := Lib.hid he3; have HB3 := Lib.hid hb3; clear ho3 he3 hb3)
  refine HK.out _ _ ?_
  clear HK K
  have HO23 := Lib.hid (HO2.out.below HB3.out)
  have HST3 := Lib.hid (HST2.out.below HB3.out)
  have HBB3 := Lib.hid (HBB2.out.trans (HB3.out.mono HBB2.out.size))
  refine wp_seq_k (fun K hK => ?_)
  have HK := Lib.hid hK
  clear hK
  go_wp2_with (go_at_call 12; refine (load_ _ s rs x 8 HST3.out.space HST3.out.rising HST3.out.bytes HX.out.1 HX.out.2).mono ?_; rintro e w4 ⟨rfl, ⟨nd4, rfl⟩⟩; rw [HLD.out])
  refine HK.out _ _ ?_
  clear HK K
  refine wp_seq_k (fun K hK => ?_)
  have HK := Lib.hid hK
  clear hK
  go_wp2
  refine HK.out _ _ ?_
  clear HK K
  refine wp_seq_k (fun K hK => ?_)
  have HK := Lib.hid hK
  clear hK
  go_wp2
  refine HK.out _ _ ?_
  clear HK K
  refine wp_seq_k (fun K hK => ?_)
  have HK := Lib.hid hK
  clear hK
  go_wp2
  refine HK.out _ _ ?_
  clear HK K
  have HC1 := Lib.hid (outs_C (HO23.out.below (pw_below_drewN (Below.refl _ _) nd4)) HE1.out HM.out HR.out.small)
  have HC2 := Lib.hid (outs_C (HO3.out.below (pw_below_drewN (Below.refl _ _) nd4)) HE3.out HM2.out (by rw [← HM2.out]; exact hms))
  refine wp_seq_k (fun K hK => ?_)
  have HK := Lib.hid hK
  clear hK
  go_wp2_with (go_at_call 13; refine (HHELD.out _ A1 c1 HC1.out hc1).mono ?_; rintro e w5 ⟨rfl, ⟨nd5, rfl⟩⟩)
  refine HK.out _ _ ?_
  clear HK K
  refine wp_seq_k (fun K hK => ?_)
  have HK := Lib.hid hK
  clear hK
  go_wp2
  refine HK.out _ _ ?_
  clear HK K
  exact tail_ w _ (B := B) (s := s) (m := m) (x := x) (xm := xm) (kk := 1) (fv := 200) (A1 := A1) (A2 := A2) (c1 := c1) (c2 := c2) (rs := rs) (rs2 := rs) (ok := false) (pw_below_drewN HBB3.out _) (HST3.out.drewN _) HM.out hms (outs_C (HO23.out.below (pw_below_drewN (Below.refl _ _) _)) HE1.out HM.out HR.out.small) (outs_C (HO3.out.below (pw_below_drewN (Below.refl _ _) _)) HE3.out HM2.out (by rw [← HM2.out]; exact hms)) HP.out HR.out.ends HR.out.data HR.out.st.bytes rfl HX.out.1 HX.out.2 (by decide) (by decide) HXR.out.1 HXR.out.2
set_option maxHeartbeats 4000000 in
set_option maxRecDepth 100000 in
theorem law_none_16 (w W0 : World) (B s : Nat) (xs : List S39) (rs : List Reg) (x v : Int) (hR : Ready w W0 xs rs s B) (hx0 : 0 ≤ x) (hx1 : x < 18446744073709551616) (hv0 : 0 ≤ v) (hv1 : v < 18446744073709551616) (hS : storeOf rs x 16 v = none)
    {y0 y4 y5 y6 y7 y11 y12 y13 y14 y15 y16 y17 y18 y19 y20 y21 y22 y23 y24 y25 y26 y27 y28 y29 y30 y31 y32 y33 y34 y35 y36 y37 y38 y39 y40 y41 y42 y43 y44 y45 y46 y47 y48 y49 y50 y51 y52 y53 y54 y55 y56 y57 y58 y59 y60 y61 y62 y63 y64 y65 y66 y67 y68 y69 y70 y71 y72 y73 y74 y75 y76 y77 y78 y79 y80 y81 y82 y83 y84 y85 y86 y87 y88 y89 y90 y91 y92 y93 y94 y95 y96 y97 y98 y99 y100 y101 y102 y103 y104 y105 y106 y107 y108 y109 y110 y111 y112 y113 y114 y115 y116 y117 y118 y119 y120 y121 y122 y123 y124 y125 y126 y127 y128 y129 y130 y131 y132 y133 y134 y135 y136 y137 y138 y139 y140 y141 y142 y143 y144 y145 y146 y147 y148 y149 y150 y151 y152 y153 y154 y155 y156 y157 y158 y159 y160 y161 y162 y163 y164 y165 y166 y167 y168 y169 y170 y171 y172 y173 y174 y175 y176 y177 y178 y179 y180 y181 y182 y183 y184 y185 y186 y187 y188 y189 y190 y191 y192 y193 y194 y195 y196 y197 y198 y199 y200 y201 y202 y203 y204 y205 y206 y207 y208 y209 y210 y211 y212 y213 y214 y215 y216 y217 y218 y219 y220 y221 y222 y223 y224 y225 y226 y227 y228 y229 y230 y231 y232 y233 y234 y235 : Value} :
    Code.wp Try.prog (postC 3 (Try.f3.body.getD .skip)) (bodyPost Try.prog Try.f3 fun e w' => e = .returned (.bool true) ∧ Below w.heap.size w w') { tmps := #[y0, Value.int .u64 x, Value.int .i64 16, Value.int .u64 v, y4, y5, y6, y7, Value.bool false, Value.pointer (some ⟨s, 0, none⟩), Value.int .i64 0, y11, y12, y13, y14, y15, y16, y17, y18, y19, y20, y21, y22, y23, y24, y25, y26, y27, y28, y29, y30, y31, y32, y33, y34, y35, y36, y37, y38, y39, y40, y41, y42, y43, y44, y45, y46, y47, y48, y49, y50, y51, y52, y53, y54, y55, y56, y57, y58, y59, y60, y61, y62, y63, y64, y65, y66, y67, y68, y69, y70, y71, y72, y73, y74, y75, y76, y77, y78, y79, y80, y81, y82, y83, y84, y85, y86, y87, y88, y89, y90, y91, y92, y93, y94, y95, y96, y97, y98, y99, y100, y101, y102, y103, y104, y105, y106, y107, y108, y109, y110, y111, y112, y113, y114, y115, y116, y117, y118, y119, y120, y121, y122, y123, y124, y125, y126, y127, y128, y129, y130, y131, y132, y133, y134, y135, y136, y137, y138, y139, y140, y141, y142, y143, y144, y145, y146, y147, y148, y149, y150, y151, y152, y153, y154, y155, y156, y157, y158, y159, y160, y161, y162, y163, y164, y165, y166, y167, y168, y169, y170, y171, y172, y173, y174, y175, y176, y177, y178, y179, y180, y181, y182, y183, y184, y185, y186, y187, y188, y189, y190, y191, y192, y193, y194, y195, y196, y197, y198, y199, y200, y201, y202, y203, y204, y205, y206, y207, y208, y209, y210, y211, y212, y213, y214, y215, y216, y217, y218, y219, y220, y221, y222, y223, y224, y225, y226, y227, y228, y229, y230, y231, y232, y233, y234, y235], defers := [] } W0 := by
  obtain ⟨m, hm⟩ : ∃ m, m = rs.length := ⟨_, rfl⟩
  have hms : m ≤ 4398046510976 := by rw [hm]; exact hR.small
  have HM := Lib.hid hm
  have HR := Lib.hid hR
  have HX := Lib.hid (And.intro hx0 hx1)
  have HV := Lib.hid (And.intro hv0 hv1)
  have HS := Lib.hid hS
  have hwb : wb 16 = 2 := by rfl
  have HWB := Lib.hid hwb
  obtain ⟨xm, hxm⟩ : ∃ xm, xm = v % 65536 := ⟨_, rfl⟩
  have HXM := Lib.hid (show xm = v % 256 ^ 2 from hxm)
  have kb : Go.bits .and .u64 v 65535 = xm := by rw [hxm]; exact mask_16 v hv0 hv1
  have HXR := Lib.hid (show 0 ≤ xm ∧ xm < 18446744073709551616 from by rw [hxm]; omega)
  have HP := Lib.hid (pair_none hR.st.rising hR.apt x 2 xm)
  have HLD := Lib.hid (load_none hS)
  have HM2 := HM
  have HD2 := Lib.hid hR.data
  have HSTORE := Lib.hid (show ∀ W, St B W s rs → Calls Try.prog 11 #[.pointer (some ⟨s, 0, none⟩), .int .u64 x, .int .i64 16, .int .u64 v] W fun e w' => StoreRes (none) rs B W s e w' from fun W hW => by
    have h := store_ B W s rs x 16 v hW hx0 hx1 hv0 hv1
    rw [hS] at h
    exact h)
  have HHELD := Lib.hid (show ∀ W A c, Kd.C k39 W A m (rs.map s39) → m ≤ c → Calls Try.prog 13 #[.slice A m c, .int .u64 x, .int .u64 2] W fun e w' => e = .returned (.bool false) ∧ Drawn0 W w' from fun W A c h1 h2 => by
    subst hm
    have h := held_ W A c rs x 2 h1 h2 hR.st.rising hR.apt hR.ends hR.st.bytes hx0 hx1 (by decide) (by decide) hR.small
    rw [← hwb, store_held (v := v), hS, hwb] at h
    exact h)
  clear hm hR hx0 hx1 hv0 hv1 hS hwb hxm
  unfold Try.f3
  dsimp only [Option.getD, postC]
  refine wp_seq_k (fun K hK => ?_)
  have HK := Lib.hid hK
  clear hK
  go_wp2_with (go_at_call 10; refine (told2_ B _ s rs m HM.out HR.out.st HR.out.small HR.out.data).mono ?_; rintro e w1 ⟨A1, c1, os1, rfl, hc1, ho1, he1, hb1⟩; have HO1 := Lib.hid ho1; have HE1 := Lib.hid he1; have HB1 := Lib.hid hb1; clear ho1 he1 hb1)
  refine HK.out _ _ ?_
  clear HK K
  refine wp_seq_k (fun K hK => ?_)
  have HK := Lib.hid hK
  clear hK
  go_wp2_with (go_at_call 11; refine (HSTORE.out _ (HR.out.st.below HB1.out)).mono ?_; rintro e w2 ⟨rfl, ⟨nd2, rfl⟩⟩)
  refine HK.out _ _ ?_
  clear HK K
  have HST2 := Lib.hid ((HR.out.st.below HB1.out).drewN nd2)
  have HO2 := Lib.hid (HO1.out.below (pw_below_drewN (Below.refl _ _) nd2))
  have HBB2 := Lib.hid (pw_below_drewN (HR.out.b.trans (HB1.out.mono HR.out.b.size)) nd2)
  refine wp_seq_k (fun K hK => ?_)
  have HK := Lib.hid hK
  clear hK
  go_wp2_with (go_at_call 10; refine (told2_ B _ s rs m HM2.out HST2.out (by rw [← HM2.out]; exact hms) HD2.out).mono ?_; rintro e w3 ⟨A2, c2, os2, rfl, hc2, ho3, he3, hb3⟩; have HO3 := Lib.hid ho3; have HE3 := Lib.hid he3; have HB3 := Lib.hid hb3; clear ho3 he3 hb3)
  refine HK.out _ _ ?_
  clear HK K
  have HO23 := Lib.hid (HO2.out.below HB3.out)
  have HST3 := Lib.hid (HST2.out.below HB3.out)
  have HBB3 := Lib.hid (HBB2.out.trans (HB3.out.mono HBB2.out.size))
  refine wp_seq_k (fun K hK => ?_)
  have HK := Lib.hid hK
  clear hK
  go_wp2_with (go_at_call 12; refine (load_ _ s rs x 16 HST3.out.space HST3.out.rising HST3.out.bytes HX.out.1 HX.out.2).mono ?_; rintro e w4 ⟨rfl, ⟨nd4, rfl⟩⟩; rw [HLD.out])
  refine HK.out _ _ ?_
  clear HK K
  refine wp_seq_k (fun K hK => ?_)
  have HK := Lib.hid hK
  clear hK
  go_wp2
  refine HK.out _ _ ?_
  clear HK K
  refine wp_seq_k (fun K hK => ?_)
  have HK := Lib.hid hK
  clear hK
  go_wp2
  refine HK.out _ _ ?_
  clear HK K
  refine wp_seq_k (fun K hK => ?_)
  have HK := Lib.hid hK
  clear hK
  go_wp2
  refine HK.out _ _ ?_
  clear HK K
  have HC1 := Lib.hid (outs_C (HO23.out.below (pw_below_drewN (Below.refl _ _) nd4)) HE1.out HM.out HR.out.small)
  have HC2 := Lib.hid (outs_C (HO3.out.below (pw_below_drewN (Below.refl _ _) nd4)) HE3.out HM2.out (by rw [← HM2.out]; exact hms))
  refine wp_seq_k (fun K hK => ?_)
  have HK := Lib.hid hK
  clear hK
  go_wp2_with (go_at_call 13; refine (HHELD.out _ A1 c1 HC1.out hc1).mono ?_; rintro e w5 ⟨rfl, ⟨nd5, rfl⟩⟩)
  refine HK.out _ _ ?_
  clear HK K
  refine wp_seq_k (fun K hK => ?_)
  have HK := Lib.hid hK
  clear hK
  go_wp2
  refine HK.out _ _ ?_
  clear HK K
  exact tail_ w _ (B := B) (s := s) (m := m) (x := x) (xm := xm) (kk := 2) (fv := 200) (A1 := A1) (A2 := A2) (c1 := c1) (c2 := c2) (rs := rs) (rs2 := rs) (ok := false) (pw_below_drewN HBB3.out _) (HST3.out.drewN _) HM.out hms (outs_C (HO23.out.below (pw_below_drewN (Below.refl _ _) _)) HE1.out HM.out HR.out.small) (outs_C (HO3.out.below (pw_below_drewN (Below.refl _ _) _)) HE3.out HM2.out (by rw [← HM2.out]; exact hms)) HP.out HR.out.ends HR.out.data HR.out.st.bytes rfl HX.out.1 HX.out.2 (by decide) (by decide) HXR.out.1 HXR.out.2
set_option maxHeartbeats 4000000 in
set_option maxRecDepth 100000 in
theorem law_none_32 (w W0 : World) (B s : Nat) (xs : List S39) (rs : List Reg) (x v : Int) (hR : Ready w W0 xs rs s B) (hx0 : 0 ≤ x) (hx1 : x < 18446744073709551616) (hv0 : 0 ≤ v) (hv1 : v < 18446744073709551616) (hS : storeOf rs x 32 v = none)
    {y0 y4 y5 y6 y7 y11 y12 y13 y14 y15 y16 y17 y18 y19 y20 y21 y22 y23 y24 y25 y26 y27 y28 y29 y30 y31 y32 y33 y34 y35 y36 y37 y38 y39 y40 y41 y42 y43 y44 y45 y46 y47 y48 y49 y50 y51 y52 y53 y54 y55 y56 y57 y58 y59 y60 y61 y62 y63 y64 y65 y66 y67 y68 y69 y70 y71 y72 y73 y74 y75 y76 y77 y78 y79 y80 y81 y82 y83 y84 y85 y86 y87 y88 y89 y90 y91 y92 y93 y94 y95 y96 y97 y98 y99 y100 y101 y102 y103 y104 y105 y106 y107 y108 y109 y110 y111 y112 y113 y114 y115 y116 y117 y118 y119 y120 y121 y122 y123 y124 y125 y126 y127 y128 y129 y130 y131 y132 y133 y134 y135 y136 y137 y138 y139 y140 y141 y142 y143 y144 y145 y146 y147 y148 y149 y150 y151 y152 y153 y154 y155 y156 y157 y158 y159 y160 y161 y162 y163 y164 y165 y166 y167 y168 y169 y170 y171 y172 y173 y174 y175 y176 y177 y178 y179 y180 y181 y182 y183 y184 y185 y186 y187 y188 y189 y190 y191 y192 y193 y194 y195 y196 y197 y198 y199 y200 y201 y202 y203 y204 y205 y206 y207 y208 y209 y210 y211 y212 y213 y214 y215 y216 y217 y218 y219 y220 y221 y222 y223 y224 y225 y226 y227 y228 y229 y230 y231 y232 y233 y234 y235 : Value} :
    Code.wp Try.prog (postC 3 (Try.f3.body.getD .skip)) (bodyPost Try.prog Try.f3 fun e w' => e = .returned (.bool true) ∧ Below w.heap.size w w') { tmps := #[y0, Value.int .u64 x, Value.int .i64 32, Value.int .u64 v, y4, y5, y6, y7, Value.bool false, Value.pointer (some ⟨s, 0, none⟩), Value.int .i64 0, y11, y12, y13, y14, y15, y16, y17, y18, y19, y20, y21, y22, y23, y24, y25, y26, y27, y28, y29, y30, y31, y32, y33, y34, y35, y36, y37, y38, y39, y40, y41, y42, y43, y44, y45, y46, y47, y48, y49, y50, y51, y52, y53, y54, y55, y56, y57, y58, y59, y60, y61, y62, y63, y64, y65, y66, y67, y68, y69, y70, y71, y72, y73, y74, y75, y76, y77, y78, y79, y80, y81, y82, y83, y84, y85, y86, y87, y88, y89, y90, y91, y92, y93, y94, y95, y96, y97, y98, y99, y100, y101, y102, y103, y104, y105, y106, y107, y108, y109, y110, y111, y112, y113, y114, y115, y116, y117, y118, y119, y120, y121, y122, y123, y124, y125, y126, y127, y128, y129, y130, y131, y132, y133, y134, y135, y136, y137, y138, y139, y140, y141, y142, y143, y144, y145, y146, y147, y148, y149, y150, y151, y152, y153, y154, y155, y156, y157, y158, y159, y160, y161, y162, y163, y164, y165, y166, y167, y168, y169, y170, y171, y172, y173, y174, y175, y176, y177, y178, y179, y180, y181, y182, y183, y184, y185, y186, y187, y188, y189, y190, y191, y192, y193, y194, y195, y196, y197, y198, y199, y200, y201, y202, y203, y204, y205, y206, y207, y208, y209, y210, y211, y212, y213, y214, y215, y216, y217, y218, y219, y220, y221, y222, y223, y224, y225, y226, y227, y228, y229, y230, y231, y232, y233, y234, y235], defers := [] } W0 := by
  obtain ⟨m, hm⟩ : ∃ m, m = rs.length := ⟨_, rfl⟩
  have hms : m ≤ 4398046510976 := by rw [hm]; exact hR.small
  have HM := Lib.hid hm
  have HR := Lib.hid hR
  have HX := Lib.hid (And.intro hx0 hx1)
  have HV := Lib.hid (And.intro hv0 hv1)
  have HS := Lib.hid hS
  have hwb : wb 32 = 4 := by rfl
  have HWB := Lib.hid hwb
  obtain ⟨xm, hxm⟩ : ∃ xm, xm = v % 4294967296 := ⟨_, rfl⟩
  have HXM := Lib.hid (show xm = v % 256 ^ 4 from hxm)
  have kb : Go.bits .and .u64 v 4294967295 = xm := by rw [hxm]; exact mask_32 v hv0 hv1
  have HXR := Lib.hid (show 0 ≤ xm ∧ xm < 18446744073709551616 from by rw [hxm]; omega)
  have HP := Lib.hid (pair_none hR.st.rising hR.apt x 4 xm)
  have HLD := Lib.hid (load_none hS)
  have HM2 := HM
  have HD2 := Lib.hid hR.data
  have HSTORE := Lib.hid (show ∀ W, St B W s rs → Calls Try.prog 11 #[.pointer (some ⟨s, 0, none⟩), .int .u64 x, .int .i64 32, .int .u64 v] W fun e w' => StoreRes (none) rs B W s e w' from fun W hW => by
    have h := store_ B W s rs x 32 v hW hx0 hx1 hv0 hv1
    rw [hS] at h
    exact h)
  have HHELD := Lib.hid (show ∀ W A c, Kd.C k39 W A m (rs.map s39) → m ≤ c → Calls Try.prog 13 #[.slice A m c, .int .u64 x, .int .u64 4] W fun e w' => e = .returned (.bool false) ∧ Drawn0 W w' from fun W A c h1 h2 => by
    subst hm
    have h := held_ W A c rs x 4 h1 h2 hR.st.rising hR.apt hR.ends hR.st.bytes hx0 hx1 (by decide) (by decide) hR.small
    rw [← hwb, store_held (v := v), hS, hwb] at h
    exact h)
  clear hm hR hx0 hx1 hv0 hv1 hS hwb hxm
  unfold Try.f3
  dsimp only [Option.getD, postC]
  refine wp_seq_k (fun K hK => ?_)
  have HK := Lib.hid hK
  clear hK
  go_wp2_with (go_at_call 10; refine (told2_ B _ s rs m HM.out HR.out.st HR.out.small HR.out.data).mono ?_; rintro e w1 ⟨A1, c1, os1, rfl, hc1, ho1, he1, hb1⟩; have HO1 := Lib.hid ho1; have HE1 := Lib.hid he1; have HB1 := Lib.hid hb1; clear ho1 he1 hb1)
  refine HK.out _ _ ?_
  clear HK K
  refine wp_seq_k (fun K hK => ?_)
  have HK := Lib.hid hK
  clear hK
  go_wp2_with (go_at_call 11; refine (HSTORE.out _ (HR.out.st.below HB1.out)).mono ?_; rintro e w2 ⟨rfl, ⟨nd2, rfl⟩⟩)
  refine HK.out _ _ ?_
  clear HK K
  have HST2 := Lib.hid ((HR.out.st.below HB1.out).drewN nd2)
  have HO2 := Lib.hid (HO1.out.below (pw_below_drewN (Below.refl _ _) nd2))
  have HBB2 := Lib.hid (pw_below_drewN (HR.out.b.trans (HB1.out.mono HR.out.b.size)) nd2)
  refine wp_seq_k (fun K hK => ?_)
  have HK := Lib.hid hK
  clear hK
  go_wp2_with (go_at_call 10; refine (told2_ B _ s rs m HM2.out HST2.out (by rw [← HM2.out]; exact hms) HD2.out).mono ?_; rintro e w3 ⟨A2, c2, os2, rfl, hc2, ho3, he3, hb3⟩; have HO3 := Lib.hid ho3; have HE3 := Lib.hid he3; have HB3 := Lib.hid hb3; clear ho3 he3 hb3)
  refine HK.out _ _ ?_
  clear HK K
  have HO23 := Lib.hid (HO2.out.below HB3.out)
  have HST3 := Lib.hid (HST2.out.below HB3.out)
  have HBB3 := Lib.hid (HBB2.out.trans (HB3.out.mono HBB2.out.size))
  refine wp_seq_k (fun K hK => ?_)
  have HK := Lib.hid hK
  clear hK
  go_wp2_with (go_at_call 12; refine (load_ _ s rs x 32 HST3.out.space HST3.out.rising HST3.out.bytes HX.out.1 HX.out.2).mono ?_; rintro e w4 ⟨rfl, ⟨nd4, rfl⟩⟩; rw [HLD.out])
  refine HK.out _ _ ?_
  clear HK K
  refine wp_seq_k (fun K hK => ?_)
  have HK := Lib.hid hK
  clear hK
  go_wp2
  refine HK.out _ _ ?_
  clear HK K
  refine wp_seq_k (fun K hK => ?_)
  have HK := Lib.hid hK
  clear hK
  go_wp2
  refine HK.out _ _ ?_
  clear HK K
  refine wp_seq_k (fun K hK => ?_)
  have HK := Lib.hid hK
  clear hK
  go_wp2
  refine HK.out _ _ ?_
  clear HK K
  have HC1 := Lib.hid (outs_C (HO23.out.below (pw_below_drewN (Below.refl _ _) nd4)) HE1.out HM.out HR.out.small)
  have HC2 := Lib.hid (outs_C (HO3.out.below (pw_below_drewN (Below.refl _ _) nd4)) HE3.out HM2.out (by rw [← HM2.out]; exact hms))
  refine wp_seq_k (fun K hK => ?_)
  have HK := Lib.hid hK
  clear hK
  go_wp2_with (go_at_call 13; refine (HHELD.out _ A1 c1 HC1.out hc1).mono ?_; rintro e w5 ⟨rfl, ⟨nd5, rfl⟩⟩)
  refine HK.out _ _ ?_
  clear HK K
  refine wp_seq_k (fun K hK => ?_)
  have HK := Lib.hid hK
  clear hK
  go_wp2
  refine HK.out _ _ ?_
  clear HK K
  exact tail_ w _ (B := B) (s := s) (m := m) (x := x) (xm := xm) (kk := 4) (fv := 200) (A1 := A1) (A2 := A2) (c1 := c1) (c2 := c2) (rs := rs) (rs2 := rs) (ok := false) (pw_below_drewN HBB3.out _) (HST3.out.drewN _) HM.out hms (outs_C (HO23.out.below (pw_below_drewN (Below.refl _ _) _)) HE1.out HM.out HR.out.small) (outs_C (HO3.out.below (pw_below_drewN (Below.refl _ _) _)) HE3.out HM2.out (by rw [← HM2.out]; exact hms)) HP.out HR.out.ends HR.out.data HR.out.st.bytes rfl HX.out.1 HX.out.2 (by decide) (by decide) HXR.out.1 HXR.out.2
set_option maxHeartbeats 4000000 in
set_option maxRecDepth 100000 in
theorem law_none_64 (w W0 : World) (B s : Nat) (xs : List S39) (rs : List Reg) (x width v : Int) (hR : Ready w W0 xs rs s B) (hx0 : 0 ≤ x) (hx1 : x < 18446744073709551616) (hv0 : 0 ≤ v) (hv1 : v < 18446744073709551616) (hS : storeOf rs x width v = none) (n8 : ¬ width = 8) (n16 : ¬ width = 16) (n32 : ¬ width = 32)
    {y0 y4 y5 y6 y7 y11 y12 y13 y14 y15 y16 y17 y18 y19 y20 y21 y22 y23 y24 y25 y26 y27 y28 y29 y30 y31 y32 y33 y34 y35 y36 y37 y38 y39 y40 y41 y42 y43 y44 y45 y46 y47 y48 y49 y50 y51 y52 y53 y54 y55 y56 y57 y58 y59 y60 y61 y62 y63 y64 y65 y66 y67 y68 y69 y70 y71 y72 y73 y74 y75 y76 y77 y78 y79 y80 y81 y82 y83 y84 y85 y86 y87 y88 y89 y90 y91 y92 y93 y94 y95 y96 y97 y98 y99 y100 y101 y102 y103 y104 y105 y106 y107 y108 y109 y110 y111 y112 y113 y114 y115 y116 y117 y118 y119 y120 y121 y122 y123 y124 y125 y126 y127 y128 y129 y130 y131 y132 y133 y134 y135 y136 y137 y138 y139 y140 y141 y142 y143 y144 y145 y146 y147 y148 y149 y150 y151 y152 y153 y154 y155 y156 y157 y158 y159 y160 y161 y162 y163 y164 y165 y166 y167 y168 y169 y170 y171 y172 y173 y174 y175 y176 y177 y178 y179 y180 y181 y182 y183 y184 y185 y186 y187 y188 y189 y190 y191 y192 y193 y194 y195 y196 y197 y198 y199 y200 y201 y202 y203 y204 y205 y206 y207 y208 y209 y210 y211 y212 y213 y214 y215 y216 y217 y218 y219 y220 y221 y222 y223 y224 y225 y226 y227 y228 y229 y230 y231 y232 y233 y234 y235 : Value} :
    Code.wp Try.prog (postC 3 (Try.f3.body.getD .skip)) (bodyPost Try.prog Try.f3 fun e w' => e = .returned (.bool true) ∧ Below w.heap.size w w') { tmps := #[y0, Value.int .u64 x, Value.int .i64 width, Value.int .u64 v, y4, y5, y6, y7, Value.bool false, Value.pointer (some ⟨s, 0, none⟩), Value.int .i64 0, y11, y12, y13, y14, y15, y16, y17, y18, y19, y20, y21, y22, y23, y24, y25, y26, y27, y28, y29, y30, y31, y32, y33, y34, y35, y36, y37, y38, y39, y40, y41, y42, y43, y44, y45, y46, y47, y48, y49, y50, y51, y52, y53, y54, y55, y56, y57, y58, y59, y60, y61, y62, y63, y64, y65, y66, y67, y68, y69, y70, y71, y72, y73, y74, y75, y76, y77, y78, y79, y80, y81, y82, y83, y84, y85, y86, y87, y88, y89, y90, y91, y92, y93, y94, y95, y96, y97, y98, y99, y100, y101, y102, y103, y104, y105, y106, y107, y108, y109, y110, y111, y112, y113, y114, y115, y116, y117, y118, y119, y120, y121, y122, y123, y124, y125, y126, y127, y128, y129, y130, y131, y132, y133, y134, y135, y136, y137, y138, y139, y140, y141, y142, y143, y144, y145, y146, y147, y148, y149, y150, y151, y152, y153, y154, y155, y156, y157, y158, y159, y160, y161, y162, y163, y164, y165, y166, y167, y168, y169, y170, y171, y172, y173, y174, y175, y176, y177, y178, y179, y180, y181, y182, y183, y184, y185, y186, y187, y188, y189, y190, y191, y192, y193, y194, y195, y196, y197, y198, y199, y200, y201, y202, y203, y204, y205, y206, y207, y208, y209, y210, y211, y212, y213, y214, y215, y216, y217, y218, y219, y220, y221, y222, y223, y224, y225, y226, y227, y228, y229, y230, y231, y232, y233, y234, y235], defers := [] } W0 := by
  obtain ⟨m, hm⟩ : ∃ m, m = rs.length := ⟨_, rfl⟩
  have hms : m ≤ 4398046510976 := by rw [hm]; exact hR.small
  have HM := Lib.hid hm
  have HR := Lib.hid hR
  have HX := Lib.hid (And.intro hx0 hx1)
  have HV := Lib.hid (And.intro hv0 hv1)
  have HS := Lib.hid hS
  have hwb : wb width = 8 := by unfold wb; rw [if_neg n8, if_neg n16, if_neg n32]
  have HWB := Lib.hid hwb
  have b8 : (width == 8) = false := beq_eq_false_iff_ne.mpr n8
  have b16 : (width == 16) = false := beq_eq_false_iff_ne.mpr n16
  have b32 : (width == 32) = false := beq_eq_false_iff_ne.mpr n32
  obtain ⟨xm, hxm⟩ : ∃ xm, xm = v := ⟨_, rfl⟩
  have HXM := Lib.hid (show xm = v % 256 ^ 8 from by rw [hxm]; exact (Int.emod_eq_of_lt hv0 hv1).symm)
  have hxv := hxm
  have HXR := Lib.hid (show 0 ≤ xm ∧ xm < 18446744073709551616 from by rw [hxm]; exact ⟨hv0, hv1⟩)
  have HP := Lib.hid (pair_none hR.st.rising hR.apt x 8 xm)
  have HLD := Lib.hid (load_none hS)
  have HM2 := HM
  have HD2 := Lib.hid hR.data
  have HSTORE := Lib.hid (show ∀ W, St B W s rs → Calls Try.prog 11 #[.pointer (some ⟨s, 0, none⟩), .int .u64 x, .int .i64 width, .int .u64 v] W fun e w' => StoreRes (none) rs B W s e w' from fun W hW => by
    have h := store_ B W s rs x width v hW hx0 hx1 hv0 hv1
    rw [hS] at h
    exact h)
  have HHELD := Lib.hid (show ∀ W A c, Kd.C k39 W A m (rs.map s39) → m ≤ c → Calls Try.prog 13 #[.slice A m c, .int .u64 x, .int .u64 8] W fun e w' => e = .returned (.bool false) ∧ Drawn0 W w' from fun W A c h1 h2 => by
    subst hm
    have h := held_ W A c rs x 8 h1 h2 hR.st.rising hR.apt hR.ends hR.st.bytes hx0 hx1 (by decide) (by decide) hR.small
    rw [← hwb, store_held (v := v), hS, hwb] at h
    exact h)
  clear hm hR hx0 hx1 hv0 hv1 hS hwb hxm n8 n16 n32
  unfold Try.f3
  dsimp only [Option.getD, postC]
  refine wp_seq_k (fun K hK => ?_)
  have HK := Lib.hid hK
  clear hK
  go_wp2_with (go_at_call 10; refine (told2_ B _ s rs m HM.out HR.out.st HR.out.small HR.out.data).mono ?_; rintro e w1 ⟨A1, c1, os1, rfl, hc1, ho1, he1, hb1⟩; have HO1 := Lib.hid ho1; have HE1 := Lib.hid he1; have HB1 := Lib.hid hb1; clear ho1 he1 hb1)
  refine HK.out _ _ ?_
  clear HK K
  refine wp_seq_k (fun K hK => ?_)
  have HK := Lib.hid hK
  clear hK
  go_wp2_with (go_at_call 11; refine (HSTORE.out _ (HR.out.st.below HB1.out)).mono ?_; rintro e w2 ⟨rfl, ⟨nd2, rfl⟩⟩)
  refine HK.out _ _ ?_
  clear HK K
  have HST2 := Lib.hid ((HR.out.st.below HB1.out).drewN nd2)
  have HO2 := Lib.hid (HO1.out.below (pw_below_drewN (Below.refl _ _) nd2))
  have HBB2 := Lib.hid (pw_below_drewN (HR.out.b.trans (HB1.out.mono HR.out.b.size)) nd2)
  refine wp_seq_k (fun K hK => ?_)
  have HK := Lib.hid hK
  clear hK
  go_wp2_with (go_at_call 10; refine (told2_ B _ s rs m HM2.out HST2.out (by rw [← HM2.out]; exact hms) HD2.out).mono ?_; rintro e w3 ⟨A2, c2, os2, rfl, hc2, ho3, he3, hb3⟩; have HO3 := Lib.hid ho3; have HE3 := Lib.hid he3; have HB3 := Lib.hid hb3; clear ho3 he3 hb3)
  refine HK.out _ _ ?_
  clear HK K
  have HO23 := Lib.hid (HO2.out.below HB3.out)
  have HST3 := Lib.hid (HST2.out.below HB3.out)
  have HBB3 := Lib.hid (HBB2.out.trans (HB3.out.mono HBB2.out.size))
  refine wp_seq_k (fun K hK => ?_)
  have HK := Lib.hid hK
  clear hK
  go_wp2_with (go_at_call 12; refine (load_ _ s rs x width HST3.out.space HST3.out.rising HST3.out.bytes HX.out.1 HX.out.2).mono ?_; rintro e w4 ⟨rfl, ⟨nd4, rfl⟩⟩; rw [HLD.out])
  refine HK.out _ _ ?_
  clear HK K
  refine wp_seq_k (fun K hK => ?_)
  have HK := Lib.hid hK
  clear hK
  go_wp2
  refine HK.out _ _ ?_
  clear HK K
  refine wp_seq_k (fun K hK => ?_)
  have HK := Lib.hid hK
  clear hK
  go_wp2
  refine HK.out _ _ ?_
  clear HK K
  refine wp_seq_k (fun K hK => ?_)
  have HK := Lib.hid hK
  clear hK
  go_wp2
  refine HK.out _ _ ?_
  clear HK K
  have HC1 := Lib.hid (outs_C (HO23.out.below (pw_below_drewN (Below.refl _ _) nd4)) HE1.out HM.out HR.out.small)
  have HC2 := Lib.hid (outs_C (HO3.out.below (pw_below_drewN (Below.refl _ _) nd4)) HE3.out HM2.out (by rw [← HM2.out]; exact hms))
  refine wp_seq_k (fun K hK => ?_)
  have HK := Lib.hid hK
  clear hK
  go_wp2_with (go_at_call 13; refine (HHELD.out _ A1 c1 HC1.out hc1).mono ?_; rintro e w5 ⟨rfl, ⟨nd5, rfl⟩⟩)
  refine HK.out _ _ ?_
  clear HK K
  refine wp_seq_k (fun K hK => ?_)
  have HK := Lib.hid hK
  clear hK
  go_wp2
  refine HK.out _ _ ?_
  clear HK K
  subst hxv
  exact tail_ w _ (B := B) (s := s) (m := m) (x := x) (xm := xm) (kk := 8) (fv := 200) (A1 := A1) (A2 := A2) (c1 := c1) (c2 := c2) (rs := rs) (rs2 := rs) (ok := false) (pw_below_drewN HBB3.out _) (HST3.out.drewN _) HM.out hms (outs_C (HO23.out.below (pw_below_drewN (Below.refl _ _) _)) HE1.out HM.out HR.out.small) (outs_C (HO3.out.below (pw_below_drewN (Below.refl _ _) _)) HE3.out HM2.out (by rw [← HM2.out]; exact hms)) HP.out HR.out.ends HR.out.data HR.out.st.bytes rfl HX.out.1 HX.out.2 (by decide) (by decide) HXR.out.1 HXR.out.2
set_option maxHeartbeats 4000000 in
set_option maxRecDepth 100000 in
theorem law_some_8 (w W0 : World) (B s : Nat) (xs : List S39) (rs : List Reg) (x v : Int) (hR : Ready w W0 xs rs s B) (hx0 : 0 ≤ x) (hx1 : x < 18446744073709551616) (hv0 : 0 ≤ v) (hv1 : v < 18446744073709551616) (rs2 : List Reg) (hS : storeOf rs x 8 v = some rs2)
    {y0 y4 y5 y6 y7 y11 y12 y13 y14 y15 y16 y17 y18 y19 y20 y21 y22 y23 y24 y25 y26 y27 y28 y29 y30 y31 y32 y33 y34 y35 y36 y37 y38 y39 y40 y41 y42 y43 y44 y45 y46 y47 y48 y49 y50 y51 y52 y53 y54 y55 y56 y57 y58 y59 y60 y61 y62 y63 y64 y65 y66 y67 y68 y69 y70 y71 y72 y73 y74 y75 y76 y77 y78 y79 y80 y81 y82 y83 y84 y85 y86 y87 y88 y89 y90 y91 y92 y93 y94 y95 y96 y97 y98 y99 y100 y101 y102 y103 y104 y105 y106 y107 y108 y109 y110 y111 y112 y113 y114 y115 y116 y117 y118 y119 y120 y121 y122 y123 y124 y125 y126 y127 y128 y129 y130 y131 y132 y133 y134 y135 y136 y137 y138 y139 y140 y141 y142 y143 y144 y145 y146 y147 y148 y149 y150 y151 y152 y153 y154 y155 y156 y157 y158 y159 y160 y161 y162 y163 y164 y165 y166 y167 y168 y169 y170 y171 y172 y173 y174 y175 y176 y177 y178 y179 y180 y181 y182 y183 y184 y185 y186 y187 y188 y189 y190 y191 y192 y193 y194 y195 y196 y197 y198 y199 y200 y201 y202 y203 y204 y205 y206 y207 y208 y209 y210 y211 y212 y213 y214 y215 y216 y217 y218 y219 y220 y221 y222 y223 y224 y225 y226 y227 y228 y229 y230 y231 y232 y233 y234 y235 : Value} :
    Code.wp Try.prog (postC 3 (Try.f3.body.getD .skip)) (bodyPost Try.prog Try.f3 fun e w' => e = .returned (.bool true) ∧ Below w.heap.size w w') { tmps := #[y0, Value.int .u64 x, Value.int .i64 8, Value.int .u64 v, y4, y5, y6, y7, Value.bool false, Value.pointer (some ⟨s, 0, none⟩), Value.int .i64 0, y11, y12, y13, y14, y15, y16, y17, y18, y19, y20, y21, y22, y23, y24, y25, y26, y27, y28, y29, y30, y31, y32, y33, y34, y35, y36, y37, y38, y39, y40, y41, y42, y43, y44, y45, y46, y47, y48, y49, y50, y51, y52, y53, y54, y55, y56, y57, y58, y59, y60, y61, y62, y63, y64, y65, y66, y67, y68, y69, y70, y71, y72, y73, y74, y75, y76, y77, y78, y79, y80, y81, y82, y83, y84, y85, y86, y87, y88, y89, y90, y91, y92, y93, y94, y95, y96, y97, y98, y99, y100, y101, y102, y103, y104, y105, y106, y107, y108, y109, y110, y111, y112, y113, y114, y115, y116, y117, y118, y119, y120, y121, y122, y123, y124, y125, y126, y127, y128, y129, y130, y131, y132, y133, y134, y135, y136, y137, y138, y139, y140, y141, y142, y143, y144, y145, y146, y147, y148, y149, y150, y151, y152, y153, y154, y155, y156, y157, y158, y159, y160, y161, y162, y163, y164, y165, y166, y167, y168, y169, y170, y171, y172, y173, y174, y175, y176, y177, y178, y179, y180, y181, y182, y183, y184, y185, y186, y187, y188, y189, y190, y191, y192, y193, y194, y195, y196, y197, y198, y199, y200, y201, y202, y203, y204, y205, y206, y207, y208, y209, y210, y211, y212, y213, y214, y215, y216, y217, y218, y219, y220, y221, y222, y223, y224, y225, y226, y227, y228, y229, y230, y231, y232, y233, y234, y235], defers := [] } W0 := by
  obtain ⟨m, hm⟩ : ∃ m, m = rs.length := ⟨_, rfl⟩
  have hms : m ≤ 4398046510976 := by rw [hm]; exact hR.small
  have HM := Lib.hid hm
  have HR := Lib.hid hR
  have HX := Lib.hid (And.intro hx0 hx1)
  have HV := Lib.hid (And.intro hv0 hv1)
  have HS := Lib.hid hS
  have hwb : wb 8 = 1 := by rfl
  have HWB := Lib.hid hwb
  obtain ⟨xm, hxm⟩ : ∃ xm, xm = v % 256 := ⟨_, rfl⟩
  have HXM := Lib.hid (show xm = v % 256 ^ 1 from hxm)
  have kb : Go.bits .and .u64 v 255 = xm := by rw [hxm]; exact mask_8 v hv0 hv1
  have HXR := Lib.hid (show 0 ≤ xm ∧ xm < 18446744073709551616 from by rw [hxm]; omega)
  have hps := pair_some hR.st.rising hR.apt hR.ends x 8 v hx0 hv0 hS xm (by rw [hwb]; exact HXM.out)
  rw [hwb] at hps
  have HP := Lib.hid hps.1
  have HLD := Lib.hid hps.2
  clear hps
  have HM2 := Lib.hid (show m = rs2.length from by rw [HP.out.len]; exact hm)
  have HD2 := Lib.hid (show ∀ r ∈ rs2, r.data.length ≤ 140737488351232 from fun r hr => by
    obtain ⟨i, hi, rfl⟩ := List.getElem_of_mem hr
    obtain ⟨_, _, h⟩ := HP.out.first i (by rw [← HP.out.len]; exact hi)
    rw [h]; exact hR.data _ (List.getElem_mem _))
  have HSTORE := Lib.hid (show ∀ W, St B W s rs → Calls Try.prog 11 #[.pointer (some ⟨s, 0, none⟩), .int .u64 x, .int .i64 8, .int .u64 v] W fun e w' => StoreRes (some rs2) rs B W s e w' from fun W hW => by
    have h := store_ B W s rs x 8 v hW hx0 hx1 hv0 hv1
    rw [hS] at h
    exact h)
  have HHELD := Lib.hid (show ∀ W A c, Kd.C k39 W A m (rs.map s39) → m ≤ c → Calls Try.prog 13 #[.slice A m c, .int .u64 x, .int .u64 1] W fun e w' => e = .returned (.bool true) ∧ Drawn0 W w' from fun W A c h1 h2 => by
    subst hm
    have h := held_ W A c rs x 1 h1 h2 hR.st.rising hR.apt hR.ends hR.st.bytes hx0 hx1 (by decide) (by decide) hR.small
    rw [← hwb, store_held (v := v), hS, hwb] at h
    exact h)
  clear hm hR hx0 hx1 hv0 hv1 hS hwb hxm
  unfold Try.f3
  dsimp only [Option.getD, postC]
  refine wp_seq_k (fun K hK => ?_)
  have HK := Lib.hid hK
  clear hK
  go_wp2_with (go_at_call 10; refine (told2_ B _ s rs m HM.out HR.out.st HR.out.small HR.out.data).mono ?_; rintro e w1 ⟨A1, c1, os1, rfl, hc1, ho1, he1, hb1⟩; have HO1 := Lib.hid ho1; have HE1 := Lib.hid he1; have HB1 := Lib.hid hb1; clear ho1 he1 hb1)
  refine HK.out _ _ ?_
  clear HK K
  refine wp_seq_k (fun K hK => ?_)
  have HK := Lib.hid hK
  clear hK
  go_wp2_with (go_at_call 11; refine (HSTORE.out _ (HR.out.st.below HB1.out)).mono ?_; rintro e w2 ⟨rfl, hst2, hbb2, d2, ⟨q2, hq2, hl2, ha2⟩, hO2⟩; have HST2 := Lib.hid hst2; have HO2 := Lib.hid (HO1.out.only hO2 (HR.out.st.dlt hq2 hl2 ha2)); have HBB2 := Lib.hid ((HR.out.b.trans (HB1.out.mono HR.out.b.size)).trans (hbb2.mono HR.out.low)); clear hst2 hbb2 hq2 hl2 ha2 hO2)
  refine HK.out _ _ ?_
  clear HK K
  refine wp_seq_k (fun K hK => ?_)
  have HK := Lib.hid hK
  clear hK
  go_wp2_with (go_at_call 10; refine (told2_ B _ s rs2 m HM2.out HST2.out (by rw [← HM2.out]; exact hms) HD2.out).mono ?_; rintro e w3 ⟨A2, c2, os2, rfl, hc2, ho3, he3, hb3⟩; have HO3 := Lib.hid ho3; have HE3 := Lib.hid he3; have HB3 := Lib.hid hb3; clear ho3 he3 hb3)
  refine HK.out _ _ ?_
  clear HK K
  have HO23 := Lib.hid (HO2.out.below HB3.out)
  have HST3 := Lib.hid (HST2.out.below HB3.out)
  have HBB3 := Lib.hid (HBB2.out.trans (HB3.out.mono HBB2.out.size))
  refine wp_seq_k (fun K hK => ?_)
  have HK := Lib.hid hK
  clear hK
  go_wp2_with (go_at_call 12; refine (load_ _ s rs2 x 8 HST3.out.space HST3.out.rising HST3.out.bytes HX.out.1 HX.out.2).mono ?_; rintro e w4 ⟨rfl, ⟨nd4, rfl⟩⟩; rw [HLD.out])
  refine HK.out _ _ ?_
  clear HK K
  refine wp_seq_k (fun K hK => ?_)
  have HK := Lib.hid hK
  clear hK
  go_wp2
  refine HK.out _ _ ?_
  clear HK K
  refine wp_seq_k (fun K hK => ?_)
  have HK := Lib.hid hK
  clear hK
  go_wp2
  refine HK.out _ _ ?_
  clear HK K
  refine wp_seq_k (fun K hK => ?_)
  have HK := Lib.hid hK
  clear hK
  go_wp2
  refine HK.out _ _ ?_
  clear HK K
  have HC1 := Lib.hid (outs_C (HO23.out.below (pw_below_drewN (Below.refl _ _) nd4)) HE1.out HM.out HR.out.small)
  have HC2 := Lib.hid (outs_C (HO3.out.below (pw_below_drewN (Below.refl _ _) nd4)) HE3.out HM2.out (by rw [← HM2.out]; exact hms))
  refine wp_seq_k (fun K hK => ?_)
  have HK := Lib.hid hK
  clear hK
  go_wp2_with (go_at_call 13; refine (HHELD.out _ A1 c1 HC1.out hc1).mono ?_; rintro e w5 ⟨rfl, ⟨nd5, rfl⟩⟩)
  refine HK.out _ _ ?_
  clear HK K
  refine wp_seq_k (fun K hK => ?_)
  have HK := Lib.hid hK
  clear hK
  go_wp2
  refine HK.out _ _ ?_
  clear HK K
  exact tail_ w _ (B := B) (s := s) (m := m) (x := x) (xm := xm) (kk := 1) (fv := 0) (A1 := A1) (A2 := A2) (c1 := c1) (c2 := c2) (rs := rs) (rs2 := rs2) (ok := true) (pw_below_drewN HBB3.out _) (HST3.out.drewN _) HM.out hms (outs_C (HO23.out.below (pw_below_drewN (Below.refl _ _) _)) HE1.out HM.out HR.out.small) (outs_C (HO3.out.below (pw_below_drewN (Below.refl _ _) _)) HE3.out HM2.out (by rw [← HM2.out]; exact hms)) HP.out HR.out.ends HR.out.data HR.out.st.bytes rfl HX.out.1 HX.out.2 (by decide) (by decide) HXR.out.1 HXR.out.2
set_option maxHeartbeats 4000000 in
set_option maxRecDepth 100000 in
theorem law_some_16 (w W0 : World) (B s : Nat) (xs : List S39) (rs : List Reg) (x v : Int) (hR : Ready w W0 xs rs s B) (hx0 : 0 ≤ x) (hx1 : x < 18446744073709551616) (hv0 : 0 ≤ v) (hv1 : v < 18446744073709551616) (rs2 : List Reg) (hS : storeOf rs x 16 v = some rs2)
    {y0 y4 y5 y6 y7 y11 y12 y13 y14 y15 y16 y17 y18 y19 y20 y21 y22 y23 y24 y25 y26 y27 y28 y29 y30 y31 y32 y33 y34 y35 y36 y37 y38 y39 y40 y41 y42 y43 y44 y45 y46 y47 y48 y49 y50 y51 y52 y53 y54 y55 y56 y57 y58 y59 y60 y61 y62 y63 y64 y65 y66 y67 y68 y69 y70 y71 y72 y73 y74 y75 y76 y77 y78 y79 y80 y81 y82 y83 y84 y85 y86 y87 y88 y89 y90 y91 y92 y93 y94 y95 y96 y97 y98 y99 y100 y101 y102 y103 y104 y105 y106 y107 y108 y109 y110 y111 y112 y113 y114 y115 y116 y117 y118 y119 y120 y121 y122 y123 y124 y125 y126 y127 y128 y129 y130 y131 y132 y133 y134 y135 y136 y137 y138 y139 y140 y141 y142 y143 y144 y145 y146 y147 y148 y149 y150 y151 y152 y153 y154 y155 y156 y157 y158 y159 y160 y161 y162 y163 y164 y165 y166 y167 y168 y169 y170 y171 y172 y173 y174 y175 y176 y177 y178 y179 y180 y181 y182 y183 y184 y185 y186 y187 y188 y189 y190 y191 y192 y193 y194 y195 y196 y197 y198 y199 y200 y201 y202 y203 y204 y205 y206 y207 y208 y209 y210 y211 y212 y213 y214 y215 y216 y217 y218 y219 y220 y221 y222 y223 y224 y225 y226 y227 y228 y229 y230 y231 y232 y233 y234 y235 : Value} :
    Code.wp Try.prog (postC 3 (Try.f3.body.getD .skip)) (bodyPost Try.prog Try.f3 fun e w' => e = .returned (.bool true) ∧ Below w.heap.size w w') { tmps := #[y0, Value.int .u64 x, Value.int .i64 16, Value.int .u64 v, y4, y5, y6, y7, Value.bool false, Value.pointer (some ⟨s, 0, none⟩), Value.int .i64 0, y11, y12, y13, y14, y15, y16, y17, y18, y19, y20, y21, y22, y23, y24, y25, y26, y27, y28, y29, y30, y31, y32, y33, y34, y35, y36, y37, y38, y39, y40, y41, y42, y43, y44, y45, y46, y47, y48, y49, y50, y51, y52, y53, y54, y55, y56, y57, y58, y59, y60, y61, y62, y63, y64, y65, y66, y67, y68, y69, y70, y71, y72, y73, y74, y75, y76, y77, y78, y79, y80, y81, y82, y83, y84, y85, y86, y87, y88, y89, y90, y91, y92, y93, y94, y95, y96, y97, y98, y99, y100, y101, y102, y103, y104, y105, y106, y107, y108, y109, y110, y111, y112, y113, y114, y115, y116, y117, y118, y119, y120, y121, y122, y123, y124, y125, y126, y127, y128, y129, y130, y131, y132, y133, y134, y135, y136, y137, y138, y139, y140, y141, y142, y143, y144, y145, y146, y147, y148, y149, y150, y151, y152, y153, y154, y155, y156, y157, y158, y159, y160, y161, y162, y163, y164, y165, y166, y167, y168, y169, y170, y171, y172, y173, y174, y175, y176, y177, y178, y179, y180, y181, y182, y183, y184, y185, y186, y187, y188, y189, y190, y191, y192, y193, y194, y195, y196, y197, y198, y199, y200, y201, y202, y203, y204, y205, y206, y207, y208, y209, y210, y211, y212, y213, y214, y215, y216, y217, y218, y219, y220, y221, y222, y223, y224, y225, y226, y227, y228, y229, y230, y231, y232, y233, y234, y235], defers := [] } W0 := by
  obtain ⟨m, hm⟩ : ∃ m, m = rs.length := ⟨_, rfl⟩
  have hms : m ≤ 4398046510976 := by rw [hm]; exact hR.small
  have HM := Lib.hid hm
  have HR := Lib.hid hR
  have HX := Lib.hid (And.intro hx0 hx1)
  have HV := Lib.hid (And.intro hv0 hv1)
  have HS := Lib.hid hS
  have hwb : wb 16 = 2 := by rfl
  have HWB := Lib.hid hwb
  obtain ⟨xm, hxm⟩ : ∃ xm, xm = v % 65536 := ⟨_, rfl⟩
  have HXM := Lib.hid (show xm = v % 256 ^ 2 from hxm)
  have kb : Go.bits .and .u64 v 65535 = xm := by rw [hxm]; exact mask_16 v hv0 hv1
  have HXR := Lib.hid (show 0 ≤ xm ∧ xm < 18446744073709551616 from by rw [hxm]; omega)
  have hps := pair_some hR.st.rising hR.apt hR.ends x 16 v hx0 hv0 hS xm (by rw [hwb]; exact HXM.out)
  rw [hwb] at hps
  have HP := Lib.hid hps.1
  have HLD := Lib.hid hps.2
  clear hps
  have HM2 := Lib.hid (show m = rs2.length from by rw [HP.out.len]; exact hm)
  have HD2 := Lib.hid (show ∀ r ∈ rs2, r.data.length ≤ 140737488351232 from fun r hr => by
    obtain ⟨i, hi, rfl⟩ := List.getElem_of_mem hr
    obtain ⟨_, _, h⟩ := HP.out.first i (by rw [← HP.out.len]; exact hi)
    rw [h]; exact hR.data _ (List.getElem_mem _))
  have HSTORE := Lib.hid (show ∀ W, St B W s rs → Calls Try.prog 11 #[.pointer (some ⟨s, 0, none⟩), .int .u64 x, .int .i64 16, .int .u64 v] W fun e w' => StoreRes (some rs2) rs B W s e w' from fun W hW => by
    have h := store_ B W s rs x 16 v hW hx0 hx1 hv0 hv1
    rw [hS] at h
    exact h)
  have HHELD := Lib.hid (show ∀ W A c, Kd.C k39 W A m (rs.map s39) → m ≤ c → Calls Try.prog 13 #[.slice A m c, .int .u64 x, .int .u64 2] W fun e w' => e = .returned (.bool true) ∧ Drawn0 W w' from fun W A c h1 h2 => by
    subst hm
    have h := held_ W A c rs x 2 h1 h2 hR.st.rising hR.apt hR.ends hR.st.bytes hx0 hx1 (by decide) (by decide) hR.small
    rw [← hwb, store_held (v := v), hS, hwb] at h
    exact h)
  clear hm hR hx0 hx1 hv0 hv1 hS hwb hxm
  unfold Try.f3
  dsimp only [Option.getD, postC]
  refine wp_seq_k (fun K hK => ?_)
  have HK := Lib.hid hK
  clear hK
  go_wp2_with (go_at_call 10; refine (told2_ B _ s rs m HM.out HR.out.st HR.out.small HR.out.data).mono ?_; rintro e w1 ⟨A1, c1, os1, rfl, hc1, ho1, he1, hb1⟩; have HO1 := Lib.hid ho1; have HE1 := Lib.hid he1; have HB1 := Lib.hid hb1; clear ho1 he1 hb1)
  refine HK.out _ _ ?_
  clear HK K
  refine wp_seq_k (fun K hK => ?_)
  have HK := Lib.hid hK
  clear hK
  go_wp2_with (go_at_call 11; refine (HSTORE.out _ (HR.out.st.below HB1.out)).mono ?_; rintro e w2 ⟨rfl, hst2, hbb2, d2, ⟨q2, hq2, hl2, ha2⟩, hO2⟩; have HST2 := Lib.hid hst2; have HO2 := Lib.hid (HO1.out.only hO2 (HR.out.st.dlt hq2 hl2 ha2)); have HBB2 := Lib.hid ((HR.out.b.trans (HB1.out.mono HR.out.b.size)).trans (hbb2.mono HR.out.low)); clear hst2 hbb2 hq2 hl2 ha2 hO2)
  refine HK.out _ _ ?_
  clear HK K
  refine wp_seq_k (fun K hK => ?_)
  have HK := Lib.hid hK
  clear hK
  go_wp2_with (go_at_call 10; refine (told2_ B _ s rs2 m HM2.out HST2.out (by rw [← HM2.out]; exact hms) HD2.out).mono ?_; rintro e w3 ⟨A2, c2, os2, rfl, hc2, ho3, he3, hb3⟩; have HO3 := Lib.hid ho3; have HE3 := Lib.hid he3; have HB3 := Lib.hid hb3; clear ho3 he3 hb3)
  refine HK.out _ _ ?_
  clear HK K
  have HO23 := Lib.hid (HO2.out.below HB3.out)
  have HST3 := Lib.hid (HST2.out.below HB3.out)
  have HBB3 := Lib.hid (HBB2.out.trans (HB3.out.mono HBB2.out.size))
  refine wp_seq_k (fun K hK => ?_)
  have HK := Lib.hid hK
  clear hK
  go_wp2_with (go_at_call 12; refine (load_ _ s rs2 x 16 HST3.out.space HST3.out.rising HST3.out.bytes HX.out.1 HX.out.2).mono ?_; rintro e w4 ⟨rfl, ⟨nd4, rfl⟩⟩; rw [HLD.out])
  refine HK.out _ _ ?_
  clear HK K
  refine wp_seq_k (fun K hK => ?_)
  have HK := Lib.hid hK
  clear hK
  go_wp2
  refine HK.out _ _ ?_
  clear HK K
  refine wp_seq_k (fun K hK => ?_)
  have HK := Lib.hid hK
  clear hK
  go_wp2
  refine HK.out _ _ ?_
  clear HK K
  refine wp_seq_k (fun K hK => ?_)
  have HK := Lib.hid hK
  clear hK
  go_wp2
  refine HK.out _ _ ?_
  clear HK K
  have HC1 := Lib.hid (outs_C (HO23.out.below (pw_below_drewN (Below.refl _ _) nd4)) HE1.out HM.out HR.out.small)
  have HC2 := Lib.hid (outs_C (HO3.out.below (pw_below_drewN (Below.refl _ _) nd4)) HE3.out HM2.out (by rw [← HM2.out]; exact hms))
  refine wp_seq_k (fun K hK => ?_)
  have HK := Lib.hid hK
  clear hK
  go_wp2_with (go_at_call 13; refine (HHELD.out _ A1 c1 HC1.out hc1).mono ?_; rintro e w5 ⟨rfl, ⟨nd5, rfl⟩⟩)
  refine HK.out _ _ ?_
  clear HK K
  refine wp_seq_k (fun K hK => ?_)
  have HK := Lib.hid hK
  clear hK
  go_wp2
  refine HK.out _ _ ?_
  clear HK K
  exact tail_ w _ (B := B) (s := s) (m := m) (x := x) (xm := xm) (kk := 2) (fv := 0) (A1 := A1) (A2 := A2) (c1 := c1) (c2 := c2) (rs := rs) (rs2 := rs2) (ok := true) (pw_below_drewN HBB3.out _) (HST3.out.drewN _) HM.out hms (outs_C (HO23.out.below (pw_below_drewN (Below.refl _ _) _)) HE1.out HM.out HR.out.small) (outs_C (HO3.out.below (pw_below_drewN (Below.refl _ _) _)) HE3.out HM2.out (by rw [← HM2.out]; exact hms)) HP.out HR.out.ends HR.out.data HR.out.st.bytes rfl HX.out.1 HX.out.2 (by decide) (by decide) HXR.out.1 HXR.out.2
set_option maxHeartbeats 4000000 in
set_option maxRecDepth 100000 in
theorem law_some_32 (w W0 : World) (B s : Nat) (xs : List S39) (rs : List Reg) (x v : Int) (hR : Ready w W0 xs rs s B) (hx0 : 0 ≤ x) (hx1 : x < 18446744073709551616) (hv0 : 0 ≤ v) (hv1 : v < 18446744073709551616) (rs2 : List Reg) (hS : storeOf rs x 32 v = some rs2)
    {y0 y4 y5 y6 y7 y11 y12 y13 y14 y15 y16 y17 y18 y19 y20 y21 y22 y23 y24 y25 y26 y27 y28 y29 y30 y31 y32 y33 y34 y35 y36 y37 y38 y39 y40 y41 y42 y43 y44 y45 y46 y47 y48 y49 y50 y51 y52 y53 y54 y55 y56 y57 y58 y59 y60 y61 y62 y63 y64 y65 y66 y67 y68 y69 y70 y71 y72 y73 y74 y75 y76 y77 y78 y79 y80 y81 y82 y83 y84 y85 y86 y87 y88 y89 y90 y91 y92 y93 y94 y95 y96 y97 y98 y99 y100 y101 y102 y103 y104 y105 y106 y107 y108 y109 y110 y111 y112 y113 y114 y115 y116 y117 y118 y119 y120 y121 y122 y123 y124 y125 y126 y127 y128 y129 y130 y131 y132 y133 y134 y135 y136 y137 y138 y139 y140 y141 y142 y143 y144 y145 y146 y147 y148 y149 y150 y151 y152 y153 y154 y155 y156 y157 y158 y159 y160 y161 y162 y163 y164 y165 y166 y167 y168 y169 y170 y171 y172 y173 y174 y175 y176 y177 y178 y179 y180 y181 y182 y183 y184 y185 y186 y187 y188 y189 y190 y191 y192 y193 y194 y195 y196 y197 y198 y199 y200 y201 y202 y203 y204 y205 y206 y207 y208 y209 y210 y211 y212 y213 y214 y215 y216 y217 y218 y219 y220 y221 y222 y223 y224 y225 y226 y227 y228 y229 y230 y231 y232 y233 y234 y235 : Value} :
    Code.wp Try.prog (postC 3 (Try.f3.body.getD .skip)) (bodyPost Try.prog Try.f3 fun e w' => e = .returned (.bool true) ∧ Below w.heap.size w w') { tmps := #[y0, Value.int .u64 x, Value.int .i64 32, Value.int .u64 v, y4, y5, y6, y7, Value.bool false, Value.pointer (some ⟨s, 0, none⟩), Value.int .i64 0, y11, y12, y13, y14, y15, y16, y17, y18, y19, y20, y21, y22, y23, y24, y25, y26, y27, y28, y29, y30, y31, y32, y33, y34, y35, y36, y37, y38, y39, y40, y41, y42, y43, y44, y45, y46, y47, y48, y49, y50, y51, y52, y53, y54, y55, y56, y57, y58, y59, y60, y61, y62, y63, y64, y65, y66, y67, y68, y69, y70, y71, y72, y73, y74, y75, y76, y77, y78, y79, y80, y81, y82, y83, y84, y85, y86, y87, y88, y89, y90, y91, y92, y93, y94, y95, y96, y97, y98, y99, y100, y101, y102, y103, y104, y105, y106, y107, y108, y109, y110, y111, y112, y113, y114, y115, y116, y117, y118, y119, y120, y121, y122, y123, y124, y125, y126, y127, y128, y129, y130, y131, y132, y133, y134, y135, y136, y137, y138, y139, y140, y141, y142, y143, y144, y145, y146, y147, y148, y149, y150, y151, y152, y153, y154, y155, y156, y157, y158, y159, y160, y161, y162, y163, y164, y165, y166, y167, y168, y169, y170, y171, y172, y173, y174, y175, y176, y177, y178, y179, y180, y181, y182, y183, y184, y185, y186, y187, y188, y189, y190, y191, y192, y193, y194, y195, y196, y197, y198, y199, y200, y201, y202, y203, y204, y205, y206, y207, y208, y209, y210, y211, y212, y213, y214, y215, y216, y217, y218, y219, y220, y221, y222, y223, y224, y225, y226, y227, y228, y229, y230, y231, y232, y233, y234, y235], defers := [] } W0 := by
  obtain ⟨m, hm⟩ : ∃ m, m = rs.length := ⟨_, rfl⟩
  have hms : m ≤ 4398046510976 := by rw [hm]; exact hR.small
  have HM := Lib.hid hm
  have HR := Lib.hid hR
  have HX := Lib.hid (And.intro hx0 hx1)
  have HV := Lib.hid (And.intro hv0 hv1)
  have HS := Lib.hid hS
  have hwb : wb 32 = 4 := by rfl
  have HWB := Lib.hid hwb
  obtain ⟨xm, hxm⟩ : ∃ xm, xm = v % 4294967296 := ⟨_, rfl⟩
  have HXM := Lib.hid (show xm = v % 256 ^ 4 from hxm)
  have kb : Go.bits .and .u64 v 4294967295 = xm := by rw [hxm]; exact mask_32 v hv0 hv1
  have HXR := Lib.hid (show 0 ≤ xm ∧ xm < 18446744073709551616 from by rw [hxm]; omega)
  have hps := pair_some hR.st.rising hR.apt hR.ends x 32 v hx0 hv0 hS xm (by rw [hwb]; exact HXM.out)
  rw [hwb] at hps
  have HP := Lib.hid hps.1
  have HLD := Lib.hid hps.2
  clear hps
  have HM2 := Lib.hid (show m = rs2.length from by rw [HP.out.len]; exact hm)
  have HD2 := Lib.hid (show ∀ r ∈ rs2, r.data.length ≤ 140737488351232 from fun r hr => by
    obtain ⟨i, hi, rfl⟩ := List.getElem_of_mem hr
    obtain ⟨_, _, h⟩ := HP.out.first i (by rw [← HP.out.len]; exact hi)
    rw [h]; exact hR.data _ (List.getElem_mem _))
  have HSTORE := Lib.hid (show ∀ W, St B W s rs → Calls Try.prog 11 #[.pointer (some ⟨s, 0, none⟩), .int .u64 x, .int .i64 32, .int .u64 v] W fun e w' => StoreRes (some rs2) rs B W s e w' from fun W hW => by
    have h := store_ B W s rs x 32 v hW hx0 hx1 hv0 hv1
    rw [hS] at h
    exact h)
  have HHELD := Lib.hid (show ∀ W A c, Kd.C k39 W A m (rs.map s39) → m ≤ c → Calls Try.prog 13 #[.slice A m c, .int .u64 x, .int .u64 4] W fun e w' => e = .returned (.bool true) ∧ Drawn0 W w' from fun W A c h1 h2 => by
    subst hm
    have h := held_ W A c rs x 4 h1 h2 hR.st.rising hR.apt hR.ends hR.st.bytes hx0 hx1 (by decide) (by decide) hR.small
    rw [← hwb, store_held (v := v), hS, hwb] at h
    exact h)
  clear hm hR hx0 hx1 hv0 hv1 hS hwb hxm
  unfold Try.f3
  dsimp only [Option.getD, postC]
  refine wp_seq_k (fun K hK => ?_)
  have HK := Lib.hid hK
  clear hK
  go_wp2_with (go_at_call 10; refine (told2_ B _ s rs m HM.out HR.out.st HR.out.small HR.out.data).mono ?_; rintro e w1 ⟨A1, c1, os1, rfl, hc1, ho1, he1, hb1⟩; have HO1 := Lib.hid ho1; have HE1 := Lib.hid he1; have HB1 := Lib.hid hb1; clear ho1 he1 hb1)
  refine HK.out _ _ ?_
  clear HK K
  refine wp_seq_k (fun K hK => ?_)
  have HK := Lib.hid hK
  clear hK
  go_wp2_with (go_at_call 11; refine (HSTORE.out _ (HR.out.st.below HB1.out)).mono ?_; rintro e w2 ⟨rfl, hst2, hbb2, d2, ⟨q2, hq2, hl2, ha2⟩, hO2⟩; have HST2 := Lib.hid hst2; have HO2 := Lib.hid (HO1.out.only hO2 (HR.out.st.dlt hq2 hl2 ha2)); have HBB2 := Lib.hid ((HR.out.b.trans (HB1.out.mono HR.out.b.size)).trans (hbb2.mono HR.out.low)); clear hst2 hbb2 hq2 hl2 ha2 hO2)
  refine HK.out _ _ ?_
  clear HK K
  refine wp_seq_k (fun K hK => ?_)
  have HK := Lib.hid hK
  clear hK
  go_wp2_with (go_at_call 10; refine (told2_ B _ s rs2 m HM2.out HST2.out (by rw [← HM2.out]; exact hms) HD2.out).mono ?_; rintro e w3 ⟨A2, c2, os2, rfl, hc2, ho3, he3, hb3⟩; have HO3 := Lib.hid ho3; have HE3 := Lib.hid he3; have HB3 := Lib.hid hb3; clear ho3 he3 hb3)
  refine HK.out _ _ ?_
  clear HK K
  have HO23 := Lib.hid (HO2.out.below HB3.out)
  have HST3 := Lib.hid (HST2.out.below HB3.out)
  have HBB3 := Lib.hid (HBB2.out.trans (HB3.out.mono HBB2.out.size))
  refine wp_seq_k (fun K hK => ?_)
  have HK := Lib.hid hK
  clear hK
  go_wp2_with (go_at_call 12; refine (load_ _ s rs2 x 32 HST3.out.space HST3.out.rising HST3.out.bytes HX.out.1 HX.out.2).mono ?_; rintro e w4 ⟨rfl, ⟨nd4, rfl⟩⟩; rw [HLD.out])
  refine HK.out _ _ ?_
  clear HK K
  refine wp_seq_k (fun K hK => ?_)
  have HK := Lib.hid hK
  clear hK
  go_wp2
  refine HK.out _ _ ?_
  clear HK K
  refine wp_seq_k (fun K hK => ?_)
  have HK := Lib.hid hK
  clear hK
  go_wp2
  refine HK.out _ _ ?_
  clear HK K
  refine wp_seq_k (fun K hK => ?_)
  have HK := Lib.hid hK
  clear hK
  go_wp2
  refine HK.out _ _ ?_
  clear HK K
  have HC1 := Lib.hid (outs_C (HO23.out.below (pw_below_drewN (Below.refl _ _) nd4)) HE1.out HM.out HR.out.small)
  have HC2 := Lib.hid (outs_C (HO3.out.below (pw_below_drewN (Below.refl _ _) nd4)) HE3.out HM2.out (by rw [← HM2.out]; exact hms))
  refine wp_seq_k (fun K hK => ?_)
  have HK := Lib.hid hK
  clear hK
  go_wp2_with (go_at_call 13; refine (HHELD.out _ A1 c1 HC1.out hc1).mono ?_; rintro e w5 ⟨rfl, ⟨nd5, rfl⟩⟩)
  refine HK.out _ _ ?_
  clear HK K
  refine wp_seq_k (fun K hK => ?_)
  have HK := Lib.hid hK
  clear hK
  go_wp2
  refine HK.out _ _ ?_
  clear HK K
  exact tail_ w _ (B := B) (s := s) (m := m) (x := x) (xm := xm) (kk := 4) (fv := 0) (A1 := A1) (A2 := A2) (c1 := c1) (c2 := c2) (rs := rs) (rs2 := rs2) (ok := true) (pw_below_drewN HBB3.out _) (HST3.out.drewN _) HM.out hms (outs_C (HO23.out.below (pw_below_drewN (Below.refl _ _) _)) HE1.out HM.out HR.out.small) (outs_C (HO3.out.below (pw_below_drewN (Below.refl _ _) _)) HE3.out HM2.out (by rw [← HM2.out]; exact hms)) HP.out HR.out.ends HR.out.data HR.out.st.bytes rfl HX.out.1 HX.out.2 (by decide) (by decide) HXR.out.1 HXR.out.2
set_option maxHeartbeats 4000000 in
set_option maxRecDepth 100000 in
theorem law_some_64 (w W0 : World) (B s : Nat) (xs : List S39) (rs : List Reg) (x width v : Int) (hR : Ready w W0 xs rs s B) (hx0 : 0 ≤ x) (hx1 : x < 18446744073709551616) (hv0 : 0 ≤ v) (hv1 : v < 18446744073709551616) (rs2 : List Reg) (hS : storeOf rs x width v = some rs2) (n8 : ¬ width = 8) (n16 : ¬ width = 16) (n32 : ¬ width = 32)
    {y0 y4 y5 y6 y7 y11 y12 y13 y14 y15 y16 y17 y18 y19 y20 y21 y22 y23 y24 y25 y26 y27 y28 y29 y30 y31 y32 y33 y34 y35 y36 y37 y38 y39 y40 y41 y42 y43 y44 y45 y46 y47 y48 y49 y50 y51 y52 y53 y54 y55 y56 y57 y58 y59 y60 y61 y62 y63 y64 y65 y66 y67 y68 y69 y70 y71 y72 y73 y74 y75 y76 y77 y78 y79 y80 y81 y82 y83 y84 y85 y86 y87 y88 y89 y90 y91 y92 y93 y94 y95 y96 y97 y98 y99 y100 y101 y102 y103 y104 y105 y106 y107 y108 y109 y110 y111 y112 y113 y114 y115 y116 y117 y118 y119 y120 y121 y122 y123 y124 y125 y126 y127 y128 y129 y130 y131 y132 y133 y134 y135 y136 y137 y138 y139 y140 y141 y142 y143 y144 y145 y146 y147 y148 y149 y150 y151 y152 y153 y154 y155 y156 y157 y158 y159 y160 y161 y162 y163 y164 y165 y166 y167 y168 y169 y170 y171 y172 y173 y174 y175 y176 y177 y178 y179 y180 y181 y182 y183 y184 y185 y186 y187 y188 y189 y190 y191 y192 y193 y194 y195 y196 y197 y198 y199 y200 y201 y202 y203 y204 y205 y206 y207 y208 y209 y210 y211 y212 y213 y214 y215 y216 y217 y218 y219 y220 y221 y222 y223 y224 y225 y226 y227 y228 y229 y230 y231 y232 y233 y234 y235 : Value} :
    Code.wp Try.prog (postC 3 (Try.f3.body.getD .skip)) (bodyPost Try.prog Try.f3 fun e w' => e = .returned (.bool true) ∧ Below w.heap.size w w') { tmps := #[y0, Value.int .u64 x, Value.int .i64 width, Value.int .u64 v, y4, y5, y6, y7, Value.bool false, Value.pointer (some ⟨s, 0, none⟩), Value.int .i64 0, y11, y12, y13, y14, y15, y16, y17, y18, y19, y20, y21, y22, y23, y24, y25, y26, y27, y28, y29, y30, y31, y32, y33, y34, y35, y36, y37, y38, y39, y40, y41, y42, y43, y44, y45, y46, y47, y48, y49, y50, y51, y52, y53, y54, y55, y56, y57, y58, y59, y60, y61, y62, y63, y64, y65, y66, y67, y68, y69, y70, y71, y72, y73, y74, y75, y76, y77, y78, y79, y80, y81, y82, y83, y84, y85, y86, y87, y88, y89, y90, y91, y92, y93, y94, y95, y96, y97, y98, y99, y100, y101, y102, y103, y104, y105, y106, y107, y108, y109, y110, y111, y112, y113, y114, y115, y116, y117, y118, y119, y120, y121, y122, y123, y124, y125, y126, y127, y128, y129, y130, y131, y132, y133, y134, y135, y136, y137, y138, y139, y140, y141, y142, y143, y144, y145, y146, y147, y148, y149, y150, y151, y152, y153, y154, y155, y156, y157, y158, y159, y160, y161, y162, y163, y164, y165, y166, y167, y168, y169, y170, y171, y172, y173, y174, y175, y176, y177, y178, y179, y180, y181, y182, y183, y184, y185, y186, y187, y188, y189, y190, y191, y192, y193, y194, y195, y196, y197, y198, y199, y200, y201, y202, y203, y204, y205, y206, y207, y208, y209, y210, y211, y212, y213, y214, y215, y216, y217, y218, y219, y220, y221, y222, y223, y224, y225, y226, y227, y228, y229, y230, y231, y232, y233, y234, y235], defers := [] } W0 := by
  obtain ⟨m, hm⟩ : ∃ m, m = rs.length := ⟨_, rfl⟩
  have hms : m ≤ 4398046510976 := by rw [hm]; exact hR.small
  have HM := Lib.hid hm
  have HR := Lib.hid hR
  have HX := Lib.hid (And.intro hx0 hx1)
  have HV := Lib.hid (And.intro hv0 hv1)
  have HS := Lib.hid hS
  have hwb : wb width = 8 := by unfold wb; rw [if_neg n8, if_neg n16, if_neg n32]
  have HWB := Lib.hid hwb
  have b8 : (width == 8) = false := beq_eq_false_iff_ne.mpr n8
  have b16 : (width == 16) = false := beq_eq_false_iff_ne.mpr n16
  have b32 : (width == 32) = false := beq_eq_false_iff_ne.mpr n32
  obtain ⟨xm, hxm⟩ : ∃ xm, xm = v := ⟨_, rfl⟩
  have HXM := Lib.hid (show xm = v % 256 ^ 8 from by rw [hxm]; exact (Int.emod_eq_of_lt hv0 hv1).symm)
  have hxv := hxm
  have HXR := Lib.hid (show 0 ≤ xm ∧ xm < 18446744073709551616 from by rw [hxm]; exact ⟨hv0, hv1⟩)
  have hps := pair_some hR.st.rising hR.apt hR.ends x width v hx0 hv0 hS xm (by rw [hwb]; exact HXM.out)
  rw [hwb] at hps
  have HP := Lib.hid hps.1
  have HLD := Lib.hid hps.2
  clear hps
  have HM2 := Lib.hid (show m = rs2.length from by rw [HP.out.len]; exact hm)
  have HD2 := Lib.hid (show ∀ r ∈ rs2, r.data.length ≤ 140737488351232 from fun r hr => by
    obtain ⟨i, hi, rfl⟩ := List.getElem_of_mem hr
    obtain ⟨_, _, h⟩ := HP.out.first i (by rw [← HP.out.len]; exact hi)
    rw [h]; exact hR.data _ (List.getElem_mem _))
  have HSTORE := Lib.hid (show ∀ W, St B W s rs → Calls Try.prog 11 #[.pointer (some ⟨s, 0, none⟩), .int .u64 x, .int .i64 width, .int .u64 v] W fun e w' => StoreRes (some rs2) rs B W s e w' from fun W hW => by
    have h := store_ B W s rs x width v hW hx0 hx1 hv0 hv1
    rw [hS] at h
    exact h)
  have HHELD := Lib.hid (show ∀ W A c, Kd.C k39 W A m (rs.map s39) → m ≤ c → Calls Try.prog 13 #[.slice A m c, .int .u64 x, .int .u64 8] W fun e w' => e = .returned (.bool true) ∧ Drawn0 W w' from fun W A c h1 h2 => by
    subst hm
    have h := held_ W A c rs x 8 h1 h2 hR.st.rising hR.apt hR.ends hR.st.bytes hx0 hx1 (by decide) (by decide) hR.small
    rw [← hwb, store_held (v := v), hS, hwb] at h
    exact h)
  clear hm hR hx0 hx1 hv0 hv1 hS hwb hxm n8 n16 n32
  unfold Try.f3
  dsimp only [Option.getD, postC]
  refine wp_seq_k (fun K hK => ?_)
  have HK := Lib.hid hK
  clear hK
  go_wp2_with (go_at_call 10; refine (told2_ B _ s rs m HM.out HR.out.st HR.out.small HR.out.data).mono ?_; rintro e w1 ⟨A1, c1, os1, rfl, hc1, ho1, he1, hb1⟩; have HO1 := Lib.hid ho1; have HE1 := Lib.hid he1; have HB1 := Lib.hid hb1; clear ho1 he1 hb1)
  refine HK.out _ _ ?_
  clear HK K
  refine wp_seq_k (fun K hK => ?_)
  have HK := Lib.hid hK
  clear hK
  go_wp2_with (go_at_call 11; refine (HSTORE.out _ (HR.out.st.below HB1.out)).mono ?_; rintro e w2 ⟨rfl, hst2, hbb2, d2, ⟨q2, hq2, hl2, ha2⟩, hO2⟩; have HST2 := Lib.hid hst2; have HO2 := Lib.hid (HO1.out.only hO2 (HR.out.st.dlt hq2 hl2 ha2)); have HBB2 := Lib.hid ((HR.out.b.trans (HB1.out.mono HR.out.b.size)).trans (hbb2.mono HR.out.low)); clear hst2 hbb2 hq2 hl2 ha2 hO2)
  refine HK.out _ _ ?_
  clear HK K
  refine wp_seq_k (fun K hK => ?_)
  have HK := Lib.hid hK
  clear hK
  go_wp2_with (go_at_call 10; refine (told2_ B _ s rs2 m HM2.out HST2.out (by rw [← HM2.out]; exact hms) HD2.out).mono ?_; rintro e w3 ⟨A2, c2, os2, rfl, hc2, ho3, he3, hb3⟩; have HO3 := Lib.hid ho3; have HE3 := Lib.hid he3; have HB3 := Lib.hid hb3; clear ho3 he3 hb3)
  refine HK.out _ _ ?_
  clear HK K
  have HO23 := Lib.hid (HO2.out.below HB3.out)
  have HST3 := Lib.hid (HST2.out.below HB3.out)
  have HBB3 := Lib.hid (HBB2.out.trans (HB3.out.mono HBB2.out.size))
  refine wp_seq_k (fun K hK => ?_)
  have HK := Lib.hid hK
  clear hK
  go_wp2_with (go_at_call 12; refine (load_ _ s rs2 x width HST3.out.space HST3.out.rising HST3.out.bytes HX.out.1 HX.out.2).mono ?_; rintro e w4 ⟨rfl, ⟨nd4, rfl⟩⟩; rw [HLD.out])
  refine HK.out _ _ ?_
  clear HK K
  refine wp_seq_k (fun K hK => ?_)
  have HK := Lib.hid hK
  clear hK
  go_wp2
  refine HK.out _ _ ?_
  clear HK K
  refine wp_seq_k (fun K hK => ?_)
  have HK := Lib.hid hK
  clear hK
  go_wp2
  refine HK.out _ _ ?_
  clear HK K
  refine wp_seq_k (fun K hK => ?_)
  have HK := Lib.hid hK
  clear hK
  go_wp2
  refine HK.out _ _ ?_
  clear HK K
  have HC1 := Lib.hid (outs_C (HO23.out.below (pw_below_drewN (Below.refl _ _) nd4)) HE1.out HM.out HR.out.small)
  have HC2 := Lib.hid (outs_C (HO3.out.below (pw_below_drewN (Below.refl _ _) nd4)) HE3.out HM2.out (by rw [← HM2.out]; exact hms))
  refine wp_seq_k (fun K hK => ?_)
  have HK := Lib.hid hK
  clear hK
  go_wp2_with (go_at_call 13; refine (HHELD.out _ A1 c1 HC1.out hc1).mono ?_; rintro e w5 ⟨rfl, ⟨nd5, rfl⟩⟩)
  refine HK.out _ _ ?_
  clear HK K
  refine wp_seq_k (fun K hK => ?_)
  have HK := Lib.hid hK
  clear hK
  go_wp2
  refine HK.out _ _ ?_
  clear HK K
  subst hxv
  exact tail_ w _ (B := B) (s := s) (m := m) (x := x) (xm := xm) (kk := 8) (fv := 0) (A1 := A1) (A2 := A2) (c1 := c1) (c2 := c2) (rs := rs) (rs2 := rs2) (ok := true) (pw_below_drewN HBB3.out _) (HST3.out.drewN _) HM.out hms (outs_C (HO23.out.below (pw_below_drewN (Below.refl _ _) _)) HE1.out HM.out HR.out.small) (outs_C (HO3.out.below (pw_below_drewN (Below.refl _ _) _)) HE3.out HM2.out (by rw [← HM2.out]; exact hms)) HP.out HR.out.ends HR.out.data HR.out.st.bytes rfl HX.out.1 HX.out.2 (by decide) (by decide) HXR.out.1 HXR.out.2
set_option maxHeartbeats 4000000 in
set_option maxRecDepth 100000 in
theorem stored_ (w : World) (A : Option Addr) (n c : Nat) (xs : List S39) (x width v : Int) (hC : Kd.C k39 w A n xs) (hc : n ≤ c) (hF : ∀ x ∈ xs, Fits x) (hl : n ≤ 4398046510976) (hd : ∀ x ∈ xs, x.f1.length ≤ 140737488351232) (hx0 : 0 ≤ x) (hx1 : x < 18446744073709551616) (hv0 : 0 ≤ v) (hv1 : v < 18446744073709551616) :
    Calls Try.prog 3 #[.slice A n c, .int .u64 x, .int .i64 width, .int .u64 v] w fun e w' => e = .returned (.bool true) ∧ Below w.heap.size w w' := by
  have HC := Lib.hid hC
  have HCC := Lib.hid hc
  have HF := Lib.hid hF
  have HL := Lib.hid hl
  have HD := Lib.hid hd
  have HN := Lib.hid hC.1
  have HX := Lib.hid (And.intro (And.intro hx0 hx1) (And.intro hv0 hv1))
  clear hC hc hF hl hd hx0 hx1 hv0 hv1
  go_enter Try.func3, Try.ntmps3
  refine wp_seq_k (fun K hK => ?_)
  have HK := Lib.hid hK
  clear hK
  go_wp2
  refine HK.out _ _ ?_
  clear HK K
  refine wp_seq_k (fun K hK => ?_)
  have HK := Lib.hid hK
  clear hK
  go_wp2_with (first | (go_at_call 8; refine (copy_ _ A n c xs HC.out HCC.out (by rw [HN.out]; exact HL.out) HD.out).mono ?_; rintro e w1 ⟨A1, c1, rfl, hk, hb⟩; have HK1 := Lib.hid hk; have HB1 := Lib.hid hb; clear hk hb) | (go_at_call 7; refine (new2_ _ A1 n c1 xs HK1.out HF.out HL.out).mono ?_; rintro e w2 ⟨P0, c0, rfl, hn⟩; have HNEW := Lib.hid hn; clear hn))
  refine HK.out _ _ ?_
  clear HK K
  rcases HNEW.out with ⟨rfl, s, rs, rfl, hA, hS, hB⟩ | ⟨rfl, rfl, hB⟩
  · have hg := adds_good hA HF.out
    have HR := Lib.hid (show Ready w w2 xs rs s w1.heap.size from ⟨HB1.out.size, HB1.out.trans (hB.mono HB1.out.size), hS, hg.1, hg.2, by rw [hA.len, HN.out]; exact HL.out, adds_data hA HD.out⟩)
    clear hA hS hB hg HNEW
    refine wp_seq_k (fun K hK => ?_)
    have HK := Lib.hid hK
    clear hK
    go_wp2
    refine HK.out _ _ ?_
    clear HK K
    obtain ⟨⟨x0, x1⟩, ⟨v0, v1⟩⟩ := HX.out
    by_cases h8 : width = 8
    · subst h8
      cases hS : storeOf rs x 8 v with
      | none => exact law_none_8 w w2 w1.heap.size s xs rs x v HR.out x0 x1 v0 v1 hS
      | some rs2 => exact law_some_8 w w2 w1.heap.size s xs rs x v HR.out x0 x1 v0 v1 rs2 hS
    by_cases h16 : width = 16
    · subst h16
      cases hS : storeOf rs x 16 v with
      | none => exact law_none_16 w w2 w1.heap.size s xs rs x v HR.out x0 x1 v0 v1 hS
      | some rs2 => exact law_some_16 w w2 w1.heap.size s xs rs x v HR.out x0 x1 v0 v1 rs2 hS
    by_cases h32 : width = 32
    · subst h32
      cases hS : storeOf rs x 32 v with
      | none => exact law_none_32 w w2 w1.heap.size s xs rs x v HR.out x0 x1 v0 v1 hS
      | some rs2 => exact law_some_32 w w2 w1.heap.size s xs rs x v HR.out x0 x1 v0 v1 rs2 hS
    cases hS : storeOf rs x width v with
    | none => exact law_none_64 w w2 w1.heap.size s xs rs x width v HR.out x0 x1 v0 v1 hS h8 h16 h32
    | some rs2 => exact law_some_64 w w2 w1.heap.size s xs rs x width v HR.out x0 x1 v0 v1 rs2 hS h8 h16 h32
  · have HB2 := Lib.hid (HB1.out.trans (hB.mono HB1.out.size))
    clear hB HNEW
    go_wp2_with (go_at_call 9; refine (awake_ _).mono ?_; rintro e w3 ⟨rfl, hb3⟩; have HB3 := Lib.hid hb3; clear hb3)
    go_ret
    exact ⟨rfl, HB2.out.trans (HB3.out.mono HB2.out.size)⟩
end Go.Proofs.Ythmeojeehemlaaa.Mem
