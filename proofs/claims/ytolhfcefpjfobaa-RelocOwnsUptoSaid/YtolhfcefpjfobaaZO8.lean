/- Parts of the proof, laid together by a program of this session (pack.py): Sh8, Sh9, ShA, ShB, ShC, Sh5, LO1, LO2, LO3. -/
import Derived.Test.YtolhfcefpjfobaaZO7
section
namespace Go.Proofs.Ytolhfcefpjfobaa.Bk
open Go.RowKit Go.Proofs.YtolhfcefpjfobaaW.PrintWords Go.Proofs.Ytolhfcefpjfobaa.Lend Go.Proofs.Ytolhfcefpjfobaa.PR
set_option linter.unusedVariables false
set_option linter.unusedSimpArgs false
attribute [local go_sem] isSome_setCell
theorem Sk.clear {w : World} {p : Nat} {c t : Int} {v : Fin 4 → Value} {ct : Fin 4 → List Value} (h : Sk w p c t v ct) (i : Fin 4) (k : Nat) (hk : k = 3 + i.val) :
    Sk (w.setCell ⟨p, k, none⟩ (.slice none 0 0)) p c t (upe v i (.slice none 0 0)) (upe ct i []) ∧ Ch w (w.setCell ⟨p, k, none⟩ (.slice none 0 0)) (fun g => g = p) ∧ ∀ g, Own4 p (upe v i (.slice none 0 0)) g → Own4 p v g := by
  subst hk
  have hc : Ch w (w.setCell ⟨p, 3 + i.val, none⟩ (.slice none 0 0)) (fun g => g = p) := (Ch.refl w _).set_ _ _ (.inl rfl)
  refine ⟨⟨?_, fun j => ?_, fun j k hjk g hg hg2 => ?_⟩, hc, fun g hg => ?_⟩
  · rw [← hds_set]; exact h.hd.set_ _ _
  · by_cases hj : j = i
    · subst hj
      rw [upe_same, upe_same]
      exact Row.nil _ _
    · rw [upe_other _ _ hj, upe_other _ _ hj]
      exact (h.row j).ch hc fun g hg e => h.off j (e ▸ hg)
  · by_cases hj : j = i
    · rw [hj, upe_same] at hg; simp [Value.ownBlock] at hg
    · by_cases hk : k = i
      · rw [hk, upe_same] at hg2; simp [Value.ownBlock] at hg2
      · rw [upe_other _ _ hj] at hg
        rw [upe_other _ _ hk] at hg2
        exact h.apart j k hjk g hg hg2
  · rcases hg with e | ⟨j, hj⟩
    · exact .inl e
    · by_cases hji : j = i
      · rw [hji, upe_same] at hj; simp [Value.ownBlock] at hj
      · rw [upe_other _ _ hji] at hj
        exact .inr ⟨j, hj⟩
theorem Sk.head {w : World} {p : Nat} {c t c' t' : Int} {v : Fin 4 → Value} {ct : Fin 4 → List Value} (h : Sk w p c t v ct) (k : Nat) (x : Value) (hk : (hds c t v).setIfInBounds k x = hds c' t' v) :
    Sk (w.setCell ⟨p, k, none⟩ x) p c' t' v ct ∧ Ch w (w.setCell ⟨p, k, none⟩ x) (fun g => g = p) := by
  have hc : Ch w (w.setCell ⟨p, k, none⟩ x) (fun g => g = p) := (Ch.refl w _).set_ _ _ (.inl rfl)
  refine ⟨⟨?_, fun i => (h.row i).ch hc fun g hg e => h.off i (e ▸ hg), h.apart⟩, hc⟩
  rw [← hk]
  exact h.hd.set_ _ _
theorem Sk.count {w : World} {p : Nat} {c t : Int} {v : Fin 4 → Value} {ct : Fin 4 → List Value} (h : Sk w p c t v ct) (c' : Int) :
    Sk (w.setCell ⟨p, 0, none⟩ (.int .i64 c')) p c' t v ct ∧ Ch w (w.setCell ⟨p, 0, none⟩ (.int .i64 c')) (fun g => g = p) := h.head 0 _ rfl
theorem Sk.total {w : World} {p : Nat} {c t : Int} {v : Fin 4 → Value} {ct : Fin 4 → List Value} (h : Sk w p c t v ct) (t' : Int) :
    Sk (w.setCell ⟨p, 1, none⟩ (.int .i64 t')) p c t' v ct ∧ Ch w (w.setCell ⟨p, 1, none⟩ (.int .i64 t')) (fun g => g = p) := h.head 1 _ rfl
theorem Sk.drew {w : World} {p : Nat} {c t : Int} {v : Fin 4 → Value} {ct : Fin 4 → List Value} (h : Sk w p c t v ct) : Sk w.drew p c t v ct := ⟨h.hd, h.row, h.apart⟩
/-- what write leaves -/
def Done35 (w0 : World) (p : Nat) (t : Int) (v : Fin 4 → Value) (ct : Fin 4 → List Value) (e : Ending) (w' : World) : Prop :=
  e = .returned (.tuple #[]) ∧ ∃ c' v' ks ms, Sk w' p c' t v' (uz ks ms) ∧ Marked w' ks ms ∧ ks.length = (ct 2).length + 4 * (ct 0).length ∧ Ch w0 w' (Wr4 p v ct) ∧ ∀ g, Foot4 p v' (uz ks ms) g → Foot4 p v ct g ∨ w0.heap.size ≤ g

set_option maxHeartbeats 4000000 in
set_option maxRecDepth 100000 in
theorem U5 (w0 wr : World) (p : Nat) (c t : Int) (v : Fin 4 → Value) (ct : Fin 4 → List Value) (v' : Fin 4 → Value) (ks ms : List Value) (h : Mid4 w0 wr p c t v ct v' ks ms (ct 0).length) (hl : ks.length = (ct 2).length + 4 * (ct 0).length) (hs0 : (ct 0).length ≤ 900000) {y1 y2 y3 y4 y5 y6 y7 y8 y9 y10 y11 y12 y13 y14 y15 y16 y17 y18 y19 y20 y21 y22 y23 y24 y25 y26 y27 y28 y29 y30 y31 y32 y33 y34 y35 y36 y37 y38 y39 y40 y41 y42 y43 y44 y45 y46 y47 y48 y49 y50 y51 y52 y53 y54 y55 y56 y57 y58 y59 y60 y61 y62 y63 y64 y65 y66 y67 y68 y69 y70 y71 y72 y73 y74 y75 y76 y77 y78 y79 y80 y81 y82 y83 y84 y85 y86 y87 y88 y89 y90 y91 y92 y93 y94 y95 y96 y97 y98 y99 y100 y101 y102 y103 y104 y105 y106 y107 y108 y109 y110 y111 y112 y113 y114 y115 y116 y117 y118 y119 y120 y121 y122 y123 y124 y125 y126 y127 y128 y129 y130 y131 y132 y133 y134 y135 y136 y137 y138 y139 : Value} :
    Code.wp Try.prog (postC 3 (Try.f35.body.getD .skip)) (bodyPost Try.prog Try.f35 (Done35 w0 p t v ct)) { tmps := #[(.pointer (some ⟨p, 0, none⟩)), y1, y2, y3, y4, y5, y6, y7, y8, y9, y10, y11, y12, y13, y14, y15, y16, y17, y18, y19, y20, y21, y22, y23, y24, y25, y26, y27, y28, y29, y30, y31, y32, y33, y34, y35, y36, y37, y38, y39, y40, y41, y42, y43, y44, y45, y46, y47, y48, y49, y50, y51, y52, y53, y54, y55, y56, y57, y58, y59, y60, y61, y62, y63, y64, y65, y66, y67, y68, y69, y70, y71, y72, y73, y74, y75, y76, y77, y78, y79, y80, y81, y82, y83, y84, y85, y86, y87, y88, y89, y90, y91, y92, y93, y94, y95, y96, y97, y98, y99, y100, y101, y102, y103, y104, y105, y106, y107, y108, y109, y110, y111, y112, y113, y114, y115, y116, y117, y118, y119, y120, y121, y122, y123, y124, y125, y126, y127, y128, y129, y130, y131, y132, y133, y134, y135, y136, y137, y138, y139], defers := [] } wr := by
  have h9 := h.sk.drew.count (wrap64 (c + ((ct 0).length : Nat)))
  have h0 := h9.1.clear 0 3 rfl
  have h1 := h0.1.clear 1 4 rfl
  have hch : Ch wr (((wr.drew.setCell ⟨p, 0, none⟩ (.int .i64 (wrap64 (c + ((ct 0).length : Nat))))).setCell ⟨p, 3, none⟩ (.slice none 0 0)).setCell ⟨p, 4, none⟩ (.slice none 0 0)) (fun g => g = p) := ((((Ch.refl wr (fun g => g = p)).drew.trans h9.2 fun g hg => .inl hg).trans h0.2.1 fun g hg => .inl hg)).trans h1.2.1 fun g hg => .inl hg
  have hkw := h.kw.ch hch fun u hu g hg e => by
    subst e
    obtain ⟨n, m, hr⟩ := h.kw.rows hu
    exact h.sk.sep hr hg (.inl rfl)
  have hsk : Sk _ p _ t _ (uz ks ms) := uz_tz ct ks ms ▸ h1.1
  have hown : ∀ g, Own4 p _ g → Own4 p v' g := fun g hg => h0.2.2 g (h1.2.2 g hg)
  have hdone : Done35 w0 p t v ct (.returned (.tuple #[])) (((wr.drew.setCell ⟨p, 0, none⟩ (.int .i64 (wrap64 (c + ((ct 0).length : Nat))))).setCell ⟨p, 3, none⟩ (.slice none 0 0)).setCell ⟨p, 4, none⟩ (.slice none 0 0)) := by
    refine ⟨rfl, _, _, ks, ms, hsk, hkw, hl, h.ch.trans hch fun g hg => ?_, fun g hg => ?_⟩
    · rw [hg]
      exact (h.own p (.inl rfl)).imp (fun h => .inl h) id
    · rcases hg with hg | hg | hg | hg
      · exact (h.own g (hown g hg)).imp (fun h => .inl h) id
      · obtain ⟨j, u, _, hu, _⟩ := hg; simp [uz] at hu
      · obtain ⟨j, u, _, hu, _⟩ := hg; simp [uz] at hu
      · obtain ⟨j, u, _, hu, hgu⟩ := hg
        exact (h.sep u (List.mem_of_getElem? hu) g hgu).2
  have c0 := h.sk.hd.cell 0
  have f0 := h.sk.hd.frozen 0
  have c3 := h.sk.hd.cell 3
  have f3 := h.sk.hd.frozen 3
  have c4 := h.sk.hd.cell 4
  have f4 := h.sk.hd.frozen 4
  simp only [hds, List.getElem?_toArray, List.getElem?_cons_zero, List.getElem?_cons_succ] at c0 c3 c4
  obtain ⟨A0, k0, hv0, _⟩ := (h.sk.row 0).form
  rw [hv0] at c3
  have e0 : (tz ct ks ms 0).length = (ct 0).length := rfl
  rw [e0] at c3
  obtain ⟨n, hn⟩ : ∃ n, n = (ct 0).length := ⟨_, rfl⟩
  rw [← hn] at c3 hdone hs0
  have HD := Lib.hid hdone
  clear h h0 h1 hkw hsk hown hch hdone h9 hl hv0 e0 hn
  unfold Try.f35
  dsimp only [Option.getD, postC]
  go_wp2
  go_region
  all_goals
    go_wp2
    refine bodyPost_end (results_none rfl _ _ _) rfl ?_
    exact HD.out

end Go.Proofs.Ytolhfcefpjfobaa.Bk
end
section
namespace Go.Proofs.Ytolhfcefpjfobaa.Bk
open Go.RowKit Go.Proofs.YtolhfcefpjfobaaW.PrintWords Go.Proofs.Ytolhfcefpjfobaa.Lend Go.Proofs.Ytolhfcefpjfobaa.PR
set_option linter.unusedVariables false
set_option linter.unusedSimpArgs false
attribute [local go_sem] isSome_setCell
theorem four_at {ks : List Value} {l u1 u2 u3 x : Value} {i : Nat} (h : (ks ++ [l, u1, u2, u3])[i]? = some x) : (i < ks.length ∧ ks[i]? = some x) ∨ (i = ks.length ∧ x = l) ∨ (i = ks.length + 1 ∧ x = u1) ∨ (i = ks.length + 2 ∧ x = u2) ∨ (i = ks.length + 3 ∧ x = u3) := by
  by_cases hi : i < ks.length
  · rw [List.getElem?_append_left hi] at h
    exact .inl ⟨hi, h⟩
  · have h2 := (List.getElem?_eq_some_iff.1 h).1
    rw [List.getElem?_append_right (by omega)] at h
    obtain ⟨j, hj⟩ : ∃ j, j = i - ks.length := ⟨_, rfl⟩
    rw [← hj] at h
    simp at h2
    match j, h with
    | 0, h => exact .inr (.inl ⟨by omega, by simpa using h.symm⟩)
    | 1, h => exact .inr (.inr (.inl ⟨by omega, by simpa using h.symm⟩))
    | 2, h => exact .inr (.inr (.inr (.inl ⟨by omega, by simpa using h.symm⟩)))
    | 3, h => exact .inr (.inr (.inr (.inr ⟨by omega, by simpa using h.symm⟩)))
    | j + 4, h => omega
theorem Mid4.next {w0 wr W w1 : World} {p : Nat} {c t m : Int} {v v' v2 : Fin 4 → Value} {ct : Fin 4 → List Value} {ks ms : List Value} {k n K : Nat} {l u1 u2 u3 x3 : Value} {o : Obj} (h : Mid4 w0 wr p c t v ct v' ks ms k) (hu : (ct 0)[k]? = some l) (hq : Quad wr W p v' v2 l u1 u2 u3 n K m) (hsk : Sk W p c t v2 (tz ct (ks ++ [l, u1, u2, u3]) ms))
    (hA : App (W.alloc o) w1 0 3 (v2 3) x3 ms [.int .i64 m, .int .i64 m, .int .i64 m, .int .i64 m]) (hnK : n + K ≤ 4398046511104) (hn2 : n ≤ 4398046511000)
    (hap : ∀ (i j : Nat) (u x : Value) (g : Nat), (ct 0)[i]? = some u → (ct 0)[j]? = some x → i ≠ j → u.ownBlock = some g → x.ownBlock ≠ some g) (hfb : ∀ g, Fb (ct 0) 0 g → g < w0.heap.size) :
    ∃ v3, Mid4 w0 (w1.setCell ⟨p, 6, none⟩ x3) p c t v ct v3 (ks ++ [l, u1, u2, u3]) (ms ++ [.int .i64 m, .int .i64 m, .int .i64 m, .int .i64 m]) (k + 1) := by
  have hb := (hsk.alloc o).app 3 hA 6 rfl
  have hWF : Ch W (w1.setCell ⟨p, 6, none⟩ x3) (Own4 p v2) := ((Ch.refl W (Own4 p v2)).alloc o).trans hb.2.1 fun g hg => .inl hg
  have ha : Ch W (W.alloc o) Never := (Ch.refl W Never).alloc o
  have hrF : Ch wr (w1.setCell ⟨p, 6, none⟩ x3) (fun g => Own4 p v' g ∨ l.ownBlock = some g) := hq.ch.trans hWF fun g hg => (hq.own g hg).imp .inl id
  have lk : ∀ g, l.ownBlock = some g → Fb (ct 0) k g := fun g hg => ⟨k, l, Nat.le_refl _, hu, hg⟩
  have l0 : ∀ g, l.ownBlock = some g → Fb (ct 0) 0 g := fun g hg => ⟨k, l, Nat.zero_le _, hu, hg⟩
  have nl : ∀ g, l.ownBlock = some g → ¬ Fb (ct 0) (k + 1) g := fun g hg ⟨j, x, hj, hx, hxg⟩ => hap k j l x g hu hx (by omega) hg hxg
  have new_ : ∀ g, w0.heap.size ≤ g → ¬ Fb (ct 0) (k + 1) g := fun g hg ⟨j, x, hj, hx, hxg⟩ => by have := hfb g ⟨j, x, Nat.zero_le _, hx, hxg⟩; omega
  have mv : ∀ u q, MRow W u q m → MRow (w1.setCell ⟨p, 6, none⟩ x3) u q m := fun u q hr => own_ch hr hWF fun g hg e => hsk.sep hr hg e
  have s0 := h.ch.size
  have sp : ∀ u : Value, (∀ g, u.ownBlock = some g → l.ownBlock = some g ∨ wr.heap.size ≤ g) → ∀ g, u.ownBlock = some g → ¬ Fb (ct 0) (k + 1) g ∧ (Foot4 p v ct g ∨ w0.heap.size ≤ g) := fun u ho g hg => by
    rcases ho g hg with e | e
    · exact ⟨nl g e, .inl (.inr (.inl (l0 g e)))⟩
    · exact ⟨new_ g (by omega), .inr (by omega)⟩
  refine ⟨_, h.ch.trans hrF fun g hg => ?_, tz_m ct _ ms _ ▸ hb.1, fun g hg => ?_, ⟨by simp [h.kw.1], fun i x y hx hy => ?_⟩, fun u hu2 g hg => ?_, fun j x hj hx => ?_⟩
  · rcases hg with e | e
    · exact (h.own g e).imp .inl id
    · exact .inl (.inr (l0 g e))
  · rcases hb.2.2 g hg with e | e
    · rcases hq.own g e with e | e
      · exact h.own g e
      · exact .inr (by omega)
    · right
      have := hq.ch.size
      have := ha.size
      omega
  · have hml := h.kw.1
    rcases four_at hx with ⟨hi, hx⟩ | ⟨hi, rfl⟩ | ⟨hi, rfl⟩ | ⟨hi, rfl⟩ | ⟨hi, rfl⟩
    · rw [List.getElem?_append_left (by omega)] at hy
      obtain ⟨m', n', e, hr, hl⟩ := h.kw.2 i x y hx hy
      refine ⟨m', n', e, own_ch hr hrF fun g hg e => ?_, hl⟩
      rcases e with e | e
      · exact h.sk.sep hr hg e
      · exact (h.sep x (List.mem_of_getElem? hx) g hg).1 (lk g e)
    all_goals
      rcases four_at hy with ⟨hi2, _⟩ | ⟨hi2, rfl⟩ | ⟨hi2, rfl⟩ | ⟨hi2, rfl⟩ | ⟨hi2, rfl⟩ <;> first | omega | skip
    · exact ⟨m, n, rfl, mv _ _ hq.r0, by omega⟩
    · exact ⟨m, n + 1, rfl, mv _ _ hq.r1, by omega⟩
    · exact ⟨m, n + 2, rfl, mv _ _ hq.r2, by omega⟩
    · exact ⟨m, n + K, rfl, mv _ _ hq.r3, hnK⟩
  · rcases List.mem_append.1 hu2 with hu2 | hu2
    · have h2 := h.sep u hu2 g hg
      exact ⟨fun ⟨j, x, hj, hx, hxg⟩ => h2.1 ⟨j, x, by omega, hx, hxg⟩, h2.2⟩
    · simp only [List.mem_cons, List.not_mem_nil, or_false] at hu2
      rcases hu2 with rfl | rfl | rfl | rfl
      · exact sp _ (fun g hg => .inl hg) g hg
      · exact sp _ hq.o1 g hg
      · exact sp _ hq.o2 g hg
      · exact sp _ hq.o3 g hg
  · have hr := h.fr j x (by omega) hx
    refine own_ch hr hrF fun g hg e => ?_
    rcases e with e | e
    · exact h.sk.sep hr hg e
    · exact hap k j l x g hu hx (by omega) e hg

set_option maxHeartbeats 8000000 in
set_option maxRecDepth 100000 in
theorem U2 (w0 wr0 : World) (p : Nat) (c t : Int) (v : Fin 4 → Value) (ct : Fin 4 → List Value) (v0 : Fin 4 → Value) (h : Mid4 w0 wr0 p c t v ct v0 (ct 2) (ct 3) 0) (hap : ∀ (i j : Nat) (u x : Value) (g : Nat), (ct 0)[i]? = some u → (ct 0)[j]? = some x → i ≠ j → u.ownBlock = some g → x.ownBlock ≠ some g) (hsm : ∀ u ∈ ct 0, sl u ≤ 549755813888) (hfb : ∀ g, Fb (ct 0) 0 g → g < w0.heap.size)
    (ht0 : 0 ≤ t) (ht : t ≤ 1099511627000) (hs0 : (ct 0).length ≤ 900000) (hs2 : (ct 2).length ≤ 800000000) {y1 y2 y3 y4 y5 y6 y7 y8 y9 y10 y11 y12 y13 y14 y15 y16 y17 y18 y19 y20 y21 y22 y23 y24 y25 y26 y27 y28 y29 y30 y31 y32 y33 y34 y35 y36 y37 y38 y39 y40 y41 y42 y43 y44 y45 y46 y47 y48 y49 y50 y51 y52 y53 y54 y55 y56 y57 y58 y59 y60 y61 y62 y63 y64 y65 y66 y67 y68 y69 y70 y71 y72 y73 y74 y75 y76 y77 y78 y79 y80 y81 y82 y83 y84 y85 y86 y87 y88 y89 y90 y91 y92 y93 y94 y95 y96 y97 y98 y99 y100 y101 y102 y103 y104 y105 y106 y107 y108 y109 y110 y111 y112 y113 y114 y115 y116 y117 y118 y119 y120 y121 y122 y123 y124 y125 y126 y127 y128 y129 y130 y131 y132 y133 y134 y135 y136 y137 y138 y139 : Value} :
    Code.wp Try.prog (postC 2 (Try.f35.body.getD .skip)) (bodyPost Try.prog Try.f35 (Done35 w0 p t v ct)) { tmps := #[(.pointer (some ⟨p, 0, none⟩)), y1, y2, y3, y4, y5, y6, y7, y8, y9, y10, y11, y12, y13, y14, y15, y16, y17, y18, y19, y20, y21, y22, y23, y24, y25, y26, y27, y28, y29, y30, y31, y32, y33, y34, y35, y36, y37, y38, y39, y40, y41, y42, y43, y44, y45, y46, y47, y48, y49, y50, y51, y52, y53, y54, y55, y56, y57, y58, y59, y60, y61, y62, y63, y64, y65, y66, y67, y68, y69, y70, y71, y72, y73, y74, y75, y76, y77, y78, y79, y80, y81, y82, y83, y84, y85, y86, y87, y88, y89, y90, y91, y92, y93, y94, y95, y96, y97, y98, y99, y100, y101, y102, y103, y104, y105, y106, y107, y108, y109, y110, y111, y112, y113, y114, y115, y116, y117, y118, y119, y120, y121, y122, y123, y124, y125, y126, y127, y128, y129, y130, y131, y132, y133, y134, y135, y136, y137, y138, y139], defers := [] } wr0 := by
  obtain ⟨i, hi, hz0, hz1, hz2⟩ := info3
  have H := Lib.hid h
  have HAP := Lib.hid hap
  have HSM := Lib.hid hsm
  have HFB := Lib.hid hfb
  have HS0 := Lib.hid hs0
  have HS2 := Lib.hid hs2
  obtain ⟨K, hK⟩ : ∃ K : Nat, t + 70 = (K : Int) := ⟨(t + 70).toNat, by omega⟩
  have HKK := Lib.hid hK
  have HTT := Lib.hid (And.intro ht0 ht)
  obtain ⟨n, hn⟩ : ∃ n, n = (ct 0).length := ⟨_, rfl⟩
  have HN := Lib.hid hn
  rw [← hn] at hs0
  clear h hap hsm hfb hs2 hK hn ht0 ht
  unfold Try.f35
  dsimp only [Option.getD, postC]
  refine wp_seq_k (fun K1 hK => ?_)
  have HK1 := Lib.hid hK
  clear hK
  go_wp2
  go_loopw [5] (fun i wr => ∃ (k : Nat) (v' : Fin 4 → Value) (ks ms : List Value), k ≤ n ∧ i = .int .i64 (k : Int) ∧ Hid (Mid4 w0 wr p c t v ct v' ks ms k) ∧ Hid (ks.length = (ct 2).length + 4 * k)) (fun i _ => n - (RowKit.intOf i).toNat)
  case atStart => exact ⟨0, v0, _, _, Nat.zero_le _, rfl, H, Lib.hid rfl⟩
  case round =>
    obtain ⟨k, v', ks, ms, hk, rfl, hM, hL⟩ := hrel
    by_cases hlt : k < n
    · have hl0 : k < (ct 0).length := by rw [← HN.out]; exact hlt
      obtain ⟨u, hu⟩ : ∃ x, x = (ct 0)[k]'hl0 := ⟨_, rfl⟩
      have HU0 := Lib.hid (show (ct 0)[k]? = some u from by rw [hu]; exact List.getElem?_eq_getElem hl0)
      have hr := hM.out.fr k u (Nat.le_refl _) HU0.out
      obtain ⟨A, cu, hv, _⟩ := own_form hr
      obtain ⟨nu, hnu⟩ : ∃ N, N = sl u := ⟨_, rfl⟩
      have hsm2 : nu ≤ 549755813888 := by rw [hnu]; exact HSM.out _ (List.mem_of_getElem? HU0.out)
      rw [← hnu] at hv hr
      clear hnu hu
      subst hv
      have HR := Lib.hid (show MRow wr (.slice A nu cu) nu (wrap64 (1000003 * wrap64 (c + (k : Int)))) from hr)
      obtain ⟨g0, k0, c3, a0, b0, _⟩ := hM.out.sk.at_ 0 3 rfl (j := k) (u := .slice A nu cu) HU0.out
      have e0 : (tz ct ks ms 0).length = n := HN.out.symm
      rw [e0] at c3 b0
      have c0 := hM.out.sk.hd.cell 0
      simp only [hds, List.getElem?_toArray, List.getElem?_cons_zero, List.getElem?_cons_succ] at c0
      clear hr e0
      refine wp_seq_k (fun Kc hK => ?_)
      have HKc := Lib.hid hK
      clear hK
      go_wp2
      refine HKc.out _ _ ?_
      clear HKc
      refine wp_seq_k (fun Kb hK => ?_)
      have HKb := Lib.hid hK
      clear hK
      refine wp_block ?_
      refine wp_seq_k (fun K12 hK => ?_)
      have HK12 := Lib.hid hK
      clear hK
      go_wp2
      refine HK12.out _ _ ?_
      clear HK12
      refine wp_seq_k (fun K13 hK => ?_)
      have HK13 := Lib.hid hK
      clear hK
      go_wp2
      refine HK13.out _ _ ?_
      clear HK13
      refine wp_seq_k (fun K14 hK => ?_)
      have HK14 := Lib.hid hK
      clear hK
      refine Code.wp_mono (Norm.elim ?_) (W14 wr p c t (wrap64 (1000003 * wrap64 (c + (k : Int)))) v' (tz ct ks ms) hM.out.sk A nu cu K HR.out hsm2 HTT.out.1 HTT.out.2 HKK.out (by
        have h1 := hL.out
        have h2 := HS2.out
        have h3 := HS0.out
        have h4 := HN.out
        show ks.length ≤ 900000000
        omega))
      rintro a W ⟨e84, e85, e86, e87, e88, e89, e90, e91, e92, e93, e94, e95, e96, e97, e98, e99, e100, e101, e102, e103, e104, e105, e106, e107, rfl, HX⟩
      refine HK14.out _ _ ?_
      clear HK14 c3 a0 c0
      obtain ⟨v2, u1, u2, u3, hsk, hq⟩ := HX.out
      rw [tz_k] at hsk
      have HSK := Lib.hid hsk
      have HQ := Lib.hid hq
      have c6 := hsk.hd.cell 6
      have f6 := hsk.hd.frozen 6
      simp only [hds, List.getElem?_toArray, List.getElem?_cons_zero, List.getElem?_cons_succ] at c6
      obtain ⟨x3, hx3⟩ : ∃ x, x = v2 3 := ⟨_, rfl⟩
      rw [← hx3] at c6
      have HX3 := Lib.hid hx3
      obtain ⟨mm, hmm⟩ : ∃ z, z = wrap64 (1000003 * wrap64 (c + (k : Int))) := ⟨_, rfl⟩
      rw [← hmm] at HQ ⊢
      clear HX hsk hq hx3 hmm HR
      go_wp2_with (at_builtin; refine wpList_app _ rfl _ _ 39 rfl 0 3 i (.int .i64 0) 8 Try.underlying39 hi hz0 hz1 hz2 rfl x3 ms rfl ?q1 ⟨W.heap.size, 0, none⟩ 4 4 [.int .i64 mm, .int .i64 mm, .int .i64 mm, .int .i64 mm] rfl rfl (by decide) ?q2 ?q3 ?q4 ?q5 ?q6 ?_)
      case q1 => rw [HX3.out]; exact (HSK.out.alloc _).row 3
      case q2 => exact new_at W [.int .i64 mm, .int .i64 mm, .int .i64 mm, .int .i64 mm] 3
      case q3 => intro u hu; simp at hu; rw [hu]; rfl
      case q4 => have h1 := hL.out; have h2 := HS2.out; have h3 := HS0.out; have h4 := HN.out; have h5 := hM.out.kw.1; unfold maxLen; omega
      case q5 => have h1 := hL.out; have h2 := HS2.out; have h3 := HS0.out; have h4 := HN.out; have h5 := hM.out.kw.1; omega
      case q6 => exact Nat.zero_le _
      intro x4 w1 hA
      obtain ⟨A5, k5, hv5, _⟩ := hA.row'.form
      obtain ⟨n5, hn5⟩ : ∃ N, N = (ms ++ [Value.int .i64 mm, .int .i64 mm, .int .i64 mm, .int .i64 mm]).length := ⟨_, rfl⟩
      rw [← hn5] at hv5
      subst hv5
      clear hn5
      have HNX := Lib.hid (hM.out.next HU0.out HQ.out HSK.out (HX3.out ▸ hA) (by have := HKK.out; have := HTT.out.2; omega) (by omega) HAP.out HFB.out)
      have hp : w1.cell? ⟨p, 6, none⟩ = some x3 := by
        have h := (hA.ch.blk (HSK.out.alloc _).hd (HX3.out ▸ HSK.out.off 3)).cell 6
        simp only [hds, List.getElem?_toArray, List.getElem?_cons_zero, List.getElem?_cons_succ] at h
        rw [HX3.out]; exact h
      have fp := (hA.ch.blk (HSK.out.alloc _).hd (HX3.out ▸ HSK.out.off 3)).frozen 6
      clear hA
      go_wp2
      refine HKb.out _ _ ?_
      clear hp fp c6 f6
      go_wp2
      go_roundw
      case rel =>
        obtain ⟨v3, hN⟩ := HNX.out
        exact ⟨k + 1, v3, _, _, by omega, by go_num, Lib.hid hN, Lib.hid (by have := hL.out; simp; omega)⟩
      case measure => simp [RowKit.intOf]; omega
    · obtain rfl : k = n := by omega
      obtain ⟨A3, k3, e3, l3⟩ := (hM.out.sk.row 0).form
      have c3 := hM.out.sk.hd.cell 3
      simp only [hds, List.getElem?_toArray, List.getElem?_cons_zero, List.getElem?_cons_succ] at c3
      have e0 : (tz ct ks ms 0).length = k := HN.out.symm
      rw [e0] at e3
      rw [e3] at c3
      clear e3
      go_wp2
      refine HK1.out _ _ ?_
      exact U5 w0 wr p c t v ct v' ks ms (HN.out ▸ hM.out) (HN.out ▸ hL.out) HS0.out

end Go.Proofs.Ytolhfcefpjfobaa.Bk
end
section
namespace Go.Proofs.Ytolhfcefpjfobaa.Bk
open Go.RowKit Go.Proofs.YtolhfcefpjfobaaW.PrintWords Go.Proofs.Ytolhfcefpjfobaa.Lend Go.Proofs.Ytolhfcefpjfobaa.PR
set_option linter.unusedVariables false
set_option linter.unusedSimpArgs false
attribute [local go_sem] isSome_setCell
theorem Ch.set3 {w w' : World} {S : Nat → Prop} (h : Ch w w' S) (g a b c : Nat) (x y z : Value) (hp : S g ∨ w.heap.size ≤ g) : Ch w (((w'.setCell ⟨g, a, none⟩ x).setCell ⟨g, b, none⟩ y).setCell ⟨g, c, none⟩ z) S :=
  ((h.set_ _ _ hp).set_ _ _ hp).set_ _ _ hp
set_option maxHeartbeats 8000000 in
set_option maxRecDepth 100000 in
theorem U1 (w0 w1 : World) (p : Nat) (c t : Int) (v : Fin 4 → Value) (ct : Fin 4 → List Value) (h : Shelf w0 p c t v ct) (hc : Ch w0 w1 Never) (ht0 : 0 ≤ t) (ht : t ≤ 1099511627000) (hs0 : (ct 0).length ≤ 900000) (hs : (ct 2).length ≤ 800000000) {y1 y2 y3 y4 y5 y6 y7 y8 y9 y10 y11 y12 y13 y14 y15 y16 y17 y18 y19 y20 y21 y22 y23 y24 y25 y26 y27 y28 y29 y30 y31 y32 y33 y34 y35 y36 y37 y38 y39 y40 y41 y42 y43 y44 y45 y46 y47 y48 y49 y50 y51 y52 y53 y54 y55 y56 y57 y58 y59 y60 y61 y62 y63 y64 y65 y66 y67 y68 y69 y70 y71 y72 y73 y74 y75 y76 y77 y78 y79 y80 y81 y82 y83 y84 y85 y86 y87 y88 y89 y90 y91 y92 y93 y94 y95 y96 y97 y98 y99 y100 y101 y102 y103 y104 y105 y106 y107 y108 y109 y110 y111 y112 y113 y114 y115 y116 y117 y118 y119 y120 y121 y122 y123 y124 y125 y126 y127 y128 y129 y130 y131 y132 y133 y134 y135 y136 y137 y138 y139 : Value} :
    Code.wp Try.prog (postC 1 (Try.f35.body.getD .skip)) (bodyPost Try.prog Try.f35 (Done35 w0 p t v ct)) { tmps := #[(.pointer (some ⟨p, 0, none⟩)), y1, y2, y3, y4, y5, y6, y7, y8, y9, y10, y11, y12, y13, y14, y15, y16, y17, y18, y19, y20, y21, y22, y23, y24, y25, y26, y27, y28, y29, y30, y31, y32, y33, y34, y35, y36, y37, y38, y39, y40, y41, y42, y43, y44, y45, y46, y47, y48, y49, y50, y51, y52, y53, y54, y55, y56, y57, y58, y59, y60, y61, y62, y63, y64, y65, y66, y67, y68, y69, y70, y71, y72, y73, y74, y75, y76, y77, y78, y79, y80, y81, y82, y83, y84, y85, y86, y87, y88, y89, y90, y91, y92, y93, y94, y95, y96, y97, y98, y99, y100, y101, y102, y103, y104, y105, y106, y107, y108, y109, y110, y111, y112, y113, y114, y115, y116, y117, y118, y119, y120, y121, y122, y123, y124, y125, y126, y127, y128, y129, y130, y131, y132, y133, y134, y135, y136, y137, y138, y139], defers := [] } w1 := by
  have HB := Lib.hid h
  have HF0 := Lib.hid (show Fill4 w0 w1 c ct 0 from ⟨hc.mono fun _ h => h.elim, fun j u hu => ⟨(h.row0 hu).imp fun xs hr => own_ch hr hc fun _ _ h => h, fun h => absurd h (Nat.not_lt_zero _)⟩⟩)
  have HS := Lib.hid (And.intro hs0 hs)
  have HT := Lib.hid (And.intro ht0 ht)
  obtain ⟨n, hn⟩ : ∃ n, n = (ct 0).length := ⟨_, rfl⟩
  have HN := Lib.hid hn
  rw [← hn] at hs0
  clear h hc hn hs ht0 ht
  unfold Try.f35
  dsimp only [Option.getD, postC]
  refine wp_seq_k (fun K1 hK => ?_)
  have HK1 := Lib.hid hK
  clear hK
  go_wp2
  go_loopw [2] (fun i wr => ∃ (k : Nat), k ≤ n ∧ i = .int .i64 (k : Int) ∧ Hid (Fill4 w0 wr c ct k)) (fun i _ => n - (RowKit.intOf i).toNat)
  case atStart => exact ⟨0, Nat.zero_le _, rfl, HF0⟩
  case round =>
    obtain ⟨k, hk, rfl, hF⟩ := hrel
    have HSk := Lib.hid (hF.out.sk HB.out)
    by_cases hlt : k < n
    · have hl0 : k < (ct 0).length := by rw [← HN.out]; exact hlt
      obtain ⟨u, hu⟩ : ∃ x, x = (ct 0)[k]'hl0 := ⟨_, rfl⟩
      have HU0 := Lib.hid (show (ct 0)[k]? = some u from by rw [hu]; exact List.getElem?_eq_getElem hl0)
      obtain ⟨⟨rs, r0⟩, _⟩ := hF.out.all k u HU0.out
      obtain ⟨A0, n0, hv0, hc0⟩ := own_form r0
      obtain ⟨nu, hnu⟩ : ∃ m, m = rs.length := ⟨_, rfl⟩
      unfold Row3 at r0
      rw [← hnu] at hv0 r0
      subst hv0
      have HR0 := Lib.hid r0
      have HNU := Lib.hid hnu
      have hsm : nu ≤ 549755813888 := HB.out.small _ (List.mem_of_getElem? HU0.out)
      obtain ⟨g0, k0, c3, a0, l0, _⟩ := HSk.out.at_ 0 3 rfl HU0.out
      rw [← HN.out] at c3 l0
      have c0 := HSk.out.hd.cell 0
      simp only [hds, List.getElem?_toArray, List.getElem?_cons_zero, List.getElem?_cons_succ] at c0
      clear r0 hc0 hnu hu hl0
      refine wp_seq_k (fun Kc hK => ?_)
      have HKc := Lib.hid hK
      clear hK
      go_wp2
      refine HKc.out _ _ ?_
      clear HKc
      refine wp_seq_k (fun Kb hK => ?_)
      have HKb := Lib.hid hK
      clear hK
      refine wp_block ?_
      refine wp_seq_k (fun K4 hK => ?_)
      have HK4 := Lib.hid hK
      clear hK
      go_wp2
      refine HK4.out _ _ ?_
      clear HK4 c3 a0 c0
      obtain ⟨m, hm⟩ : ∃ m, m = wrap64 (1000003 * wrap64 (c + (k : Int))) := ⟨_, rfl⟩
      rw [← hm]
      have HM := Lib.hid hm
      clear hm
      go_wp2
      go_loopw [4] (fun i w' => ∃ (q : Nat) (zs : List S27), q ≤ nu ∧ i = .int .i64 (q : Int) ∧ Hid (zs.length = nu) ∧ Hid (zs.take q = (mk3 nu m).take q) ∧ Hid (w'.ownsRow 0 27 3 (.slice A0 nu n0) nu (flat zs)) ∧ Hid (Ch wr w' (fun g => Value.ownBlock (.slice A0 nu n0) = some g))) (fun i _ => nu - (RowKit.intOf i).toNat)
      case atStart => exact ⟨0, rs, Nat.zero_le _, rfl, Lib.hid HNU.out.symm, Lib.hid rfl, HR0, Lib.hid (Ch.refl _ _)⟩
      case round =>
        obtain ⟨q, zs, hq, rfl, hzl, hzt, hzr, hzc⟩ := hrel
        have HSq := Lib.hid (HSk.out.ch hzc.out fun g ho e => HSk.out.sep HR0.out e ho)
        obtain ⟨g0', k0', c3', a0', l0', _⟩ := HSq.out.at_ 0 3 rfl HU0.out
        rw [← HN.out] at c3' l0'
        by_cases hqn : q < nu
        · obtain ⟨gl, cl, x, hv, hcl, hx, x0, x1, x2, f0, f1, f2⟩ := own3_at hzr.out hqn
          injection hv with v1 v2 v3
          subst v1
          subst v3
          clear hx
          obtain ⟨y, hy⟩ : ∃ y, y = mineR (wrap64 (m + (q : Int))) := ⟨_, rfl⟩
          have HY := Lib.hid (show (mk3 nu m)[q]? = some y from by rw [hy]; exact mk3_at nu m q hqn)
          have hmi : ∀ W, Calls Try.prog 36 #[.int .i64 (IntKind.i64.wrap (m + (q : Int)))] W fun e w' => e = .returned (.agg #[.int .i64 y.f0, .int .i64 y.f1, .int .i64 y.f2]) ∧ Ch W w' Never := by
            intro W
            rw [hy, Go.IntWalk.i64_left]
            exact mine_ W _
          have HMI := Lib.hid hmi
          clear hmi hy
          obtain ⟨y0, y1, y2⟩ := y
          go_wp2
          go_region_with (go_at_call 36; refine (HMI.out wr.drew).mono ?_; rintro e w2 ⟨rfl, hd⟩; have hd2 : Ch wr w2 Never := ((Ch.refl wr Never).drew).trans hd fun _ h => h.elim; have c3b := hd2.cell c3' (fun h => h); have a0b := hd2.cell a0' (fun h => h); have hzr2 := own_ch hzr.out hd2 fun _ _ h => h; obtain ⟨gl2, cl2, xx, hv2, _, _, x0b, x1b, x2b, f0b, f1b, f2b⟩ := own3_at hzr2 hqn; injection hv2 with v1 _ _; injection v1 with v1; injection v1 with v1 _ _; subst v1; have HZ2 := Lib.hid (own3_set hzr2 q hqn ⟨y0, y1, y2⟩); have HC2 := Lib.hid ((hzc.out.trans hd2 fun _ h => h.elim).set3 gl (q * 3) (q * 3 + 1) (q * 3 + 2) (.int .i64 y0) (.int .i64 y1) (.int .i64 y2) (.inl rfl)); clear hd hd2 hzr2)
          all_goals
            go_wp2
            go_roundw
            case rel => exact ⟨q + 1, zs.set q ⟨y0, y1, y2⟩, by omega, by go_num, Lib.hid (by rw [List.length_set]; exact hzl.out), Lib.hid (take_set27 zs (mk3 nu m) q _ (by rw [hzl.out]; exact hqn) hzt.out HY.out), HZ2, HC2⟩
            case measure => simp [RowKit.intOf]; omega
        · obtain rfl : q = nu := by omega
          have hz : zs = mk3 q m := by
            have h := hzt.out
            rw [List.take_of_length_le (Nat.le_of_eq hzl.out), List.take_of_length_le (Nat.le_of_eq (mk3_length _ _))] at h
            exact h
          have HN2 := Lib.hid (hF.out.next HU0.out hzc.out (show MRow _ (.slice A0 q n0) q (mkc c k) from by rw [show mkc c k = m from HM.out.symm]; have h := hzr.out; rw [hz] at h; exact h) HB.out.apart)
          clear hz
          go_wp2
          refine HKb.out _ _ ?_
          go_wp2
          go_roundw
          case rel => exact ⟨k + 1, by omega, by go_num, HN2⟩
          case measure => simp [RowKit.intOf]; omega
    · obtain rfl : k = n := by omega
      obtain ⟨A3, k3, e3, l3⟩ := (HSk.out.row 0).form
      have c3' := HSk.out.hd.cell 3
      simp only [hds, List.getElem?_toArray, List.getElem?_cons_zero, List.getElem?_cons_succ] at c3'
      rw [← HN.out] at e3 l3
      rw [e3] at c3'
      clear e3
      go_wp2
      refine HK1.out _ _ ?_
      exact U2 w0 wr p c t v ct v (Fill4.mid (HN.out ▸ hF.out) HB.out) HB.out.apart HB.out.small HB.out.fbl HT.out.1 HT.out.2 HS.out.1 HS.out.2

set_option maxHeartbeats 4000000 in
set_option maxRecDepth 100000 in
/-- write: the lists that lay untouched are written over and grown; Kept holds four more for each of them -/
theorem write4_ (w : World) (p : Nat) (c t : Int) (v : Fin 4 → Value) (ct : Fin 4 → List Value) (h : Shelf w p c t v ct) (ht0 : 0 ≤ t) (ht : t ≤ 1099511627000) (hs0 : (ct 0).length ≤ 900000) (hs : (ct 2).length ≤ 800000000) :
    Calls Try.prog 35 #[.pointer (some ⟨p, 0, none⟩)] w (Done35 w p t v ct) := by
  have HB := Lib.hid h
  have HU := Lib.hid (untouched4_ w p c t v ct h.sk h.fw (by omega))
  have c2 := h.sk.hd.cell 2
  simp only [hds, List.getElem?_toArray, List.getElem?_cons_zero, List.getElem?_cons_succ] at c2
  clear h
  go_enter Try.func35, Try.ntmps35
  refine wp_seq_k (fun K0 hK => ?_)
  have HK0 := Lib.hid hK
  clear hK
  go_wp2_with (go_at_call 37; refine HU.out.mono ?_; rintro e w1 ⟨rfl, hc⟩; have hsk := HB.out.sk.ch hc fun _ _ h => h; have c2b := hsk.hd.cell 2; simp only [hds, List.getElem?_toArray, List.getElem?_cons_zero, List.getElem?_cons_succ] at c2b; have f2b := hsk.hd.frozen 2; have HC := Lib.hid (hc.same hsk.hd (i := 2) (u := .bool false) rfl); clear hc hsk)
  refine HK0.out _ _ ?_
  exact U1 w _ p c t v ct HB.out HC.out ht0 ht hs0 hs
#print axioms write4_

end Go.Proofs.Ytolhfcefpjfobaa.Bk
end
section
namespace Go.Proofs.Ytolhfcefpjfobaa.Bk
open Go.RowKit Go.Proofs.YtolhfcefpjfobaaW.PrintWords Go.Proofs.Ytolhfcefpjfobaa.Lend Go.Proofs.Ytolhfcefpjfobaa.PR
set_option linter.unusedVariables false
set_option linter.unusedSimpArgs false
attribute [local go_sem] isSome_setCell
theorem own_base {w : World} {b n s : Nat} {e : TypeId} {v : Value} {xs : List Value} (h : w.ownsRow b e s v n xs) : w.ownsRow 0 e s v n xs ∧ ∀ g, v.ownBlock = some g → b ≤ g := by
  refine ⟨⟨h.1, ?_⟩, fun g hg => (World.ownsRow.lt h g hg).1⟩
  rcases h.2 with hn | ⟨g, cap, cur, hv, hb, rest⟩
  · exact .inl hn
  · exact .inr ⟨g, cap, cur, hv, Nat.zero_le _, rest⟩
theorem flat_one (rs : List S27) : ∀ u ∈ flat rs, u.oneCell' = true := by
  induction rs with
  | nil => intro u hu; cases hu
  | cons x r ih =>
    intro u hu
    simp only [flat, List.mem_cons] at hu
    rcases hu with rfl | rfl | rfl | hu
    · rfl
    · rfl
    · rfl
    · exact ih u hu
theorem run_copy3 (w : World) (ty : TypeId) (A : Option Addr) (n cl : Nat) (rs : List S27) (hr : w.ownsRow 0 27 3 (.slice A n cl) n (flat rs)) (hn : n ≤ 549755813888) :
    ∃ B d w', (Builtin.append_ #[22, 22] ty #[.slice none 0 0, .slice A n cl]).run Try.prog w = .ok (.slice B n d) w' ∧ w'.ownsRow 0 27 3 (.slice B n d) n (flat rs) ∧ Ch w w' Never ∧ ∀ g, (Value.slice B n d).ownBlock = some g → w.heap.size ≤ g := by
  obtain ⟨i, hi, hz0, hz1, hz2⟩ := info27
  rcases hr.2 with ⟨e, h0⟩ | ⟨g, cap, cur, e, hb, hg, hnc, hc, hs, ht⟩
  · obtain ⟨rfl, rfl, rfl⟩ := Value.slice.inj e
    refine ⟨none, 0, w, ?_, hr, Ch.refl _ _, fun g hg => by simp [Value.ownBlock] at hg⟩
    simp [Builtin.append_, run_underlying Try.underlying22, sizeOf, typeInfo, hi, Builtin.lenOf, Builtin.firstCells, loadCells, loadCellsFrom]
  · obtain ⟨rfl, _, rfl⟩ := Value.slice.inj e
    obtain ⟨v', w', hrun, hrow, hgr, _⟩ := run_append_own (P := Try.prog) w w.heap.size 22 ty 27 i (.agg #[.int .i64 0, .int .i64 0, .int .i64 0]) 3 24 Try.underlying22 hi hz0 hz1 hz2 rfl (by decide) (.slice none 0 0) 0 [] (World.ownsRow_nil w _ _ _) ⟨g, 0, none⟩ n cl (flat rs) hr.1 (hr.cells rfl) (flat_one rs) (by unfold maxLen; omega) (by omega) (Nat.le_refl _)
    rw [Nat.zero_add, List.nil_append] at hrow
    obtain ⟨B, d, rfl, _⟩ := own_form hrow
    obtain ⟨h0, h1⟩ := own_base hrow
    exact ⟨B, d, w', hrun, h0, (Ch.of_grown hgr).mono fun g hg => by simp [Value.ownBlock] at hg, h1⟩
theorem step_copy3 {ops : Array Oper} {o : Oper} {a : Act} {w : World} {C : Act → World → Prop} {Q : Exit → Act → World → Prop} {E : Prop} (A : Option Addr) (n cl : Nat) (rs : List S27)
    (hg : o.guard = none) (ho : o.op = .call { callee := .builtin .append, args := #[.const (.slice none 0 0), .tmp 36], argTypes := #[22, 22] })
    (hx : a.eval (.tmp 36) = .slice A n cl) (hr : w.ownsRow 0 27 3 (.slice A n cl) n (flat rs)) (hn : n ≤ 549755813888)
    (k : ∀ (B : Option Addr) (d : Nat) (w1 : World), w1.ownsRow 0 27 3 (.slice B n d) n (flat rs) → Ch w w1 Never → (∀ g, (Value.slice B n d).ownBlock = some g → w.heap.size ≤ g) → C (a.put o.dst (.slice B n d)) w1) :
    if Region.wanted o (yielded ops a.tmps) = true then Oper.wp Try.prog o a w C Q else E := by
  have hw : Region.wanted o (yielded ops a.tmps) = true := by simp [Region.wanted, hg]
  rw [if_pos hw]
  obtain ⟨B, d, w', hrun, h2, h3, h4⟩ := run_copy3 w o.type A n cl rs hr hn
  have hs : a.eval (.const (.slice none 0 0)) = .slice none 0 0 := rfl
  unfold Oper.wp execOp
  simp only [ho, resolve, invoke, builtin, Sem.run_bind, Sem.run_pure, Result.andThen_ok, List.map_toArray, List.map_cons, List.map_nil, hs, hx, hrun]
  exact k B d w' h2 h3 h4
/-- rows of the shelf change: what is its own stays its own or is new -/
structure Stp4 (w w' : World) (p : Nat) (v v' : Fin 4 → Value) : Prop where
  ch : Ch w w' (Own4 p v)
  own : ∀ g, Own4 p v' g → Own4 p v g ∨ w.heap.size ≤ g
theorem Stp4.trans {w w' w2 : World} {p : Nat} {v v' v2 : Fin 4 → Value} (h : Stp4 w w' p v v') (h' : Stp4 w' w2 p v' v2) : Stp4 w w2 p v v2 :=
  ⟨h.ch.trans h'.ch h.own, fun g hg => (h'.own g hg).elim (h.own g) fun h2 => .inr (Nat.le_trans h.ch.size h2)⟩
theorem Stp4.of {w w1 w2 : World} {p : Nat} {v v' : Fin 4 → Value} (h : Ch w w1 Never) (hc : Ch w1 w2 (Own4 p v)) (ho : ∀ g, Own4 p v' g → Own4 p v g ∨ w1.heap.size ≤ g) : Stp4 w w2 p v v' :=
  ⟨(h.mono (S' := Own4 p v) fun _ h => h.elim).trans hc fun _ h => .inl h, fun g hg => (ho g hg).imp id fun h2 => Nat.le_trans h.size h2⟩
set_option maxHeartbeats 4000000 in
set_option maxRecDepth 100000 in
theorem P3 (W : World) (p : Nat) (c t : Int) (v : Fin 4 → Value) (ct : Fin 4 → List Value) (h : Sk W p c t v ct) (A : Option Addr) (n cl : Nat) (rs : List S27) (hl : W.ownsRow 0 27 3 (.slice A n cl) n (flat rs)) (hn : n ≤ 549755813888) (h1 : (ct 1).length ≤ 1000000) {y2 y3 y4 y5 y6 y7 y8 y9 y10 y11 y12 y13 y14 y15 y16 y17 y18 y19 y20 y21 y22 y23 y24 y25 y26 y27 y28 y29 y30 y31 y32 y33 y34 y35 y36 y37 y38 y39 y40 y41 y42 y43 y44 y45 y46 y47 y48 y49 y50 y51 y52 y53 y54 y55 y56 y57 y58 y59 y60 y61 y62 y63 y64 y65 : Value} :
    Code.wp Try.prog (left (postC 3 (Try.f21.body.getD .skip))) (Norm fun a w' => ∃ (e31 e32 e33 e34 e35 e36 e37 e38 e39 e40 e41 : Value), a = { tmps := #[(.pointer (some ⟨p, 0, none⟩)), (.slice A n cl), y2, y3, y4, y5, y6, y7, y8, y9, y10, y11, y12, y13, y14, y15, y16, y17, y18, y19, y20, y21, y22, y23, y24, y25, y26, y27, y28, y29, y30, e31, e32, e33, e34, e35, e36, e37, e38, e39, e40, e41, y42, y43, y44, y45, y46, y47, y48, y49, y50, y51, y52, y53, y54, y55, y56, y57, y58, y59, y60, y61, y62, y63, y64, y65], defers := [] } ∧ Hid (∃ v' d, Sk w' p c t v' (upe ct 1 (ct 1 ++ [d])) ∧ Stp4 W w' p v v' ∧ w'.ownsRow 0 27 3 d n (flat rs) ∧ ∀ g, d.ownBlock = some g → W.heap.size ≤ g)) { tmps := #[(.pointer (some ⟨p, 0, none⟩)), (.slice A n cl), y2, y3, y4, y5, y6, y7, y8, y9, y10, y11, y12, y13, y14, y15, y16, y17, y18, y19, y20, y21, y22, y23, y24, y25, y26, y27, y28, y29, y30, y31, y32, y33, y34, y35, y36, y37, y38, y39, y40, y41, y42, y43, y44, y45, y46, y47, y48, y49, y50, y51, y52, y53, y54, y55, y56, y57, y58, y59, y60, y61, y62, y63, y64, y65], defers := [] } W := by
  obtain ⟨i, hi, hz0, hz1, hz2⟩ := info22
  have c4 := h.hd.cell 4
  have f4 := h.hd.frozen 4
  simp only [hds, List.getElem?_toArray, List.getElem?_cons_zero, List.getElem?_cons_succ] at c4
  have H := Lib.hid h
  have H1 := Lib.hid h1
  have HL := Lib.hid hl
  clear h h1 hl
  obtain ⟨x1, hx1⟩ : ∃ x, x = v 1 := ⟨_, rfl⟩
  rw [← hx1] at c4
  have HX := Lib.hid hx1
  clear hx1
  unfold Try.f21
  dsimp only [Option.getD, postC, left]
  go_region_law (first | (refine step_app rfl (.tmp 35) (.tmp 38) 38 rfl 0 22 i (.slice none 0 0) 24 Try.underlying38 hi hz0 hz1 hz2 rfl x1 (ct 1) rfl (by rw [HX.out]; exact (HBK.out.alloc _).row 1) ⟨w1.heap.size, 0, none⟩ 1 1 [.slice B n d] rfl rfl (by decide) (one_new _ _ _) (fun u hu => by rw [List.mem_singleton.1 hu]; rfl) (by have := H1.out; unfold maxLen; omega) (by have := H1.out; omega) (Nat.zero_le _) ?_; intro v' w2 hA; obtain ⟨A3, k3, hv3, _⟩ := hA.row'.form; obtain ⟨n3, hn3⟩ : ∃ N, N = (ct 1 ++ [Value.slice B n d]).length := ⟨_, rfl⟩; rw [← hn3] at hv3; subst hv3; clear hn3; have HA1 := Lib.hid (((HBK.out.alloc (.cells #[.slice B n d] 22))).app 1 (HX.out ▸ hA) 4 rfl); have HR2 := Lib.hid (own_ch (own_ch HR.out ((Ch.refl w1 Never).alloc (.cells #[.slice B n d] 22)) fun _ _ h => h) hA.ch fun g hg e => own_other HR.out (HBK.out.row 1) (by decide) hg (HX.out ▸ e)); have hp : w2.cell? ⟨p, 4, none⟩ = some x1 := (by have h := (hA.ch.blk (HBK.out.alloc _).hd (HX.out ▸ HBK.out.off 1)).cell 4; simp only [hds, List.getElem?_toArray, List.getElem?_cons_zero, List.getElem?_cons_succ] at h; rw [HX.out]; exact h); have fp := (hA.ch.blk (HBK.out.alloc _).hd (HX.out ▸ HBK.out.off 1)).frozen 4; clear hA) | (refine step_copy3 A n cl rs rfl rfl rfl HL.out hn ?_; intro B d w1 hr hc hg; have HR := Lib.hid hr; have HC := Lib.hid (((Ch.refl W Never).drew).trans hc fun _ h => h.elim); have HG := Lib.hid hg; have HBK := Lib.hid (H.out.ch HC.out fun _ _ h => h); have c4' := HBK.out.hd.cell 4; have f4' := HBK.out.hd.frozen 4; simp only [hds, List.getElem?_toArray, List.getElem?_cons_zero, List.getElem?_cons_succ] at c4'; rw [← HX.out] at c4'; have c4a := (HBK.out.alloc (.cells #[.slice B n d] 22)).hd.cell 4; simp only [hds, List.getElem?_toArray, List.getElem?_cons_zero, List.getElem?_cons_succ] at c4a; rw [← HX.out] at c4a; clear hr hc hg))
  all_goals
    refine Norm.mk ?_
    refine ⟨_, _, _, _, _, _, _, _, _, _, _,  rfl, Lib.hid ⟨_, .slice B n d, HA1.out.1, Stp4.of ((HC.out.alloc (.cells #[.slice B n d] 22)).mono fun _ h => h) HA1.out.2.1 HA1.out.2.2, ?_, HG.out⟩⟩
    exact own_ch HR2.out ((Ch.refl w2 (fun g => g = p)).set_ _ _ (.inl rfl)) fun g hg e => HBK.out.sep HR.out hg (.inl e)

end Go.Proofs.Ytolhfcefpjfobaa.Bk
end
section
namespace Go.Proofs.Ytolhfcefpjfobaa.Bk
open Go.RowKit Go.Proofs.YtolhfcefpjfobaaW.PrintWords Go.Proofs.Ytolhfcefpjfobaa.Lend Go.Proofs.Ytolhfcefpjfobaa.PR
set_option linter.unusedVariables false
set_option linter.unusedSimpArgs false
attribute [local go_sem] isSome_setCell
theorem Pairs3.lt {w : World} {ks ws : List Value} (h : Pairs3 w ks ws) {g : Nat} (hg : Fb ks 0 g ∨ Fb ws 0 g) : g < w.heap.size := by
  rcases hg with ⟨j, u, _, hu, hg⟩ | ⟨j, u, _, hu, hg⟩
  · obtain ⟨xs, hr⟩ := h.rows (.inl (List.mem_of_getElem? hu)); exact own3_lt hr g hg
  · obtain ⟨xs, hr⟩ := h.rows (.inr (List.mem_of_getElem? hu)); exact own3_lt hr g hg
theorem Pairs3.snoc {w : World} {ks ws : List Value} {l d : Value} {xs : List S27} (h : Pairs3 w ks ws) (hl : Row3 w l xs) (hd : Row3 w d xs) (hn : xs.length ≤ 1099511627776) : Pairs3 w (ks ++ [l]) (ws ++ [d]) := by
  refine ⟨by simp [h.1], fun i x y hx hy => ?_⟩
  by_cases hi : i < ks.length
  · rw [List.getElem?_append_left hi] at hx
    rw [List.getElem?_append_left (by rw [← h.1]; exact hi)] at hy
    exact h.2 i x y hx hy
  · have hi2 : i = ks.length := by
      have := (List.getElem?_eq_some_iff.1 hx).1
      simp at this; omega
    subst hi2
    rw [List.getElem?_append_right (Nat.le_refl _)] at hx
    rw [List.getElem?_append_right (by rw [h.1]; exact Nat.le_refl _)] at hy
    simp at hx
    rw [h.1] at hy
    simp at hy
    subst hx; subst hy
    exact ⟨xs, hl, hd, hn⟩
/-- the rows of a shelf with one more list -/
def ae2 (ct : Fin 4 → List Value) (l d : Value) : Fin 4 → List Value := upe (upe ct 0 (ct 0 ++ [l])) 1 (ct 1 ++ [d])
theorem ae2_0 (ct : Fin 4 → List Value) (l d : Value) : ae2 ct l d 0 = ct 0 ++ [l] := rfl
theorem ae2_1 (ct : Fin 4 → List Value) (l d : Value) : ae2 ct l d 1 = ct 1 ++ [d] := rfl
theorem ae2_2 (ct : Fin 4 → List Value) (l d : Value) : ae2 ct l d 2 = ct 2 := rfl
theorem ae2_3 (ct : Fin 4 → List Value) (l d : Value) : ae2 ct l d 3 = ct 3 := rfl
theorem Shelf.add {w W : World} {p : Nat} {c t c1 t1 : Int} {v v3 : Fin 4 → Value} {ct : Fin 4 → List Value} {l d : Value} {xs : List S27} (h : Shelf w p c t v ct) (hb : Sk W p c1 t1 v3 (ae2 ct l d)) (hs : Stp4 w W p v v3)
    (hl : Row3 w l xs) (hd : Row3 W d xs) (hdn : ∀ g, d.ownBlock = some g → w.heap.size ≤ g) (hf : ∀ g, l.ownBlock = some g → ¬ Foot4 p v ct g) (hsm : sl l ≤ 549755813888) (hn : xs.length ≤ 1099511627776) :
    Shelf W p c1 t1 v3 (ae2 ct l d) ∧ ∀ g, Foot4 p v3 (ae2 ct l d) g → Foot4 p v ct g ∨ l.ownBlock = some g ∨ w.heap.size ≤ g := by
  have mp : ∀ ks ws, Pairs3 w ks ws → Pairs3 W ks ws := fun ks ws hp => hp.ch hs.ch fun u hu g hg => by
    obtain ⟨zs, hr⟩ := hp.rows hu
    exact h.sk.sep hr hg
  have lo := fun g (hg : l.ownBlock = some g) => own3_lt hl g hg
  refine ⟨⟨hb, ?_, ?_, ?_, ?_, ?_⟩, ?_⟩
  · rw [ae2_0, ae2_1]; exact (mp _ _ h.fw).snoc (own_ch hl hs.ch fun g hg => h.sk.sep hl hg) hd hn
  · rw [ae2_2, ae2_3]; exact h.kw.ch hs.ch fun u hu g hg => by
      obtain ⟨n, m, hr⟩ := h.kw.rows hu
      exact h.sk.sep hr hg
  · intro i j u x g hu hx hij hg hxg
    rw [ae2_0] at hu hx
    rcases snoc_at hu with ⟨hu1, hui⟩ | ⟨hui, eu⟩ <;> rcases snoc_at hx with ⟨hx1, hxi⟩ | ⟨hxi, ex⟩
    · exact h.apart i j u x g hu1 hx1 hij hg hxg
    · exact hf g (ex ▸ hxg) (.inr (.inl ⟨i, u, Nat.zero_le _, hu1, hg⟩))
    · exact hf g (eu ▸ hg) (.inr (.inl ⟨j, x, Nat.zero_le _, hx1, hxg⟩))
    · omega
  · intro g hg
    rw [ae2_0] at hg
    rw [ae2_1, ae2_2]
    rcases hg.snoc with hg | hg
    · have h1 := h.far g hg
      have h2 := h.fw.lt (.inl hg)
      exact ⟨fun hh => hh.snoc.elim h1.1 fun e => by have := hdn g e; omega, h1.2⟩
    · have h1 := hf g hg
      have h2 := lo g hg
      exact ⟨fun hh => hh.snoc.elim (fun e => h1 (.inr (.inr (.inl e)))) fun e => by have := hdn g e; omega, fun e => h1 (.inr (.inr (.inr e)))⟩
  · intro u hu
    rw [ae2_0] at hu
    rcases List.mem_append.1 hu with hu | hu
    · exact h.small u hu
    · rw [List.mem_singleton.1 hu]; exact hsm
  · intro g hg
    rcases hg with hg | hg | hg | hg
    · exact (hs.own g hg).elim (fun e => .inl (.inl e)) fun e => .inr (.inr e)
    · rw [ae2_0] at hg; exact hg.snoc.elim (fun e => .inl (.inr (.inl e))) fun e => .inr (.inl e)
    · rw [ae2_1] at hg; exact hg.snoc.elim (fun e => .inl (.inr (.inr (.inl e)))) fun e => .inr (.inr (hdn g e))
    · rw [ae2_2] at hg; exact .inl (.inr (.inr (.inr hg)))
/-- what Own leaves -/
def Owned4 (w : World) (p : Nat) (t1 : Int) (v : Fin 4 → Value) (ct : Fin 4 → List Value) (l : Value) (e : Ending) (w' : World) : Prop :=
  e = .returned (.tuple #[]) ∧ ∃ c' v' ct', Shelf w' p c' t1 v' ct' ∧ (ct' 0).length ≤ 2 ∧ (ct' 2).length ≤ (ct 2).length + 12 ∧ Ch w w' (fun g => Foot4 p v ct g ∨ l.ownBlock = some g) ∧ ∀ g, Foot4 p v' ct' g → Foot4 p v ct g ∨ l.ownBlock = some g ∨ w.heap.size ≤ g
theorem Foot4.of_wr {p : Nat} {v : Fin 4 → Value} {ct : Fin 4 → List Value} {g : Nat} (h : Wr4 p v ct g) : Foot4 p v ct g := h.elim .inl fun e => .inr (.inl e)
theorem Owned4.wrote {w W w' : World} {p : Nat} {t1 : Int} {v v4 : Fin 4 → Value} {ct : Fin 4 → List Value} {l d : Value} {e : Ending} (hc : Ch w W (Own4 p v)) (hf : ∀ g, Foot4 p v4 (ae2 ct l d) g → Foot4 p v ct g ∨ l.ownBlock = some g ∨ w.heap.size ≤ g) (h0 : (ct 0).length ≤ 2)
    (h : Done35 W p t1 v4 (ae2 ct l d) e w') : Owned4 w p t1 v ct l e w' := by
  obtain ⟨he, c', v', ks, ms, hb, hm, hk, hc2, hf2⟩ := h
  have none_ : ∀ k g, ¬ Fb (uz ks ms 0) k g := fun k g ⟨j, u, _, hu, _⟩ => by simp [uz] at hu
  refine ⟨he, c', v', _, ⟨hb, ⟨rfl, fun i l d hl _ => by simp [uz] at hl⟩, hm, fun i j u x g hu => by simp [uz] at hu, fun g hg => absurd hg (none_ 0 g), fun u hu => by simp [uz] at hu⟩, by simp [uz], ?_, (hc.mono fun g hg => .inl (.inl hg)).trans hc2 fun g hg => ?_, fun g hg => ?_⟩
  · rw [ae2_2, ae2_0, List.length_append] at hk
    simp at hk
    show ks.length ≤ _
    omega
  · rcases hf g (Foot4.of_wr hg) with e | e | e
    · exact .inl (.inl e)
    · exact .inl (.inr e)
    · exact .inr e
  · rcases hf2 g hg with e | e
    · exact hf g e
    · exact .inr (.inr (Nat.le_trans hc.size e))
theorem Owned4.kept {w W : World} {p : Nat} {c1 t1 : Int} {v v4 : Fin 4 → Value} {ct : Fin 4 → List Value} {l d : Value} (hc : Ch w W (Own4 p v)) (hf : ∀ g, Foot4 p v4 (ae2 ct l d) g → Foot4 p v ct g ∨ l.ownBlock = some g ∨ w.heap.size ≤ g) (h0 : (ct 0 ++ [l]).length ≤ 2)
    (h : Shelf W p c1 t1 v4 (ae2 ct l d)) : Owned4 w p t1 v ct l (.returned (.tuple #[])) W :=
  ⟨rfl, c1, v4, _, h, h0, by rw [ae2_2]; omega, hc.mono fun g hg => .inl (.inl hg), hf⟩
set_option maxHeartbeats 4000000 in
set_option maxRecDepth 100000 in
theorem own4_ (w : World) (p : Nat) (c t : Int) (v : Fin 4 → Value) (ct : Fin 4 → List Value) (h : Shelf w p c t v ct) (A : Option Addr) (n cl : Nat) (rs : List S27) (hl : w.ownsRow 0 27 3 (.slice A n cl) n (flat rs)) (hrs : rs.length = n) (hf : ∀ g, (Value.slice A n cl).ownBlock = some g → ¬ Foot4 p v ct g) (hn : n ≤ 549755813888) (ht0 : 0 ≤ t) (ht : t + n ≤ 1099511627000) (h0 : (ct 0).length ≤ 2) (h3 : (ct 2).length ≤ 700000000) :
    Calls Try.prog 21 #[.pointer (some ⟨p, 0, none⟩), .slice A n cl] w (Owned4 w p (t + n) v ct (.slice A n cl)) := by
  obtain ⟨i, hi, hz0, hz1, hz2⟩ := info22
  have c0 := h.sk.hd.cell 0
  have f0 := h.sk.hd.frozen 0
  have c1 := h.sk.hd.cell 1
  have f1 := h.sk.hd.frozen 1
  have c3 := h.sk.hd.cell 3
  have f3 := h.sk.hd.frozen 3
  simp only [hds, List.getElem?_toArray, List.getElem?_cons_zero, List.getElem?_cons_succ] at c0 c1 c3
  obtain ⟨x0, hx0⟩ : ∃ x, x = v 0 := ⟨_, rfl⟩
  rw [← hx0] at c3
  have HX := Lib.hid hx0
  clear hx0
  have H := Lib.hid h
  have HL := Lib.hid hl
  have HF := Lib.hid hf
  have H0 := Lib.hid h0
  have H3 := Lib.hid h3
  have HRS := Lib.hid hrs
  have hm1 := h.sk.count (wrap64 (c + 1))
  have hm2 := hm1.1.total (t + n)
  have HM2 := Lib.hid hm2.1
  have HCM := Lib.hid (hm1.2.trans hm2.2 fun g e => .inl e)
  clear h hl hf h0 h3 hm1 hm2 hrs
  go_enter Try.func21, Try.ntmps21
  refine wp_seq_k (fun K0 hK => ?_)
  have HK0 := Lib.hid hK
  clear hK
  go_wp2
  refine HK0.out _ _ ?_
  clear HK0
  refine wp_seq_k (fun K0 hK => ?_)
  have HK0 := Lib.hid hK
  clear hK
  go_wp2
  refine HK0.out _ _ ?_
  clear HK0
  obtain ⟨W1, hW1⟩ : ∃ W, W = (w.setCell ⟨p, 0, none⟩ (.int .i64 (wrap64 (c + 1)))).setCell ⟨p, 1, none⟩ (.int .i64 (t + n)) := ⟨_, rfl⟩
  rw [← hW1] at HM2 HCM ⊢
  clear hW1 c0 f0 c1 f1 c3 f3
  have c3 := HM2.out.hd.cell 3
  have f3 := HM2.out.hd.frozen 3
  simp only [hds, List.getElem?_toArray, List.getElem?_cons_zero, List.getElem?_cons_succ] at c3
  rw [← HX.out] at c3
  refine wp_seq_k (fun K0 hK => ?_)
  have HK0 := Lib.hid hK
  clear hK
  go_wp2_with (at_builtin; refine wpList_app _ rfl _ _ 38 rfl 0 22 i (.slice none 0 0) 24 Try.underlying38 hi hz0 hz1 hz2 rfl x0 (ct 0) rfl ?q1 ⟨W1.heap.size, 0, none⟩ 1 1 [.slice A n cl] rfl rfl (by decide) ?q2 ?q3 ?q4 ?q5 ?q6 ?_)
  case q1 => rw [HX.out]; exact (HM2.out.alloc _).row 0
  case q2 => exact one_new _ _ _
  case q3 => intro u hu; rw [List.mem_singleton.1 hu]; rfl
  case q4 => have := H0.out; unfold maxLen; omega
  case q5 => have := H0.out; omega
  case q6 => exact Nat.zero_le _
  intro v' w2 hA
  obtain ⟨A3, k3, hv3, _⟩ := hA.row'.form
  obtain ⟨n3, hn3⟩ : ∃ N, N = (ct 0 ++ [Value.slice A n cl]).length := ⟨_, rfl⟩
  rw [← hn3] at hv3
  subst hv3
  clear hn3
  have hb := (HM2.out.alloc (.cells #[.slice A n cl] 22)).app 0 (HX.out ▸ hA) 3 rfl
  have HS := Lib.hid (Stp4.of (((Ch.refl W1 Never).alloc (.cells #[.slice A n cl] 22))) hb.2.1 hb.2.2)
  have HB := Lib.hid hb.1
  have hp : w2.cell? ⟨p, 3, none⟩ = some x0 := by
    have h := (hA.ch.blk (HM2.out.alloc _).hd (HX.out ▸ HM2.out.off 0)).cell 3
    simp only [hds, List.getElem?_toArray, List.getElem?_cons_zero, List.getElem?_cons_succ] at h
    rw [HX.out]; exact h
  have fp := (hA.ch.blk (HM2.out.alloc _).hd (HX.out ▸ HM2.out.off 0)).frozen 3
  clear hA hb
  go_wp2
  refine HK0.out _ _ ?_
  clear HK0 hp fp c3 f3
  obtain ⟨W2, hW2⟩ : ∃ W, W = w2.setCell ⟨p, 3, none⟩ (.slice A3 n3 k3) := ⟨_, rfl⟩
  rw [← hW2] at HB HS ⊢
  clear hW2
  have HC1 := Lib.hid (HCM.out.mono (S' := Own4 p v) fun g e => .inl e)
  have HL1 := Lib.hid (own_ch HL.out HC1.out fun g hg => H.out.sk.sep HL.out hg)
  have HL2 := Lib.hid (own_ch HL1.out HS.out.ch fun g hg => HM2.out.sep HL1.out hg)
  refine wp_seq_k (fun K0 hK => ?_)
  have HK0 := Lib.hid hK
  clear hK
  refine Code.wp_mono (Norm.elim ?_) (P3 W2 p _ _ _ _ HB.out A n cl rs HL2.out hn (by
    have h1 := H.out.fw.1
    have h0 := H0.out
    show (ct 1).length ≤ 1000000
    omega))
  rintro a W4 ⟨e31, e32, e33, e34, e35, e36, e37, e38, e39, e40, e41, rfl, HX4⟩
  refine HK0.out _ _ ?_
  clear HK0
  obtain ⟨v4, d, hb4, hs4, hd4, hdn⟩ := HX4.out
  have hst : Stp4 W1 W4 p v v4 := HS.out.trans hs4
  have hst0 : Stp4 w W4 p v v4 := ⟨HC1.out.trans hst.ch fun g hg => .inl hg, fun g hg => (hst.own g hg).imp id fun h2 => Nat.le_trans HC1.out.size h2⟩
  have hadd := H.out.add (l := .slice A n cl) (d := d) (xs := rs) hb4 hst0 (show Row3 w _ rs from by show w.ownsRow 0 27 3 _ rs.length _; rw [HRS.out]; exact HL.out) (show Row3 W4 _ rs from by show W4.ownsRow 0 27 3 _ rs.length _; rw [HRS.out]; exact hd4) (fun g hg => Nat.le_trans (Nat.le_trans HC1.out.size HS.out.ch.size) (hdn g hg)) HF.out hn (by rw [HRS.out]; omega)
  have HBK := Lib.hid hadd.1
  have HFT := Lib.hid hadd.2
  have HCH := Lib.hid hst0.ch
  clear hadd hst0 hst hd4 hb4 hs4 HX4 hdn HS HB HL2 HL1 HC1 HM2 HCM
  obtain ⟨A5, k5, hv5, _⟩ := (HBK.out.sk.row 0).form
  rw [ae2_0] at hv5
  have c3 := HBK.out.sk.hd.cell 3
  have c0 := HBK.out.sk.hd.cell 0
  simp only [hds, List.getElem?_toArray, List.getElem?_cons_zero, List.getElem?_cons_succ] at c3 c0
  rw [hv5] at c3
  clear hv5
  obtain ⟨N, hN⟩ : ∃ N, N = (ct 0 ++ [Value.slice A n cl]).length := ⟨_, rfl⟩
  rw [← hN] at c3
  have HN := Lib.hid hN
  have hN3 : N ≤ 3 := by have := H0.out; rw [hN, List.length_append]; simp; omega
  clear hN
  have HW := Lib.hid (write4_ W4 p (wrap64 (c + 1)) (t + n) v4 _ HBK.out (by omega) ht (by rw [ae2_0, ← HN.out]; omega) (by rw [ae2_2]; have := H3.out; omega))
  by_cases h3 : 3 ≤ N
  · go_wp2_with (go_at_call 35; refine HW.out.mono ?_; intro e w' hD; have HD := Lib.hid (Owned4.wrote HCH.out HFT.out H0.out hD); have he := hD.1; subst he; clear hD)
    refine bodyPost_end (results_none rfl _ _ _) rfl ?_
    exact HD.out
  · by_cases h1 : N = 1
    · subst h1
      go_wp2_with (go_at_call 35; refine HW.out.mono ?_; intro e w' hD; have HD := Lib.hid (Owned4.wrote HCH.out HFT.out H0.out hD); have he := hD.1; subst he; clear hD)
      all_goals
        refine bodyPost_end (results_none rfl _ _ _) rfl ?_
        first | exact HD.out | exact Owned4.kept HCH.out HFT.out (by rw [← HN.out]; omega) HBK.out
    · go_wp2
      refine bodyPost_end (results_none rfl _ _ _) rfl ?_
      exact Owned4.kept HCH.out HFT.out (by rw [← HN.out]; omega) HBK.out
#print axioms own4_
end Go.Proofs.Ytolhfcefpjfobaa.Bk
end
section
namespace Go.Proofs.Ytolhfcefpjfobaa.Bk
open Go.RowKit Go.Proofs.YtolhfcefpjfobaaW.PrintWords Go.Proofs.Ytolhfcefpjfobaa.Lend Go.Proofs.Ytolhfcefpjfobaa.PR
set_option linter.unusedVariables false
set_option linter.unusedSimpArgs false
attribute [local go_sem] isSome_setCell
set_option maxHeartbeats 8000000 in
set_option maxRecDepth 100000 in
theorem holds4_ (w : World) (p : Nat) (c t : Int) (v : Fin 4 → Value) (ct : Fin 4 → List Value) (h : Sk w p c t v ct) (hp : Pairs3 w (ct 0) (ct 1)) (hs : (ct 0).length ≤ 1000000000) (hk : Marked w (ct 2) (ct 3)) (hs2 : (ct 2).length ≤ 1000000000) :
    Calls Try.prog 22 #[.pointer (some ⟨p, 0, none⟩)] w fun e w' => e = .returned (.bool true) ∧ Ch w w' Never := by
  have H := Lib.hid h
  have HP := Lib.hid hp
  have HK := Lib.hid hk
  have HS := Lib.hid hs
  obtain ⟨n, hn⟩ : ∃ n, n = (ct 2).length := ⟨_, rfl⟩
  have HN := Lib.hid hn
  obtain ⟨A5, k5, hv5, _⟩ := (h.row 2).form
  have c5 := h.hd.cell 5
  have c2 := h.hd.cell 2
  simp only [hds, List.getElem?_toArray, List.getElem?_cons_zero, List.getElem?_cons_succ] at c5 c2
  rw [hv5, ← hn] at c5
  rw [← hn] at hs2
  have HC5 := Lib.hid c5
  have HC2 := Lib.hid c2
  clear h hp hn hv5 c5 c2 hk hs
  go_enter Try.func22, Try.ntmps22
  go_wp2
  go_loopw [3] (fun i wr => ∃ (k : Nat), k ≤ n ∧ i = .int .i64 (k : Int) ∧ Hid (Ch w wr Never)) (fun i _ => n - (RowKit.intOf i).toNat)
  case atStart => exact ⟨0, Nat.zero_le _, rfl, Lib.hid (Ch.refl _ _)⟩
  case round =>
    obtain ⟨k, hk, rfl, hC⟩ := hrel
    have c5 := hC.out.cell HC5.out (fun h => h)
    by_cases hlt : k < n
    · have hl : k < (ct 2).length := by rw [← HN.out]; exact hlt
      have hl1 : k < (ct 3).length := by rw [HK.out.1]; exact hl
      obtain ⟨l0, hl0⟩ : ∃ l, l = (ct 2)[k] := ⟨_, rfl⟩
      obtain ⟨u0, hu0⟩ : ∃ l, l = (ct 3)[k] := ⟨_, rfl⟩
      have HL0 := Lib.hid (show (ct 2)[k]? = some l0 from by rw [hl0]; exact List.getElem?_eq_getElem hl)
      have HU0 := Lib.hid (show (ct 3)[k]? = some u0 from by rw [hu0]; exact List.getElem?_eq_getElem hl1)
      obtain ⟨m, q, rfl, hr, hq⟩ := (HK.out.never hC.out).2 k _ _ HL0.out HU0.out
      have HR := Lib.hid hr
      obtain ⟨B0, e0, rfl, hqe⟩ := own_form hr
      clear hr hl hl1 hl0 hu0
      go_wp2
      go_loopw [4] (fun i wr' => ∃ (j : Nat), j ≤ q ∧ i = .int .i64 (j : Int) ∧ Hid (Ch wr wr' Never)) (fun i _ => q - (RowKit.intOf i).toNat)
      case atStart => exact ⟨0, Nat.zero_le _, rfl, Lib.hid (Ch.refl _ _)⟩
      case round =>
        obtain ⟨j, hj, rfl, hC'⟩ := hrel
        have HX := Lib.hid (H.out.ch (hC.out.trans hC'.out fun _ h => h.elim) fun _ _ h => h)
        obtain ⟨g0, k0, c5', a0, b0, _⟩ := HX.out.at_ 2 5 rfl HL0.out
        rw [← HN.out] at c5' b0
        by_cases hjq : j < q
        · obtain ⟨g1, k1, c6, a1, b1, d1⟩ := HX.out.at_ 3 6 rfl HU0.out
          rw [HK.out.1, ← HN.out] at c6 b1 d1
          obtain ⟨gl, cl, x, hv, hcl, hx, x0, x1, x2, _⟩ := own3_at (own_ch HR.out hC'.out fun _ _ h => h) hjq
          injection hv with v1 v2 v3
          subst v1
          subst v3
          rw [mk3_at q m j hjq] at hx
          obtain rfl := Option.some.inj hx
          clear hx
          obtain ⟨y, hy⟩ : ∃ y, y = mineR (wrap64 (m + (j : Int))) := ⟨_, rfl⟩
          rw [← hy] at x0 x1 x2
          have hmi : ∀ W, Calls Try.prog 36 #[.int .i64 (IntKind.i64.wrap (m + (j : Int)))] W fun e w' => e = .returned (.agg #[.int .i64 y.f0, .int .i64 y.f1, .int .i64 y.f2]) ∧ Ch W w' Never := by
            intro W
            rw [hy]
            rw [Go.IntWalk.i64_left]
            exact mine_ W _
          have HMI := Lib.hid hmi
          clear hmi hy
          obtain ⟨y0, y1, y2⟩ := y
          go_wp2
          go_region_with (go_at_call 36; refine (HMI.out wr.drew).mono ?_; rintro e w2 ⟨rfl, hd⟩; have hd2 : Ch wr w2 Never := ((Ch.refl wr Never).drew).trans hd fun _ h => h.elim; have HD := Lib.hid (hC'.out.trans hd2 fun _ h => h.elim); have c5b := hd2.cell c5' (fun h => h); have c6b := hd2.cell c6 (fun h => h); have a0b := hd2.cell a0 (fun h => h); have a1b := hd2.cell a1 (fun h => h); have x0b := hd2.cell x0 (fun h => h); have x1b := hd2.cell x1 (fun h => h); have x2b := hd2.cell x2 (fun h => h); clear hd hd2)
          all_goals
            go_wp2
            go_roundw
            case rel => exact ⟨j + 1, by omega, by go_num, HD⟩
            case measure => simp [RowKit.intOf]; omega
        · obtain rfl : j = q := by omega
          go_wp2
          go_roundw
          case rel => exact ⟨k + 1, by omega, by go_num, Lib.hid (hC.out.trans hC'.out fun _ h => h.elim)⟩
          case measure => simp [RowKit.intOf]; omega
    · obtain rfl : k = n := by omega
      have c2 := hC.out.cell HC2.out (fun h => h)
      have HU := Lib.hid (untouched4_ wr p c t v ct (H.out.ch hC.out fun _ _ h => h) (HP.out.never hC.out) HS.out)
      go_wp2_with (go_at_call 37; refine HU.out.mono ?_; rintro e w1 ⟨rfl, hc⟩; have HC3 := Lib.hid (hC.out.trans hc fun _ h => h.elim); clear hc)
      go_ret
      exact ⟨rfl, HC3.out⟩
end Go.Proofs.Ytolhfcefpjfobaa.Bk
end
section
namespace Go.Proofs.Ytolhfcefpjfobaa.Bk
open Go.RowKit Go.Proofs.YtolhfcefpjfobaaW.PrintWords Go.Proofs.Ytolhfcefpjfobaa.Lend Go.Proofs.Ytolhfcefpjfobaa.PR
set_option linter.unusedVariables false
set_option linter.unusedSimpArgs false
attribute [local go_sem] isSome_setCell
theorem R_row3 {w : World} {base : Nat} {ok : Nat → Prop} {v : Value} {r : List S27} (h : Kd.R k27 27 w base ok v r) : w.ownsRow base 27 3 v r.length (flat r) := by
  obtain ⟨A, c, he, hl, hc⟩ := Kd.R_reads h
  obtain ⟨inner, h1, h2⟩ := Kd.R_own h
  subst he
  refine ⟨by rw [flat_length, Nat.mul_comm], ?_⟩
  rcases h2 with ⟨hv, h0⟩ | ⟨g, cap, cur, hv, hb, hh, hnc, hcm, hsz, ht⟩
  · injection hv with e1 e2 e3
    subst e1; subst e3
    exact .inl ⟨by rw [e2], e2⟩
  · have hsz1 : cur.size = cap * 3 := hsz
    have hv1 := hv
    injection hv1 with e1 e2 e3
    refine .inr ⟨g, cap, cur, hv, hb, hh, hnc, hcm, hsz, ?_⟩
    have hB : Blk w g 27 cur := hh
    apply List.ext_getElem?
    intro i
    have hfl := flat_length r
    by_cases hi : i < 3 * r.length
    · have hj : i / 3 < r.length := by omega
      obtain ⟨ad, e0, hcell⟩ := hc.2.2 (by omega)
      rw [e1] at e0
      injection e0 with e0
      subst e0
      obtain ⟨cs, hs3, hK, hcs⟩ := hcell (i / 3) _ (List.getElem?_eq_getElem hj)
      obtain rfl := k27_open hK
      have adq : ∀ q, (⟨g, 0, none⟩ : Addr).add q = ⟨g, q, none⟩ := fun q => by
        unfold Addr.add; split <;> simp_all
      have hfa := flat_at r (i / 3) hj
      have hm : i % 3 = 0 ∨ i % 3 = 1 ∨ i % 3 = 2 := by omega
      have key : ∀ q u, ([.int .i64 r[i / 3].f0, .int .i64 r[i / 3].f1, .int .i64 r[i / 3].f2] : List Value)[q]? = some u → cur[i / 3 * 3 + q]? = some u := by
        intro q u hu
        have h3 : w.cell? ((⟨g, 0, none⟩ : Addr).add (i / 3 * 3 + q)) = some u := hcs q u hu
        rw [adq, hB.cell] at h3
        exact h3
      rw [List.getElem?_take, if_pos (by omega), Array.getElem?_toList]
      rcases hm with hm | hm | hm
      · have h4 := key 0 _ rfl
        rw [show i / 3 * 3 + 0 = i from by omega] at h4
        rw [h4]
        conv => rhs; rw [show i = 3 * (i / 3) from by omega]
        exact hfa.1.symm
      · have h4 := key 1 _ rfl
        rw [show i / 3 * 3 + 1 = i from by omega] at h4
        rw [h4]
        conv => rhs; rw [show i = 3 * (i / 3) + 1 from by omega]
        exact hfa.2.1.symm
      · have h4 := key 2 _ rfl
        rw [show i / 3 * 3 + 2 = i from by omega] at h4
        rw [h4]
        conv => rhs; rw [show i = 3 * (i / 3) + 2 from by omega]
        exact hfa.2.2.symm
    · rw [List.getElem?_eq_none (by rw [List.length_take]; omega), List.getElem?_eq_none (by omega)]
/-- a row of bytes, new; a row of relocations, new -/
def NewB (w w' : World) (v : Value) (xs : List Int) : Prop := Row w' 5 v (bs xs) ∧ ∀ g, v.ownBlock = some g → w.heap.size ≤ g
def NewR (w w' : World) (v : Value) (rs : List S27) : Prop := Row3 w' v rs ∧ ∀ g, v.ownBlock = some g → w.heap.size ≤ g
theorem NewB.of {w w' : World} {ok : Nat → Prop} {v : Value} {xs : List Int} (h : Kd.R (Kd.int .u8) 5 w' w.heap.size ok v xs) : NewB w w' v xs ∧ ∃ B d, v = .slice B xs.length d := by
  have h1 := R_row h
  rw [← bs_length] at h1
  have h2 := Row.of_own h1
  obtain ⟨B, d, hv, _⟩ := h2.1.form
  rw [bs_length] at hv
  exact ⟨h2, B, d, hv⟩
theorem NewR.of {w w' : World} {ok : Nat → Prop} {v : Value} {rs : List S27} (h : Kd.R k27 27 w' w.heap.size ok v rs) : NewR w w' v rs ∧ ∃ B d, v = .slice B rs.length d := by
  have h1 := R_row3 h
  obtain ⟨B, d, hv, _⟩ := own_form h1
  exact ⟨own_base h1, B, d, hv⟩
theorem wr_ref (k : Nat) (A0 : Option Addr) (c0 : Nat) (l0 : List S27) (r1 : List Int) (r2 : Int) (w : World) (hr0 : Kd.C k27 w A0 l0.length l0) (hc0 : l0.length ≤ c0) (h : spindleref11_Write.f k l0 = some (r1, r2)) :
    Calls Try.prog 12 #[.slice A0 l0.length c0] w fun e w' => ∃ B d, e = .returned (.tuple #[.slice B r1.length d, .int .i64 r2]) ∧ NewB w w' (.slice B r1.length d) r1 ∧ Ch w w' Never := by
  refine (spindleref11_Write.calls k A0 c0 l0 r1 r2 w hr0 hc0 h).mono ?_
  rintro e w' ⟨v, he, hR, hb⟩
  obtain ⟨h1, B, d, rfl⟩ := NewB.of hR
  exact ⟨B, d, he, h1, Ch.of_below hb⟩
theorem wr_pkg (k : Nat) (A0 : Option Addr) (c0 : Nat) (l0 : List S27) (r1 : List Int) (r2 : Int) (w : World) (hr0 : Kd.C k27 w A0 l0.length l0) (hc0 : l0.length ≤ c0) (h : reloc_Write.f k l0 = some (r1, r2)) :
    Calls Try.prog 13 #[.slice A0 l0.length c0] w fun e w' => ∃ B d, e = .returned (.tuple #[.slice B r1.length d, .int .i64 r2]) ∧ NewB w w' (.slice B r1.length d) r1 ∧ Ch w w' Never := by
  refine (reloc_Write.calls k A0 c0 l0 r1 r2 w hr0 hc0 h).mono ?_
  rintro e w' ⟨v, he, hR, hb⟩
  obtain ⟨h1, B, d, rfl⟩ := NewB.of hR
  exact ⟨B, d, he, h1, Ch.of_below hb⟩
theorem rd_ref (k : Nat) (A0 : Option Addr) (c0 : Nat) (l0 : List Int) (r1 : List S27) (r2 r3 : Int) (w : World) (hr0 : Kd.C (Kd.int .u8) w A0 l0.length l0) (hc0 : l0.length ≤ c0) (h : spindleref11_Read.f k l0 = some (r1, r2, r3)) :
    Calls Try.prog 14 #[.slice A0 l0.length c0] w fun e w' => ∃ B d, e = .returned (.tuple #[.slice B r1.length d, .int .i64 r2, .int .i64 r3]) ∧ NewR w w' (.slice B r1.length d) r1 ∧ Ch w w' Never := by
  refine (spindleref11_Read.calls k A0 c0 l0 r1 r2 r3 w hr0 hc0 h).mono ?_
  rintro e w' ⟨v, he, hR, hb⟩
  obtain ⟨h1, B, d, rfl⟩ := NewR.of hR
  exact ⟨B, d, he, h1, Ch.of_below hb⟩
theorem rd_pkg (k : Nat) (A0 : Option Addr) (c0 : Nat) (l0 : List Int) (r1 : List S27) (r2 r3 : Int) (w : World) (hr0 : Kd.C (Kd.int .u8) w A0 l0.length l0) (hc0 : l0.length ≤ c0) (h : reloc_Read.f k l0 = some (r1, r2, r3)) :
    Calls Try.prog 16 #[.slice A0 l0.length c0] w fun e w' => ∃ B d, e = .returned (.tuple #[.slice B r1.length d, .int .i64 r2, .int .i64 r3]) ∧ NewR w w' (.slice B r1.length d) r1 ∧ Ch w w' Never := by
  refine (reloc_Read.calls k A0 c0 l0 r1 r2 r3 w hr0 hc0 h).mono ?_
  rintro e w' ⟨v, he, hR, hb⟩
  obtain ⟨h1, B, d, rfl⟩ := NewR.of hR
  exact ⟨B, d, he, h1, Ch.of_below hb⟩
theorem cp_ (w : World) (A : Option Addr) (c : Nat) (xs : List Int) (hC : Kd.C (Kd.int .u8) w A xs.length xs) (hc : xs.length ≤ c) (hs : xs.length ≤ 1099511627776) :
    Calls Try.prog 15 #[.slice A xs.length c] w fun e w' => ∃ B d, e = .returned (.slice B xs.length d) ∧ NewB w w' (.slice B xs.length d) xs ∧ Ch w w' Never := by
  refine (spindlelaw0_CopyBytes.calls A c xs xs w hC hc (by unfold spindlelaw0_CopyBytes.f; rw [Option.bind_some, if_pos (by simp only [List.length_nil]; omega), List.nil_append])).mono ?_
  rintro e w' ⟨v, he, hR, hb⟩
  obtain ⟨h1, B, d, rfl⟩ := NewB.of hR
  exact ⟨B, d, he, h1, Ch.of_below hb⟩
theorem NewB.ch {w w1 w2 : World} {v : Value} {xs : List Int} (h : NewB w w1 v xs) (hc : Ch w1 w2 Never) : NewB w w2 v xs := ⟨h.1.ch hc fun _ _ h => h, h.2⟩
theorem NewR.ch {w w1 w2 : World} {v : Value} {rs : List S27} (h : NewR w w1 v rs) (hc : Ch w1 w2 Never) : NewR w w2 v rs := ⟨own_ch h.1 hc fun _ _ h => h, h.2⟩
theorem NewB.C {w w1 : World} {B : Option Addr} {d : Nat} {xs : List Int} (h : NewB w w1 (.slice B xs.length d) xs) : Kd.C (Kd.int .u8) w1 B xs.length xs ∧ xs.length ≤ d := by
  refine ⟨(C_of_row h.1).2, ?_⟩
  obtain ⟨A', c', hv, hc⟩ := h.1.form
  rw [bs_length] at hv hc
  injection hv with _ _ e3
  omega
theorem NewR.C {w w1 : World} {B : Option Addr} {d : Nat} {rs : List S27} (h : NewR w w1 (.slice B rs.length d) rs) : Kd.C k27 w1 B rs.length rs ∧ rs.length ≤ d := ⟨(C_of_row3 h.1).2.2, (C_of_row3 h.1).2.1⟩
/-- what was read at the start still reads so -/
theorem C_ch {α : Type} {K : Kd α} {w w' : World} {A : Option Addr} {n : Nat} {xs : List α} (h : Kd.C K w A n xs) (hc : Ch w w' Never) : Kd.C K w' A n xs :=
  Kd.C_below h ⟨hc.os, hc.tape, hc.output, hc.size, fun i hi => hc.block i hi fun h => h⟩
section
variable {w wr w2 : World} {s b : Nat} {c1 t1 c2 t2 : Int} {v1 : Fin 4 → Value} {ct1 : Fin 4 → List Value} {v2 : Fin 5 → Value} {ct2 : Fin 5 → List Value} {S : Nat → Prop}
theorem Shelf.lt (h : Shelf w s c1 t1 v1 ct1) : ∀ g, Foot4 s v1 ct1 g → g < w.heap.size := fun g hg => by
  rcases hg with hg | hg | hg | ⟨j, u, _, hu, hg⟩
  · exact h.sk.lt hg
  · exact h.fw.lt (.inl hg)
  · exact h.fw.lt (.inr hg)
  · obtain ⟨n, m, hr⟩ := h.kw.rows (List.mem_of_getElem? hu)
    exact own3_lt hr g hg
theorem Book.lt (h : Book w b c2 t2 v2 ct2) : ∀ g, Foot b v2 ct2 g → g < w.heap.size := fun g hg => by
  rcases hg with hg | hg | hg | hg | hg
  · exact h.bk.lt hg
  · exact h.fh.lt (.inl hg)
  · exact h.fh.lt (.inr hg)
  · exact h.kw.lt (.inl hg)
  · exact h.kw.lt (.inr hg)
theorem fb_of {ks : List Value} {u : Value} {g : Nat} (hu : u ∈ ks) (hg : u.ownBlock = some g) : Fb ks 0 g := by
  obtain ⟨i, hi⟩ := mem_at hu
  exact ⟨i, u, Nat.zero_le _, hi, hg⟩
theorem Shelf.ch (h : Shelf w s c1 t1 v1 ct1) (hc : Ch w w2 S) (hn : ∀ g, Foot4 s v1 ct1 g → ¬ S g) : Shelf w2 s c1 t1 v1 ct1 :=
  ⟨h.sk.ch hc fun g hg => hn g (.inl hg), h.fw.ch hc fun u hu g hg => hn g (hu.elim (fun e => .inr (.inl (fb_of e hg))) fun e => .inr (.inr (.inl (fb_of e hg)))), h.kw.ch hc fun u hu g hg => hn g (.inr (.inr (.inr (fb_of hu hg)))), h.apart, h.far, h.small⟩
theorem Book.ch (h : Book w b c2 t2 v2 ct2) (hc : Ch w w2 S) (hn : ∀ g, Foot b v2 ct2 g → ¬ S g) : Book w2 b c2 t2 v2 ct2 :=
  ⟨h.bk.ch hc fun g hg => hn g (.inl hg), h.fh.ch hc fun u hu g hg => hn g (hu.elim (fun e => .inr (.inl (fb_of e hg))) fun e => .inr (.inr (.inl (fb_of e hg)))), h.kw.ch hc fun u hu g hg => hn g (hu.elim (fun e => .inr (.inr (.inr (.inl (fb_of e hg))))) fun e => .inr (.inr (.inr (.inr (fb_of e hg))))), h.mlen, h.mint, h.apart, h.far, h.small⟩
/-- the state between the rounds -/
structure Bo (w wr : World) (s b k : Nat) (c1 t1 c2 t2 : Int) (v1 : Fin 4 → Value) (ct1 : Fin 4 → List Value) (v2 : Fin 5 → Value) (ct2 : Fin 5 → List Value) : Prop where
  ch : Ch w wr Never
  sh : Shelf wr s c1 t1 v1 ct1
  bo : Book wr b c2 t2 v2 ct2
  new1 : ∀ g, Foot4 s v1 ct1 g → w.heap.size ≤ g
  new2 : ∀ g, Foot b v2 ct2 g → w.heap.size ≤ g
  sep : ∀ g, Foot b v2 ct2 g → ¬ Foot4 s v1 ct1 g
  s0 : (ct1 0).length ≤ 2
  s2 : (ct1 2).length ≤ 12 * k
  b0 : (ct2 0).length ≤ 2
  b3 : (ct2 3).length ≤ 18 * k
  t10 : 0 ≤ t1
  t1m : t1 ≤ 100000000
  t20 : 0 ≤ t2
  t2m : t2 ≤ 100000000
theorem Bo.never {k : Nat} (h : Bo w wr s b k c1 t1 c2 t2 v1 ct1 v2 ct2) (hc : Ch wr w2 Never) : Bo w w2 s b k c1 t1 c2 t2 v1 ct1 v2 ct2 :=
  ⟨h.ch.trans hc fun _ h => h.elim, h.sh.ch hc fun _ _ h => h, h.bo.ch hc fun _ _ h => h, h.new1, h.new2, h.sep, h.s0, h.s2, h.b0, h.b3, h.t10, h.t1m, h.t20, h.t2m⟩
theorem Bo.next {k : Nat} (h : Bo w wr s b k c1 t1 c2 t2 v1 ct1 v2 ct2) : Bo w wr s b (k + 1) c1 t1 c2 t2 v1 ct1 v2 ct2 :=
  ⟨h.ch, h.sh, h.bo, h.new1, h.new2, h.sep, h.s0, by have := h.s2; omega, h.b0, by have := h.b3; omega, h.t10, h.t1m, h.t20, h.t2m⟩
end
end Go.Proofs.Ytolhfcefpjfobaa.Bk
end
section
namespace Go.Proofs.Ytolhfcefpjfobaa.Bk
open Go.RowKit Go.Proofs.YtolhfcefpjfobaaW.PrintWords Go.Proofs.Ytolhfcefpjfobaa.Lend Go.Proofs.Ytolhfcefpjfobaa.PR
set_option linter.unusedVariables false
set_option linter.unusedSimpArgs false
attribute [local go_sem] isSome_setCell
/-- the state between the two Owns of a round -/
structure Half (w W1 : World) (s b k : Nat) (c1 t1 c2 t2 : Int) (v1 : Fin 4 → Value) (ct1 : Fin 4 → List Value) (v2 : Fin 5 → Value) (ct2 : Fin 5 → List Value) (rl : Value) : Prop where
  ch : Ch w W1 Never
  sh : Shelf W1 s c1 t1 v1 ct1
  bo : Book W1 b c2 t2 v2 ct2
  new1 : ∀ g, Foot4 s v1 ct1 g → w.heap.size ≤ g
  new2 : ∀ g, Foot b v2 ct2 g → w.heap.size ≤ g
  sep : ∀ g, Foot b v2 ct2 g → ¬ Foot4 s v1 ct1 g ∧ rl.ownBlock ≠ some g
  rn : ∀ g, rl.ownBlock = some g → ¬ Foot4 s v1 ct1 g ∧ w.heap.size ≤ g
  s0 : (ct1 0).length ≤ 2
  s2 : (ct1 2).length ≤ 12 * k
  b0 : (ct2 0).length ≤ 2
  b3 : (ct2 3).length ≤ 18 * (k + 1)
  t20 : 0 ≤ t2
  t2m : t2 ≤ 100000000
theorem Bo.half {w W W1 : World} {s b k M n : Nat} {c1 t1 c2 t2 : Int} {v1 : Fin 4 → Value} {ct1 : Fin 4 → List Value} {v2 : Fin 5 → Value} {ct2 : Fin 5 → List Value} {wl rl : Value} {rs : List S27} {e : Ending}
    (h : Bo w W s b k c1 t1 c2 t2 v1 ct1 v2 ct2) (hM1 : ∀ g, Foot4 s v1 ct1 g → g < M) (hM2 : ∀ g, Foot b v2 ct2 g → g < M) (hwM : w.heap.size ≤ M) (hw : ∀ g, wl.ownBlock = some g → M ≤ g) (hr : ∀ g, rl.ownBlock = some g → M ≤ g) (hwr : ∀ g, wl.ownBlock = some g → rl.ownBlock ≠ some g)
    (hrow : Row3 W rl rs) (hn : n ≤ 20000000) (ht2 : t2 ≤ 3000) (ho : Owned W b (t2 + n) v2 ct2 wl e W1) :
    Row3 W1 rl rs ∧ ∃ c' v' ct', Half w W1 s b k c1 t1 c' (t2 + n) v1 ct1 v' ct' rl := by
  obtain ⟨_, c', v', ct', hb, h0, h3, hc, hf⟩ := ho
  have f4 : ∀ g, Foot4 s v1 ct1 g → ¬ (Foot b v2 ct2 g ∨ wl.ownBlock = some g) := fun g hg e => by
    rcases e with e | e
    · exact h.sep g e hg
    · have := hM1 g hg; have := hw g e; omega
  have hrl : ∀ g, rl.ownBlock = some g → ¬ (Foot b v2 ct2 g ∨ wl.ownBlock = some g) := fun g hg e => by
    rcases e with e | e
    · have := hM2 g e; have := hr g hg; omega
    · exact hwr g e hg
  have lt4 := h.sh.lt
  have ltr := own3_lt hrow
  have ws := h.ch.size
  refine ⟨own_ch hrow hc hrl, c', v', ct', ⟨?_, h.sh.ch hc f4, hb, h.new1, fun g hg => ?_, fun g hg => ?_, fun g hg => ⟨fun e => ?_, ?_⟩, h.s0, h.s2, h0, ?_, ?_, ?_⟩⟩
  · refine (h.ch.trans hc fun g hg => ?_)
    right
    rcases hg with e | e
    · exact h.new2 g e
    · have := hw g e; omega
  · rcases hf g hg with e | e | e
    · exact h.new2 g e
    · have := hw g e; omega
    · omega
  · rcases hf g hg with e | e | e
    · exact ⟨h.sep g e, fun e2 => hrl g e2 (.inl e)⟩
    · exact ⟨fun e2 => f4 g e2 (.inr e), hwr g e⟩
    · exact ⟨fun e2 => by have := lt4 g e2; omega, fun e2 => by have := ltr g e2; omega⟩
  · have := hM1 g e; have := hr g hg; omega
  · have := hr g hg; omega
  · have := h.b3; omega
  · have := h.t20; omega
  · omega
theorem Half.done {w W1 W2 : World} {s b k n : Nat} {c1 t1 c2 t2 : Int} {v1 : Fin 4 → Value} {ct1 : Fin 4 → List Value} {v2 : Fin 5 → Value} {ct2 : Fin 5 → List Value} {rl : Value} {rs : List S27} {e : Ending}
    (h : Half w W1 s b k c1 t1 c2 t2 v1 ct1 v2 ct2 rl) (hrow : Row3 W1 rl rs) (hn : n ≤ 20000000) (ht0 : 0 ≤ t1) (ht1 : t1 ≤ 3000) (ho : Owned4 W1 s (t1 + n) v1 ct1 rl e W2) :
    ∃ c' v' ct', Bo w W2 s b (k + 1) c' (t1 + n) c2 t2 v' ct' v2 ct2 := by
  obtain ⟨_, c', v', ct', hb, h0, h2, hc, hf⟩ := ho
  have fb : ∀ g, Foot b v2 ct2 g → ¬ (Foot4 s v1 ct1 g ∨ rl.ownBlock = some g) := fun g hg e => by
    rcases e with e | e
    · exact (h.sep g hg).1 e
    · exact (h.sep g hg).2 e
  have ltb := h.bo.lt
  have ws := h.ch.size
  refine ⟨c', v', ct', ⟨?_, hb, h.bo.ch hc fb, fun g hg => ?_, h.new2, fun g hg e => ?_, h0, ?_, h.b0, h.b3, by omega, by omega, h.t20, h.t2m⟩⟩
  · refine (h.ch.trans hc fun g hg => ?_)
    right
    rcases hg with e | e
    · exact h.new1 g e
    · exact (h.rn g e).2
  · rcases hf g hg with e | e | e
    · exact h.new1 g e
    · exact (h.rn g e).2
    · omega
  · rcases hf g e with e | e | e
    · exact fb g hg (.inl e)
    · exact fb g hg (.inr e)
    · have := ltb g hg; omega
  · have := h.s2; omega
/-- the empty shelf -/
theorem Shelf.new {w : World} {p : Nat} (h : Blk w p 41 #[.int .i64 0, .int .i64 0, .bool false, .slice none 0 0, .slice none 0 0, .slice none 0 0, .slice none 0 0]) : Shelf w p 0 0 (fun _ => .slice none 0 0) (fun _ => []) := by
  refine ⟨⟨h, fun i => Row.nil _ _, fun i j _ g hg => by simp [Value.ownBlock] at hg⟩, ⟨rfl, fun i l d hl _ => by simp at hl⟩, ⟨rfl, fun i l d hl _ => by simp at hl⟩, fun i j u x g hu => by simp at hu, fun g hg => ?_, fun u hu => by simp at hu⟩
  obtain ⟨j, u, _, hu, _⟩ := hg
  simp at hu
theorem Bo.first (w : World) : Bo w ((w.alloc (.cells #[.int .i64 0, .int .i64 0, .bool false, .slice none 0 0, .slice none 0 0, .slice none 0 0, .slice none 0 0] 41)).alloc (.cells #[.int .i64 0, .int .i64 0, .bool false, .slice none 0 0, .slice none 0 0, .slice none 0 0, .slice none 0 0, .slice none 0 0] 45)) w.heap.size (w.heap.size + 1) 0 0 0 0 0 (fun _ => .slice none 0 0) (fun _ => []) (fun _ => .slice none 0 0) (fun _ => []) := by
  have f4 : ∀ g, Foot4 w.heap.size (fun _ => Value.slice none 0 0) (fun _ => ([] : List Value)) g → g = w.heap.size := fun g hg => by
    rcases hg with (e | ⟨i, e⟩) | ⟨j, u, _, hu, _⟩ | ⟨j, u, _, hu, _⟩ | ⟨j, u, _, hu, _⟩
    · exact e
    · simp [Value.ownBlock] at e
    all_goals simp at hu
  have f5 : ∀ g, Foot (w.heap.size + 1) (fun _ => Value.slice none 0 0) (fun _ => ([] : List Value)) g → g = w.heap.size + 1 := fun g hg => by
    rcases hg with (e | ⟨i, e⟩) | ⟨j, u, _, hu, _⟩ | ⟨j, u, _, hu, _⟩ | ⟨j, u, _, hu, _⟩ | ⟨j, u, _, hu, _⟩
    · exact e
    · simp [Value.ownBlock] at e
    all_goals simp at hu
  have e1 : (w.alloc (.cells #[.int .i64 0, .int .i64 0, .bool false, .slice none 0 0, .slice none 0 0, .slice none 0 0, .slice none 0 0] 41)).heap.size = w.heap.size + 1 := by
    show (w.heap.push _).size = _
    rw [Array.size_push]
  refine ⟨((Ch.refl w Never).alloc _).alloc _, Shelf.new ((Blk.new w 41 _).alloc _), Book.new (by rw [← e1]; exact Blk.new _ 45 _), fun g hg => by rw [f4 g hg]; exact Nat.le_refl _, fun g hg => by rw [f5 g hg]; omega, fun g hg e => by have := f4 g e; have := f5 g hg; omega, by simp, by simp, by simp, by simp, by omega, by omega, by omega, by omega⟩
end Go.Proofs.Ytolhfcefpjfobaa.Bk
end
section
namespace Go.Proofs.Ytolhfcefpjfobaa.Bk
open Go.RowKit Go.Proofs.YtolhfcefpjfobaaW.PrintWords Go.Proofs.Ytolhfcefpjfobaa.Lend Go.Proofs.Ytolhfcefpjfobaa.PR
set_option linter.unusedVariables false
set_option linter.unusedSimpArgs false
attribute [local go_sem] isSome_setCell
theorem below_of_ch {w w' : World} (h : Ch w w' Never) : Below w.heap.size w w' := ⟨h.os, h.tape, h.output, h.size, fun i hi => h.block i hi fun h => h⟩
theorem NewB.Cn {w w1 : World} {B : Option Addr} {n d : Nat} {xs : List Int} (h : NewB w w1 (.slice B n d) xs) : Kd.C (Kd.int .u8) w1 B n xs ∧ n ≤ d := by
  have hn := (C_of_row h.1).1
  subst hn
  exact h.C
theorem ch2 {w w1 w2 : World} (h : Ch w w1 Never) (h2 : Ch w1 w2 Never) : Ch w w2 Never := h.trans h2 fun _ h => h.elim
set_option maxHeartbeats 8000000 in
set_option maxRecDepth 100000 in
theorem owns_ (k0 : Nat) (w : World) (A : Option Addr) (c : Nat) (rs : List S27) (Ab : Option Addr) (cb : Nat) (a : List Int) (r1 : List Int) (r2 : Int) (q1 : List S27) (q2 q3 : Int)
    (hc : Kd.C k27 w A rs.length rs) (hac : rs.length ≤ c) (hcb : Kd.C (Kd.int .u8) w Ab a.length a) (hab : a.length ≤ cb) (hsa : a.length ≤ 1048576)
    (hw1 : spindleref11_Write.f k0 rs = some (r1, r2)) (hw2 : reloc_Write.f k0 rs = some (r1, r2)) (hr1 : r1.length ≤ 20000000)
    (hd1 : spindleref11_Read.f k0 a = some (q1, q2, q3)) (hd2 : reloc_Read.f k0 a = some (q1, q2, q3)) (hq1 : q1.length ≤ 20000000)
    (hs1 : spindlelaw11_SameRels.f k0 q1 q1 = some true) (hs2 : spindlelaw0_SameBytes.f r1 r1 = some true) (hn1 : spindlelaw0_Num.f r2 = some r2) (hn2 : spindlelaw0_Num.f q3 = some q3) (hw : spindlelaw11_awake.f k0 = some true) :
    Calls Try.prog 5 #[.slice A rs.length c, .slice Ab a.length cb] w fun e w' => e = .returned (.bool true) ∧ Below w.heap.size w w' := by
  obtain ⟨nr, hnr⟩ : ∃ n, n = rs.length := ⟨_, rfl⟩
  obtain ⟨na, hna⟩ : ∃ n, n = a.length := ⟨_, rfl⟩
  have HWR := Lib.hid (fun W (h : Ch w W Never) => wr_ref k0 A c rs r1 r2 W (C_ch hc h) hac hw1)
  have HWP := Lib.hid (fun W (h : Ch w W Never) => wr_pkg k0 A c rs r1 r2 W (C_ch hc h) hac hw2)
  have HRP := Lib.hid (fun W (h : Ch w W Never) => rd_pkg k0 Ab cb a q1 q2 q3 W (C_ch hcb h) hab hd2)
  have HCP := Lib.hid (fun W (h : Ch w W Never) => cp_ W Ab cb a (C_ch hcb h) hab (by omega))
  have HRR := Lib.hid (fun B d W (hC : Kd.C (Kd.int .u8) W B a.length a) (hl : a.length ≤ d) => rd_ref k0 B d a q1 q2 q3 W hC hl hd1)
  have HS1 := Lib.hid hs1
  have HS2 := Lib.hid hs2
  have HN1 := Lib.hid hn1
  have HN2 := Lib.hid hn2
  have HAW := Lib.hid hw
  rw [← hnr] at HWR HWP ⊢
  rw [← hna] at HRP HCP HRR ⊢
  have HB0 := Lib.hid (Bo.first w)
  clear hc hac hcb hab hw1 hw2 hd1 hd2 hs1 hs2 hn1 hn2 hw hnr hna
  go_enter Try.func5, Try.ntmps5
  go_wp2
  go_loopw [7] (fun i wr => ∃ (k : Nat) (c1 t1 c2 t2 : Int) (v1 : Fin 4 → Value) (ct1 : Fin 4 → List Value) (v2 : Fin 5 → Value) (ct2 : Fin 5 → List Value), k ≤ 9 ∧ i = .int .i64 (k : Int) ∧ Hid (Bo w wr w.heap.size (w.heap.size + 1) k c1 t1 c2 t2 v1 ct1 v2 ct2)) (fun i _ => 9 - (RowKit.intOf i).toNat)
  case atStart => exact ⟨0, _, _, _, _, _, _, _, _, Nat.zero_le _, rfl, HB0⟩
  case round =>
    obtain ⟨k, c1, t1, c2, t2, v1, ct1, v2, ct2, hk, rfl, hB⟩ := hrel
    by_cases hlt : k < 9
    · go_wp2_with (first
        | (go_at_call 12; refine (HWR.out _ hB.out.ch).mono ?_; rintro e w1 ⟨B1, d1, rfl, p1, p2⟩; have HA1 := Lib.hid p1; have HC1 := Lib.hid (ch2 hB.out.ch p2); have HX1 := Lib.hid p2; clear p1 p2)
        | (go_at_call 13; refine (HWP.out _ HC1.out).mono ?_; rintro e w2 ⟨B2, d2, rfl, p1, p2⟩; have HA2 := Lib.hid p1; have HC2 := Lib.hid (ch2 HC1.out p2); have HX2 := Lib.hid p2; clear p1 p2)
        | (go_at_call 15; refine (HCP.out _ HC2.out).mono ?_; rintro e w3 ⟨B3, d3, rfl, p1, p2⟩; have HA3 := Lib.hid p1; have HC3 := Lib.hid (ch2 HC2.out p2); have HX3 := Lib.hid p2; clear p1 p2)
        | (go_at_call 14; refine (HRR.out B3 d3 _ HA3.out.Cn.1 HA3.out.Cn.2).mono ?_; rintro e w4 ⟨B4, d4, rfl, p1, p2⟩; have HA4 := Lib.hid p1; have HC4 := Lib.hid (ch2 HC3.out p2); have HX4 := Lib.hid p2; clear p1 p2)
        | (go_at_call 16; refine (HRP.out _ HC4.out).mono ?_; rintro e w5 ⟨B5, d5, rfl, p1, p2⟩; have HA5 := Lib.hid p1; have HC5 := Lib.hid (ch2 HC4.out p2); have HX5 := Lib.hid p2; clear p1 p2; have HW5 := Lib.hid (((HA2.out.ch HX3.out).ch HX4.out).ch HX5.out); have HV5 := Lib.hid ((((HA1.out.ch HX2.out).ch HX3.out).ch HX4.out).ch HX5.out); have HQ5 := Lib.hid (HA4.out.ch HX5.out))
        | (go_at_call 17; refine (spindlelaw0_SameBytes.calls _ _ r1 _ _ r1 true _ HW5.out.C.1 HW5.out.C.2 HV5.out.C.1 HV5.out.C.2 HS2.out).mono ?_; rintro e w6 ⟨rfl, hd⟩; have HX6 := Lib.hid (Ch.of_drawn hd); clear hd)
        | (go_at_call 18; refine (spindlelaw0_Num.calls r2 r2 _ HN1.out).mono ?_; rintro e w7 ⟨rfl, hd⟩; have HX7 := Lib.hid (ch2 HX6.out (Ch.of_drawn hd)); clear hd)
        | (go_at_call 19; refine (spindlelaw11_SameRels.calls k0 _ _ q1 _ _ q1 true _ (HA5.out.ch HX7.out).C.1 HA5.out.C.2 (HQ5.out.ch HX7.out).C.1 HQ5.out.C.2 HS1.out).mono ?_; rintro e w8 ⟨rfl, hd⟩; have HX8 := Lib.hid (ch2 HX7.out (Ch.of_drawn hd)); clear hd)
        | (go_at_call 18; refine (spindlelaw0_Num.calls q3 q3 _ HN2.out).mono ?_; rintro e w9 ⟨rfl, hd⟩; have HX9 := Lib.hid (ch2 HX8.out (Ch.of_drawn hd)); clear hd))
      have hX9 := ch2 (ch2 (ch2 (ch2 (ch2 (ch2 HX1.out HX2.out) HX3.out) HX4.out) HX5.out) HX9.out) ((Ch.refl w9 Never).drew)
      have HB9 := Lib.hid (hB.out.never hX9)
      have HW9 := Lib.hid ((HW5.out.ch HX9.out).ch ((Ch.refl w9 Never).drew))
      have HR9 := Lib.hid ((HA5.out.ch HX9.out).ch ((Ch.refl w9 Never).drew))
      have hz2 : ∀ g, (Value.slice B2 r1.length d2).ownBlock = some g → wr.heap.size ≤ g := fun g hg => Nat.le_trans HX1.out.size (HA2.out.2 g hg)
      have hz5 : ∀ g, (Value.slice B5 q1.length d5).ownBlock = some g → wr.heap.size ≤ g := fun g hg => Nat.le_trans (Nat.le_trans (Nat.le_trans (Nat.le_trans HX1.out.size HX2.out.size) HX3.out.size) HX4.out.size) (HA5.out.2 g hg)
      have HZ2 := Lib.hid hz2
      have HZ5 := Lib.hid hz5
      have HM1 := Lib.hid hB.out.sh.lt
      have HM2 := Lib.hid hB.out.bo.lt
      have HMW := Lib.hid hB.out.ch.size
      have x1 : w9.cell? ⟨w.heap.size, 1, none⟩ = some (.int .i64 t1) := HB9.out.sh.sk.hd.cell 1
      have x2 : w9.cell? ⟨w.heap.size + 1, 1, none⟩ = some (.int .i64 t2) := HB9.out.bo.bk.hd.cell 1
      have hb1 := HB9.out.t10
      have hb2 := HB9.out.t1m
      have hb3 := HB9.out.t20
      have hb4 := HB9.out.t2m
      have HEND := Lib.hid (fun (W : World) (c1 t1 c2 t2 : Int) (v1 : Fin 4 → Value) (ct1 : Fin 4 → List Value) (v2 : Fin 5 → Value) (ct2 : Fin 5 → List Value) (h : Bo w W w.heap.size (w.heap.size + 1) (k + 1) c1 t1 c2 t2 v1 ct1 v2 ct2) => And.intro (holds4_ W w.heap.size c1 t1 v1 ct1 h.sh.sk h.sh.fw (by have := h.s0; omega) h.sh.kw (by have := h.s2; omega)) (fun W' (hc : Ch W W' Never) => holds_ W' (w.heap.size + 1) c2 t2 v2 ct2 (h.bo.bk.ch hc fun _ _ h => h) (h.bo.fh.never hc) (by have := h.b0; omega) (h.bo.kw.never hc) (by have := h.b3; omega)))
      clear HA1 HA2 HA3 HA4 HA5 HC1 HC2 HC3 HC4 HC5 HX1 HX2 HX3 HX4 HX5 HX6 HX7 HX8 HX9 HW5 HV5 HQ5 hX9 hz2 hz5 HWR HWP HRP HCP HRR HS1 HS2 HN1 HN2 HAW HB0
      by_cases hsum : t1 + t2 < 3000
      · have HOW := Lib.hid (fun mk => own_ w9.drew (w.heap.size + 1) c2 t2 mk v2 ct2 HB9.out.bo B2 r1.length d2 r1 HW9.out.1 (fun g hg hf => by have := HM2.out g hf; have := HZ2.out g hg; omega) (by omega) hb3 (by omega) HB9.out.b0 (by have := HB9.out.b3; omega))
        go_region
        go_wp2_with (first
          | (go_at_call 20; refine (HOW.out _).mono ?_; intro e W1 ho; have hh := Bo.half HB9.out HM1.out HM2.out HMW.out HZ2.out HZ5.out (fun g hg => own_other HW9.out.1 HR9.out.1 (by decide) hg) HR9.out.1 hr1 (by omega) ho; have he := ho.1; subst he; obtain ⟨hrow, c', v', ct', hH⟩ := hh; have HROW := Lib.hid hrow; have HH := Lib.hid hH; have HO4 := Lib.hid (own4_ W1 w.heap.size c1 t1 v1 ct1 hH.sh B5 q1.length d5 q1 hrow rfl (fun g hg => (hH.rn g hg).1) (by omega) hb1 (by omega) hH.s0 (by have := hH.s2; omega)); clear ho hrow hH)
          | (go_at_call 21; refine HO4.out.mono ?_; intro e W2 ho; have hh := HH.out.done HROW.out hq1 hb1 (by omega) ho; have he := ho.1; subst he; obtain ⟨c'', v'', ct'', hB2⟩ := hh; have HE := Lib.hid (HEND.out W2 _ _ _ _ _ _ _ _ hB2); have HBX := Lib.hid hB2; clear ho hB2)
          | (go_at_call 22; refine HE.out.1.mono ?_; rintro e W3 ⟨rfl, hc⟩; have HC3 := Lib.hid hc; clear hc)
          | (go_at_call 23; refine (HE.out.2 W3 HC3.out).mono ?_; rintro e W4 ⟨rfl, hc⟩; have HC4 := Lib.hid (ch2 HC3.out hc); clear hc))
        go_roundw
        case rel => exact ⟨k + 1, _, _, _, _, _, _, _, _, by omega, by go_num, Lib.hid (HBX.out.never HC4.out)⟩
        case measure => simp [RowKit.intOf]; omega
      · have HE := Lib.hid (HEND.out w9.drew _ _ _ _ _ _ _ _ HB9.out.next)
        go_region
        go_wp2_with (first
          | (go_at_call 22; refine HE.out.1.mono ?_; rintro e W3 ⟨rfl, hc⟩; have HC3 := Lib.hid hc; clear hc)
          | (go_at_call 23; refine (HE.out.2 W3 HC3.out).mono ?_; rintro e W4 ⟨rfl, hc⟩; have HC4 := Lib.hid (ch2 HC3.out hc); clear hc))
        go_roundw
        case rel => exact ⟨k + 1, _, _, _, _, _, _, _, _, by omega, by go_num, Lib.hid (HB9.out.next.never HC4.out)⟩
        case measure => simp [RowKit.intOf]; omega
    · obtain rfl : k = 9 := by omega
      go_wp2_with (go_at_call 9; refine (spindlelaw11_awake.calls k0 true _ HAW.out).mono ?_; rintro e w5 ⟨rfl, p1⟩; have HC9 := Lib.hid (ch2 hB.out.ch (Ch.of_below p1)); clear p1)
      go_ret
      exact ⟨rfl, below_of_ch HC9.out⟩
#print axioms owns_
end Go.Proofs.Ytolhfcefpjfobaa.Bk
end
