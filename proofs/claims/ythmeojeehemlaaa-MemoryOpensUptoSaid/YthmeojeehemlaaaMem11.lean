/- Package memory: Add, the walk (printed by gen_add.py, a program of this session). -/
import Derived.Test.YthmeojeehemlaaaMem10
namespace Go.Proofs.Ythmeojeehemlaaa.Mem
open Go.RowKit Go.Lib Go.Proofs.YthmeojeehemlaaaW.PrintWords
open Go.Proofs.Ythmeojeehemlaaa.PM
set_option linter.unusedVariables false
set_option linter.unusedSimpArgs false
attribute [local go_sem] isSome_setCell
theorem quiet_at {P : Program} {f : FuncId} {args : Array Value} {w : World} {q a : Nat} {v : Value} (h : Calls P f args (w.drewN (q + a)) fun e w' => e = .returned v ∧ ∃ m, w' = (w.drewN (q + a)).drewN m) : Calls P f args (w.drewN (q + a)) fun e w'' => e = .returned v ∧ ∃ n, w'' = w.drewN (q + n) :=
  h.mono fun _ _ ⟨he, m, hm⟩ => ⟨he, a + m, by rw [hm, World.drewN_drewN, Nat.add_assoc]⟩
def Norm (R : Act → World → Prop) : Exit → Act → World → Prop
  | .normal, a, w => R a w
  | _, _, _ => False
theorem Norm.elim {R : Act → World → Prop} {Q : Exit → Act → World → Prop} (h : ∀ a w, R a w → Q .normal a w) : ∀ e a w, Norm R e a w → Q e a w := by
  intro e a w hn
  cases e <;> first | exact h a w hn | exact False.elim hn
theorem insertR_ (w : World) (P : Option Addr) (cap : Nat) (rs : List Reg) (K : Nat) (rg : Reg) (vb : Nat) (hrow : RowAt w P cap rs) (hk : K ≤ rs.length) (hv : Blk w vb 106 #[ptrV rg]) (hvp : ∀ p, P = some p → vb ≠ p.block) (hbig : (rs.length + 1) * 8 ≤ 140737488355328) :
    Calls Try.prog 61 #[.slice P rs.length cap, .int .i64 K, .slice (some ⟨vb, 0, none⟩) 1 1] w fun e w' => ∃ P' cap', e = .returned (.slice P' (rs.length + 1) cap') ∧ PRow w' P' cap' ((rs.map ptrV).take K ++ ptrV rg :: (rs.map ptrV).drop K) ∧ Moved w w' P P' := by
  have h := insert_ w P cap (rs.map ptrV) K (ptrV rg) vb hrow.prow (by simpa using hk) rfl hv hvp (by simpa using hbig)
  rw [List.length_map] at h
  exact h
/-- what stands behind Add's making of the region -/
def Mid (B : Nat) (w : World) (s : Nat) (rs : List Reg) (f : Int) (l : List Int) (W : World) (x : Nat) (A' : Option Addr) (c' : Nat) : Prop :=
  St B W s rs ∧ RegAt W ⟨x, f, A', c', l⟩ ∧ (∀ q ∈ rs, 0 < l.length → 0 < q.data.length → A' ≠ q.A) ∧ (∀ d, A' = some ⟨d, 0, none⟩ → 0 < l.length → B ≤ d) ∧ Below B w W
theorem mid_of {B : Nat} {w w0 w' : World} {s : Nat} {rs : List Reg} {f : Int} {l : List Int} {A' : Option Addr} {c' : Nat} (h : St B w s rs) (h0 : Below w.heap.size w w0) (hD : Dat w' A' c' l) (hb : Below w0.heap.size w0 w') (hfr : 0 < l.length → ∀ d, A' = some ⟨d, 0, none⟩ → w0.heap.size ≤ d) (hf0 : 0 ≤ f) (hf1 : f < 18446744073709551616) :
    Mid B w s rs f l (w'.alloc (.cells #[.int .u64 f, .slice A' l.length c'] 108)) w'.heap.size A' c' := by
  have hs := h0.size
  have h1 : Below w.heap.size w w' := h0.trans (hb.mono hs)
  have h2 : Below w.heap.size w (w'.alloc (.cells #[.int .u64 f, .slice A' l.length c'] 108)) := below_push h1.size h1 _
  have hBs := h.lt
  refine ⟨h.below h2, ⟨Blk.new _ _ _, hD.len, hD.small, hf0, hf1, fun hp => ?_⟩, fun q hq hl hql e => ?_, fun d hd hl => ?_, h2.mono (Nat.le_of_lt hBs)⟩
  · obtain ⟨d, cs, e, hd, hl, hc⟩ := hD.row hp
    exact ⟨d, cs, e, hd.alloc _, hl, hc⟩
  · obtain ⟨P, cap, _, hrow, _⟩ := h.sp
    obtain ⟨d, cs, e2, hd, _, _⟩ := (hrow.regs q hq).row hql
    have := hfr hl d (e.trans e2)
    have := hd.lt
    omega
  · have := hfr hl d hd
    omega
set_option maxHeartbeats 2000000 in
set_option maxRecDepth 100000 in
theorem add_ (B : Nat) (w : World) (s : Nat) (rs : List Reg) (f : Int) (A : Option Addr) (n c : Nat) (l : List Int) (h : St B w s rs) (hC : Kd.C (Kd.int .u8) w A n l) (hl : Bytes l) (hf0 : 0 ≤ f) (hf1 : f < 18446744073709551616) (hn : n ≤ 140737488355328) (hbig : rs.length + 1 < 4398046511104) :
    Calls Try.prog 20 #[.pointer (some ⟨s, 0, none⟩), .agg #[.int .u64 f, .slice A n c]] w fun e w' => AddRes (mayAdd rs f l) B w s rs f l e w' := by
  have HST := Lib.hid h
  have HC := Lib.hid hC
  have HN := Lib.hid hn
  have HF := Lib.hid (And.intro hf0 hf1)
  have HL := Lib.hid hl
  have HBIG := Lib.hid hbig
  clear h hC hn hf0 hf1 hl hbig
  have H0 := Lib.hid (below_drew (below_push (Nat.le_refl _) (Below.refl w.heap.size w) (.cells #[.int .u64 f, .slice A n c] 39)))
  have HBX := Lib.hid (Blk.new w 39 #[.int .u64 f, .slice A n c])
  have HC1 := Lib.hid (show Kd.C (Kd.int .u8) (w.alloc (.cells #[.int .u64 f, .slice A n c] 39)).drew A n l from Kd.C_drewN (Kd.C_below HC.out (below_push (Nat.le_refl _) (Below.refl _ _) _)) 1)
  obtain ⟨m, hm⟩ : ∃ m, m = mayAdd rs f l := ⟨_, rfl⟩
  rw [← hm]
  have HMAY := Lib.hid hm
  clear hm
  go_enter Try.func20, Try.ntmps20
  go_wp2
  refine Code.wp_mono (Q := Norm fun a W => ∃ x A' c', a = { tmps := #[Value.pointer (some ⟨s, 0, none⟩), Value.agg #[Value.int IntKind.u64 f, Value.slice A n c], undef, Value.pointer (some ⟨w.heap.size, 0, none⟩), Value.int IntKind.i64 0, Value.pointer (some ⟨x, 0, none⟩), undef, undef, undef, undef, Value.pointer (some ⟨s, 0, none⟩), Value.bool false, Value.pointer (some ⟨w.heap.size, 0, none⟩), Value.int IntKind.u64 f, Value.pointer (some ⟨w.heap.size, 1, none⟩), Value.slice A n c, Value.slice A' l.length c', Value.agg #[Value.int IntKind.u64 f, Value.slice A' l.length c'], Value.pointer (some ⟨x, 0, none⟩), undef, undef, undef, undef, undef, undef, undef, undef, undef, undef, undef, undef, undef, undef, undef, undef, undef, undef, undef, undef, undef, undef, undef, undef, undef, undef, undef, undef, undef, undef, undef, undef, undef, undef, undef, undef, undef, undef, undef, undef, undef, undef, undef, undef, undef, undef, undef, undef, undef, undef, undef, undef, undef, undef, undef, undef, undef, undef, undef, undef, undef, undef, undef, undef, undef, undef, undef, undef, undef, undef, undef, undef, undef, undef, undef], defers := [] } ∧ Hid (Mid B w s rs f l W x A' c')) ?_ ?_
  rotate_left
  · go_region_with (go_at_call 57; refine (cloneAny_ _ A n c l HC1.out HN.out).mono ?_; rintro e w' ⟨A', c', rfl, hd, hb, hfr⟩; have bx := (HBX.out.drew).below hb HBX.out.lt; have HM := Lib.hid (mid_of (f := f) HST.out H0.out hd hb hfr HF.out.1 HF.out.2); have b0 := bx.cell 0; have b1 := bx.cell 1; simp only [List.getElem?_toArray, List.getElem?_cons_zero, List.getElem?_cons_succ] at b0 b1; clear hd hb hfr bx)
    all_goals exact ⟨_, _, _, rfl, HM⟩
  refine Norm.elim ?_
  rintro a W ⟨x, A', c', rfl, HM⟩
  have HS := Lib.hid HM.out.1.space
  have HR := Lib.hid HM.out.1.rising
  have HRG := Lib.hid HM.out.2.1
  have cx0 := HM.out.2.1.f
  have cx1 := HM.out.2.1.d
  dsimp only at cx0 cx1
  obtain ⟨P, cap, hsp, hrow, hPB⟩ := HM.out.1.sp
  have cs0 := hsp.cell 0
  simp only [List.getElem?_toArray, List.getElem?_cons_zero] at cs0
  have HSP := Lib.hid hsp
  have HROW := Lib.hid hrow
  have HPB := Lib.hid hPB
  have hKle := place_le rs f
  obtain ⟨K, hK⟩ : ∃ K, K = place rs f := ⟨_, rfl⟩
  rw [← hK] at hKle
  have HK := Lib.hid hK
  have HKL := Lib.hid hKle
  have hKs : K < 4398046511104 := by have := HBIG.out; omega
  clear hsp hrow hPB hK hKle H0 HBX HC1
  have HVP := Lib.hid (show ∀ p, P = some p → ∀ q, (W.drewN q).heap.size ≠ p.block from fun p hp q => by
    rcases HROW.out.row with ⟨h1, _⟩ | ⟨g, cs, h1, h2, _⟩
    · rw [h1] at hp; cases hp
    · rw [h1] at hp; cases hp
      have := h2.lt
      show W.heap.size ≠ g
      omega)
  cases hT : decide (∃ r ∈ rs, r.first = f) with
  | true =>
    have HT := Lib.hid hT
    clear hT
    go_wp2_with (go_at_call 58; refine (find_ _ _ rs _ HS.out HR.out).mono ?_; rintro e' w' ⟨rfl, rfl⟩; rw [← HK.out, HT.out])
    go_quiet (fail)
    go_wp2
    go_ret
    rw [show m = false from HMAY.out.trans (by unfold mayAdd; rw [HT.out]; rfl)]
    first | exact ⟨rfl, HM.out.2.2.2.2.trans (pw_below_drewN (Below.refl _ _) _), HM.out.1.drewN _⟩ | exact ⟨rfl, HM.out.2.2.2.2.trans (pw_below_drewN (pw_below_drewN (Below.refl _ _) _) _), (HM.out.1.drewN _).drewN _⟩
  | false =>
    have HT := Lib.hid hT
    clear hT
    obtain ⟨ln, hln⟩ : ∃ ln, ln = l.length := ⟨_, rfl⟩
    have HLN := Lib.hid hln
    rw [← hln] at cx1 ⊢
    by_cases hz : ln = 0
    · have HE := Lib.hid (show l.isEmpty = true by rw [List.isEmpty_iff_length_eq_zero, ← hln, hz])
      clear hln
      subst hz
      go_wp2_with (go_at_call 58; refine (find_ _ _ rs _ HS.out HR.out).mono ?_; rintro e' w' ⟨rfl, rfl⟩; rw [← HK.out, HT.out])
      go_quiet (fail)
      go_wp2_with (go_at_call 61; refine (insertR_ _ P cap rs K ⟨x, f, A', c', l⟩ _ ((HROW.out.below (below_push (Nat.le_refl _) (pw_below_drewN (Below.refl _ _) _) _))) HKL.out (Blk.new _ _ _) (fun p hp => HVP.out p hp _) (by have := HBIG.out; omega)).mono ?_; rintro e' w' ⟨P', cap', rfl, hpr, hmv⟩; have HPR := Lib.hid hpr; have HMV := Lib.hid hmv; have hs1 := hmv.far _ _ _ (by decide) ((HSP.out.drewN _).alloc _); have ss0 := hs1.cell 0; have sf0 := hs1.frozen 0; simp only [List.getElem?_toArray, List.getElem?_cons_zero] at ss0; clear hpr hmv hs1)
      go_ret
      rw [show m = true from HMAY.out.trans (by unfold mayAdd; rw [HT.out, HE.out]; rfl)]
      have h2 := St.inserted ((HM.out.1.drewN _).below (below_push (Nat.le_refl _) (Below.refl _ _) _)) ((HSP.out.drewN _).alloc _) (HROW.out.below (below_push (Nat.le_refl _) (pw_below_drewN (Below.refl _ _) _) _)) HPB.out ⟨x, f, A', c', l⟩ (HRG.out.below (below_push (Nat.le_refl _) (pw_below_drewN (Below.refl _ _) _) _)) K HL.out HM.out.2.2.2.1 HM.out.2.2.1 (by rw [HK.out]; exact rising_ins rs ⟨x, f, A', c', l⟩ HR.out (of_decide_eq_false HT.out)) (by have := HBIG.out; omega) HPR.out HMV.out
      exact ⟨rfl, HM.out.2.2.2.2.trans ((pw_below_drewN (Below.refl _ _) _).trans ((below_push (w := World.drewN _ _) (Nat.le_of_lt (HM.out.1.drewN _).lt) (Below.refl _ _) _).trans h2.2)), ⟨x, f, A', c', l⟩, rfl, rfl, by rw [← HK.out]; exact h2.1⟩
    · have hlp : decide (0 < ln) = true := decide_eq_true (by omega)
      have hlp2 : 0 < ln := of_decide_eq_true hlp
      have HE := Lib.hid (show l.isEmpty = false by
        cases h : l.isEmpty with
        | false => rfl
        | true => exact absurd (by rw [hln]; exact List.isEmpty_iff_length_eq_zero.1 h) hz)
      clear hln hz
      cases hW : decide (wlast f ln < f) with
      | true =>
        have HW := Lib.hid hW
        go_wp2_with (go_at_call 58; refine (find_ _ _ rs _ HS.out HR.out).mono ?_; rintro e' w' ⟨rfl, rfl⟩; rw [← HK.out, HT.out])
        go_quiet (first | (go_at_call_of 59 (Value.pointer (some ⟨x, 0, none⟩)); refine Calls.quiet_of (last_ _ _ _ _ _ _ cx0 cx1)))
        go_wp2
        go_ret
        rw [show m = false from HMAY.out.trans (by unfold mayAdd; rw [HT.out, HE.out, ← HLN.out, HW.out]; rfl)]
        first | exact ⟨rfl, HM.out.2.2.2.2.trans (pw_below_drewN (Below.refl _ _) _), HM.out.1.drewN _⟩ | exact ⟨rfl, HM.out.2.2.2.2.trans (pw_below_drewN (pw_below_drewN (Below.refl _ _) _) _), (HM.out.1.drewN _).drewN _⟩
      | false =>
        have HW := Lib.hid hW
        cases hDN : fullDown rs K with
        | none =>
          have HDN := Lib.hid hDN
          clear hDN
          cases hUP : fullUp rs K with
          | none =>
            have HUP := Lib.hid hUP
            clear hUP
            go_wp2_with (go_at_call 58; refine (find_ _ _ rs _ HS.out HR.out).mono ?_; rintro e' w' ⟨rfl, rfl⟩; rw [← HK.out, HT.out])
            go_quiet (first | (go_at_call_of 59 (Value.pointer (some ⟨x, 0, none⟩)); refine Calls.quiet_of (last_ _ _ _ _ _ _ cx0 cx1)))
            go_wp2_with (first | (go_at_call_of 60 (Value.int .i64 (K : Int)); refine (full_up _ _ rs K (HS.out.drewN _) HKL.out).mono ?_; rintro e' w' ⟨rfl, rfl⟩; rw [HUP.out]; unfold ptrOf) | (go_at_call 60; refine (full_down' _ _ rs K _ (HS.out.drewN _) HKL.out (by omega)).mono ?_; rintro e' w' ⟨rfl, rfl⟩; rw [HDN.out]; unfold ptrOf))
            go_quiet (first | fail)
            go_wp2_with (go_at_call 61; refine (insertR_ _ P cap rs K ⟨x, f, A', c', l⟩ _ ((HROW.out.below (below_push (Nat.le_refl _) (pw_below_drewN (Below.refl _ _) _) _))) HKL.out (Blk.new _ _ _) (fun p hp => HVP.out p hp _) (by have := HBIG.out; omega)).mono ?_; rintro e' w' ⟨P', cap', rfl, hpr, hmv⟩; have HPR := Lib.hid hpr; have HMV := Lib.hid hmv; have hs1 := hmv.far _ _ _ (by decide) ((HSP.out.drewN _).alloc _); have ss0 := hs1.cell 0; have sf0 := hs1.frozen 0; simp only [List.getElem?_toArray, List.getElem?_cons_zero] at ss0; clear hpr hmv hs1)
            go_ret
            rw [show m = true from HMAY.out.trans (by unfold mayAdd aheadBad behindBad; rw [HT.out, HE.out, ← HLN.out, HW.out, ← HK.out, HDN.out, HUP.out]; rfl)]
            have h2 := St.inserted ((HM.out.1.drewN _).below (below_push (Nat.le_refl _) (Below.refl _ _) _)) ((HSP.out.drewN _).alloc _) (HROW.out.below (below_push (Nat.le_refl _) (pw_below_drewN (Below.refl _ _) _) _)) HPB.out ⟨x, f, A', c', l⟩ (HRG.out.below (below_push (Nat.le_refl _) (pw_below_drewN (Below.refl _ _) _) _)) K HL.out HM.out.2.2.2.1 HM.out.2.2.1 (by rw [HK.out]; exact rising_ins rs ⟨x, f, A', c', l⟩ HR.out (of_decide_eq_false HT.out)) (by have := HBIG.out; omega) HPR.out HMV.out
            exact ⟨rfl, HM.out.2.2.2.2.trans ((pw_below_drewN (Below.refl _ _) _).trans ((below_push (w := World.drewN _ _) (Nat.le_of_lt (HM.out.1.drewN _).lt) (Below.refl _ _) _).trans h2.2)), ⟨x, f, A', c', l⟩, rfl, rfl, by rw [← HK.out]; exact h2.1⟩
          | some bb =>
            have HUP := Lib.hid hUP
            have hbm := fullUp_mem rs K bb hUP
            have cb0 := (HROW.out.regs bb hbm.1).f
            clear hUP hbm
            cases hB : decide (bb.first ≤ wlast f ln) with
            | true =>
              have HB := Lib.hid hB
              go_wp2_with (go_at_call 58; refine (find_ _ _ rs _ HS.out HR.out).mono ?_; rintro e' w' ⟨rfl, rfl⟩; rw [← HK.out, HT.out])
              go_quiet (first | (go_at_call_of 59 (Value.pointer (some ⟨x, 0, none⟩)); refine Calls.quiet_of (last_ _ _ _ _ _ _ cx0 cx1)))
              go_wp2_with (first | (go_at_call_of 60 (Value.int .i64 (K : Int)); refine (full_up _ _ rs K (HS.out.drewN _) HKL.out).mono ?_; rintro e' w' ⟨rfl, rfl⟩; rw [HUP.out]; unfold ptrOf) | (go_at_call 60; refine (full_down' _ _ rs K _ (HS.out.drewN _) HKL.out (by omega)).mono ?_; rintro e' w' ⟨rfl, rfl⟩; rw [HDN.out]; unfold ptrOf))
              go_quiet (first | (go_at_call_of 59 (Value.pointer (some ⟨x, 0, none⟩)); refine quiet_at (last_ _ _ _ _ _ _ cx0 cx1)))
              go_wp2
              go_ret
              rw [show m = false from HMAY.out.trans (by unfold mayAdd aheadBad behindBad; rw [HT.out, HE.out, ← HLN.out, HW.out, ← HK.out, HDN.out, HUP.out]; simp only [HB.out]; rfl)]
              first | exact ⟨rfl, HM.out.2.2.2.2.trans (pw_below_drewN (Below.refl _ _) _), HM.out.1.drewN _⟩ | exact ⟨rfl, HM.out.2.2.2.2.trans (pw_below_drewN (pw_below_drewN (Below.refl _ _) _) _), (HM.out.1.drewN _).drewN _⟩
            | false =>
              have HB := Lib.hid hB
              go_wp2_with (go_at_call 58; refine (find_ _ _ rs _ HS.out HR.out).mono ?_; rintro e' w' ⟨rfl, rfl⟩; rw [← HK.out, HT.out])
              go_quiet (first | (go_at_call_of 59 (Value.pointer (some ⟨x, 0, none⟩)); refine Calls.quiet_of (last_ _ _ _ _ _ _ cx0 cx1)))
              go_wp2_with (first | (go_at_call_of 60 (Value.int .i64 (K : Int)); refine (full_up _ _ rs K (HS.out.drewN _) HKL.out).mono ?_; rintro e' w' ⟨rfl, rfl⟩; rw [HUP.out]; unfold ptrOf) | (go_at_call 60; refine (full_down' _ _ rs K _ (HS.out.drewN _) HKL.out (by omega)).mono ?_; rintro e' w' ⟨rfl, rfl⟩; rw [HDN.out]; unfold ptrOf))
              go_quiet (first | (go_at_call_of 59 (Value.pointer (some ⟨x, 0, none⟩)); refine quiet_at (last_ _ _ _ _ _ _ cx0 cx1)))
              go_wp2_with (go_at_call 61; refine (insertR_ _ P cap rs K ⟨x, f, A', c', l⟩ _ ((HROW.out.below (below_push (Nat.le_refl _) (pw_below_drewN (Below.refl _ _) _) _))) HKL.out (Blk.new _ _ _) (fun p hp => HVP.out p hp _) (by have := HBIG.out; omega)).mono ?_; rintro e' w' ⟨P', cap', rfl, hpr, hmv⟩; have HPR := Lib.hid hpr; have HMV := Lib.hid hmv; have hs1 := hmv.far _ _ _ (by decide) ((HSP.out.drewN _).alloc _); have ss0 := hs1.cell 0; have sf0 := hs1.frozen 0; simp only [List.getElem?_toArray, List.getElem?_cons_zero] at ss0; clear hpr hmv hs1)
              go_ret
              rw [show m = true from HMAY.out.trans (by unfold mayAdd aheadBad behindBad; rw [HT.out, HE.out, ← HLN.out, HW.out, ← HK.out, HDN.out, HUP.out]; simp only [HB.out]; rfl)]
              have h2 := St.inserted ((HM.out.1.drewN _).below (below_push (Nat.le_refl _) (Below.refl _ _) _)) ((HSP.out.drewN _).alloc _) (HROW.out.below (below_push (Nat.le_refl _) (pw_below_drewN (Below.refl _ _) _) _)) HPB.out ⟨x, f, A', c', l⟩ (HRG.out.below (below_push (Nat.le_refl _) (pw_below_drewN (Below.refl _ _) _) _)) K HL.out HM.out.2.2.2.1 HM.out.2.2.1 (by rw [HK.out]; exact rising_ins rs ⟨x, f, A', c', l⟩ HR.out (of_decide_eq_false HT.out)) (by have := HBIG.out; omega) HPR.out HMV.out
              exact ⟨rfl, HM.out.2.2.2.2.trans ((pw_below_drewN (Below.refl _ _) _).trans ((below_push (w := World.drewN _ _) (Nat.le_of_lt (HM.out.1.drewN _).lt) (Below.refl _ _) _).trans h2.2)), ⟨x, f, A', c', l⟩, rfl, rfl, by rw [← HK.out]; exact h2.1⟩
        | some aa =>
          have HDN := Lib.hid hDN
          have ham := fullDown_mem' rs K aa hDN
          have ca0 := (HROW.out.regs aa ham.1).f
          have ca1 := (HROW.out.regs aa ham.1).d
          clear hDN ham
          cases hA : decide (f ≤ wlast aa.first aa.data.length) with
          | true =>
            have HA := Lib.hid hA
            cases hUP : fullUp rs K with
            | none =>
              have HUP := Lib.hid hUP
              clear hUP
              go_wp2_with (go_at_call 58; refine (find_ _ _ rs _ HS.out HR.out).mono ?_; rintro e' w' ⟨rfl, rfl⟩; rw [← HK.out, HT.out])
              go_quiet (first | (go_at_call_of 59 (Value.pointer (some ⟨x, 0, none⟩)); refine Calls.quiet_of (last_ _ _ _ _ _ _ cx0 cx1)))
              go_wp2_with (first | (go_at_call_of 60 (Value.int .i64 (K : Int)); refine (full_up _ _ rs K (HS.out.drewN _) HKL.out).mono ?_; rintro e' w' ⟨rfl, rfl⟩; rw [HUP.out]; unfold ptrOf) | (go_at_call 60; refine (full_down' _ _ rs K _ (HS.out.drewN _) HKL.out (by omega)).mono ?_; rintro e' w' ⟨rfl, rfl⟩; rw [HDN.out]; unfold ptrOf))
              go_quiet (first | (go_at_call_of 59 (Value.pointer (some ⟨aa.b, 0, none⟩)); refine quiet_at (last_ _ _ _ _ _ _ ca0 ca1)))
              go_wp2
              go_ret
              rw [show m = false from HMAY.out.trans (by unfold mayAdd aheadBad behindBad; rw [HT.out, HE.out, ← HLN.out, HW.out, ← HK.out, HDN.out, HUP.out]; simp only [HA.out]; rfl)]
              first | exact ⟨rfl, HM.out.2.2.2.2.trans (pw_below_drewN (Below.refl _ _) _), HM.out.1.drewN _⟩ | exact ⟨rfl, HM.out.2.2.2.2.trans (pw_below_drewN (pw_below_drewN (Below.refl _ _) _) _), (HM.out.1.drewN _).drewN _⟩
            | some bb =>
              have HUP := Lib.hid hUP
              clear hUP
              go_wp2_with (go_at_call 58; refine (find_ _ _ rs _ HS.out HR.out).mono ?_; rintro e' w' ⟨rfl, rfl⟩; rw [← HK.out, HT.out])
              go_quiet (first | (go_at_call_of 59 (Value.pointer (some ⟨x, 0, none⟩)); refine Calls.quiet_of (last_ _ _ _ _ _ _ cx0 cx1)))
              go_wp2_with (first | (go_at_call_of 60 (Value.int .i64 (K : Int)); refine (full_up _ _ rs K (HS.out.drewN _) HKL.out).mono ?_; rintro e' w' ⟨rfl, rfl⟩; rw [HUP.out]; unfold ptrOf) | (go_at_call 60; refine (full_down' _ _ rs K _ (HS.out.drewN _) HKL.out (by omega)).mono ?_; rintro e' w' ⟨rfl, rfl⟩; rw [HDN.out]; unfold ptrOf))
              go_quiet (first | (go_at_call_of 59 (Value.pointer (some ⟨aa.b, 0, none⟩)); refine quiet_at (last_ _ _ _ _ _ _ ca0 ca1)) | (go_at_call_of 59 (Value.pointer (some ⟨x, 0, none⟩)); refine quiet_at (last_ _ _ _ _ _ _ cx0 cx1)))
              go_wp2
              go_ret
              rw [show m = false from HMAY.out.trans (by unfold mayAdd aheadBad behindBad; rw [HT.out, HE.out, ← HLN.out, HW.out, ← HK.out, HDN.out]; simp only [HA.out]; rfl)]
              first | exact ⟨rfl, HM.out.2.2.2.2.trans (pw_below_drewN (Below.refl _ _) _), HM.out.1.drewN _⟩ | exact ⟨rfl, HM.out.2.2.2.2.trans (pw_below_drewN (pw_below_drewN (Below.refl _ _) _) _), (HM.out.1.drewN _).drewN _⟩
          | false =>
            have HA := Lib.hid hA
            cases hUP : fullUp rs K with
            | none =>
              have HUP := Lib.hid hUP
              clear hUP
              go_wp2_with (go_at_call 58; refine (find_ _ _ rs _ HS.out HR.out).mono ?_; rintro e' w' ⟨rfl, rfl⟩; rw [← HK.out, HT.out])
              go_quiet (first | (go_at_call_of 59 (Value.pointer (some ⟨x, 0, none⟩)); refine Calls.quiet_of (last_ _ _ _ _ _ _ cx0 cx1)))
              go_wp2_with (first | (go_at_call_of 60 (Value.int .i64 (K : Int)); refine (full_up _ _ rs K (HS.out.drewN _) HKL.out).mono ?_; rintro e' w' ⟨rfl, rfl⟩; rw [HUP.out]; unfold ptrOf) | (go_at_call 60; refine (full_down' _ _ rs K _ (HS.out.drewN _) HKL.out (by omega)).mono ?_; rintro e' w' ⟨rfl, rfl⟩; rw [HDN.out]; unfold ptrOf))
              go_quiet (first | (go_at_call_of 59 (Value.pointer (some ⟨aa.b, 0, none⟩)); refine quiet_at (last_ _ _ _ _ _ _ ca0 ca1)))
              go_wp2_with (go_at_call 61; refine (insertR_ _ P cap rs K ⟨x, f, A', c', l⟩ _ ((HROW.out.below (below_push (Nat.le_refl _) (pw_below_drewN (Below.refl _ _) _) _))) HKL.out (Blk.new _ _ _) (fun p hp => HVP.out p hp _) (by have := HBIG.out; omega)).mono ?_; rintro e' w' ⟨P', cap', rfl, hpr, hmv⟩; have HPR := Lib.hid hpr; have HMV := Lib.hid hmv; have hs1 := hmv.far _ _ _ (by decide) ((HSP.out.drewN _).alloc _); have ss0 := hs1.cell 0; have sf0 := hs1.frozen 0; simp only [List.getElem?_toArray, List.getElem?_cons_zero] at ss0; clear hpr hmv hs1)
              go_ret
              rw [show m = true from HMAY.out.trans (by unfold mayAdd aheadBad behindBad; rw [HT.out, HE.out, ← HLN.out, HW.out, ← HK.out, HDN.out, HUP.out]; simp only [HA.out]; rfl)]
              have h2 := St.inserted ((HM.out.1.drewN _).below (below_push (Nat.le_refl _) (Below.refl _ _) _)) ((HSP.out.drewN _).alloc _) (HROW.out.below (below_push (Nat.le_refl _) (pw_below_drewN (Below.refl _ _) _) _)) HPB.out ⟨x, f, A', c', l⟩ (HRG.out.below (below_push (Nat.le_refl _) (pw_below_drewN (Below.refl _ _) _) _)) K HL.out HM.out.2.2.2.1 HM.out.2.2.1 (by rw [HK.out]; exact rising_ins rs ⟨x, f, A', c', l⟩ HR.out (of_decide_eq_false HT.out)) (by have := HBIG.out; omega) HPR.out HMV.out
              exact ⟨rfl, HM.out.2.2.2.2.trans ((pw_below_drewN (Below.refl _ _) _).trans ((below_push (w := World.drewN _ _) (Nat.le_of_lt (HM.out.1.drewN _).lt) (Below.refl _ _) _).trans h2.2)), ⟨x, f, A', c', l⟩, rfl, rfl, by rw [← HK.out]; exact h2.1⟩
            | some bb =>
              have HUP := Lib.hid hUP
              have hbm := fullUp_mem rs K bb hUP
              have cb0 := (HROW.out.regs bb hbm.1).f
              clear hUP hbm
              cases hB : decide (bb.first ≤ wlast f ln) with
              | true =>
                have HB := Lib.hid hB
                go_wp2_with (go_at_call 58; refine (find_ _ _ rs _ HS.out HR.out).mono ?_; rintro e' w' ⟨rfl, rfl⟩; rw [← HK.out, HT.out])
                go_quiet (first | (go_at_call_of 59 (Value.pointer (some ⟨x, 0, none⟩)); refine Calls.quiet_of (last_ _ _ _ _ _ _ cx0 cx1)))
                go_wp2_with (first | (go_at_call_of 60 (Value.int .i64 (K : Int)); refine (full_up _ _ rs K (HS.out.drewN _) HKL.out).mono ?_; rintro e' w' ⟨rfl, rfl⟩; rw [HUP.out]; unfold ptrOf) | (go_at_call 60; refine (full_down' _ _ rs K _ (HS.out.drewN _) HKL.out (by omega)).mono ?_; rintro e' w' ⟨rfl, rfl⟩; rw [HDN.out]; unfold ptrOf))
                go_quiet (first | (go_at_call_of 59 (Value.pointer (some ⟨aa.b, 0, none⟩)); refine quiet_at (last_ _ _ _ _ _ _ ca0 ca1)) | (go_at_call_of 59 (Value.pointer (some ⟨x, 0, none⟩)); refine quiet_at (last_ _ _ _ _ _ _ cx0 cx1)))
                go_wp2
                go_ret
                rw [show m = false from HMAY.out.trans (by unfold mayAdd aheadBad behindBad; rw [HT.out, HE.out, ← HLN.out, HW.out, ← HK.out, HDN.out, HUP.out]; simp only [HA.out]; simp only [HB.out]; rfl)]
                first | exact ⟨rfl, HM.out.2.2.2.2.trans (pw_below_drewN (Below.refl _ _) _), HM.out.1.drewN _⟩ | exact ⟨rfl, HM.out.2.2.2.2.trans (pw_below_drewN (pw_below_drewN (Below.refl _ _) _) _), (HM.out.1.drewN _).drewN _⟩
              | false =>
                have HB := Lib.hid hB
                go_wp2_with (go_at_call 58; refine (find_ _ _ rs _ HS.out HR.out).mono ?_; rintro e' w' ⟨rfl, rfl⟩; rw [← HK.out, HT.out])
                go_quiet (first | (go_at_call_of 59 (Value.pointer (some ⟨x, 0, none⟩)); refine Calls.quiet_of (last_ _ _ _ _ _ _ cx0 cx1)))
                go_wp2_with (first | (go_at_call_of 60 (Value.int .i64 (K : Int)); refine (full_up _ _ rs K (HS.out.drewN _) HKL.out).mono ?_; rintro e' w' ⟨rfl, rfl⟩; rw [HUP.out]; unfold ptrOf) | (go_at_call 60; refine (full_down' _ _ rs K _ (HS.out.drewN _) HKL.out (by omega)).mono ?_; rintro e' w' ⟨rfl, rfl⟩; rw [HDN.out]; unfold ptrOf))
                go_quiet (first | (go_at_call_of 59 (Value.pointer (some ⟨aa.b, 0, none⟩)); refine quiet_at (last_ _ _ _ _ _ _ ca0 ca1)) | (go_at_call_of 59 (Value.pointer (some ⟨x, 0, none⟩)); refine quiet_at (last_ _ _ _ _ _ _ cx0 cx1)))
                go_wp2_with (go_at_call 61; refine (insertR_ _ P cap rs K ⟨x, f, A', c', l⟩ _ ((HROW.out.below (below_push (Nat.le_refl _) (pw_below_drewN (Below.refl _ _) _) _))) HKL.out (Blk.new _ _ _) (fun p hp => HVP.out p hp _) (by have := HBIG.out; omega)).mono ?_; rintro e' w' ⟨P', cap', rfl, hpr, hmv⟩; have HPR := Lib.hid hpr; have HMV := Lib.hid hmv; have hs1 := hmv.far _ _ _ (by decide) ((HSP.out.drewN _).alloc _); have ss0 := hs1.cell 0; have sf0 := hs1.frozen 0; simp only [List.getElem?_toArray, List.getElem?_cons_zero] at ss0; clear hpr hmv hs1)
                go_ret
                rw [show m = true from HMAY.out.trans (by unfold mayAdd aheadBad behindBad; rw [HT.out, HE.out, ← HLN.out, HW.out, ← HK.out, HDN.out, HUP.out]; simp only [HA.out]; simp only [HB.out]; rfl)]
                have h2 := St.inserted ((HM.out.1.drewN _).below (below_push (Nat.le_refl _) (Below.refl _ _) _)) ((HSP.out.drewN _).alloc _) (HROW.out.below (below_push (Nat.le_refl _) (pw_below_drewN (Below.refl _ _) _) _)) HPB.out ⟨x, f, A', c', l⟩ (HRG.out.below (below_push (Nat.le_refl _) (pw_below_drewN (Below.refl _ _) _) _)) K HL.out HM.out.2.2.2.1 HM.out.2.2.1 (by rw [HK.out]; exact rising_ins rs ⟨x, f, A', c', l⟩ HR.out (of_decide_eq_false HT.out)) (by have := HBIG.out; omega) HPR.out HMV.out
                exact ⟨rfl, HM.out.2.2.2.2.trans ((pw_below_drewN (Below.refl _ _) _).trans ((below_push (w := World.drewN _ _) (Nat.le_of_lt (HM.out.1.drewN _).lt) (Below.refl _ _) _).trans h2.2)), ⟨x, f, A', c', l⟩, rfl, rfl, by rw [← HK.out]; exact h2.1⟩
end Go.Proofs.Ythmeojeehemlaaa.Mem
