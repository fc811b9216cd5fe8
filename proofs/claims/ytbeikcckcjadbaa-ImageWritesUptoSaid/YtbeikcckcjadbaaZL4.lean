/- Parts of the proof, laid together by a program of this session (pack.py): PIx10, PIx11, PIx12. Of the kit's print what the claim does not use is left out. -/
import Derived.Test.YtbeikcckcjadbaaZL3
set_option linter.unusedVariables false
set_option linter.unusedSimpArgs false
set_option maxRecDepth 100000
set_option maxHeartbeats 16000000
section
namespace Go.Proofs.Ytbeikcckcjadbaa.PI
open Go.RowKit Go.Proofs.YtbeikcckcjadbaaW.PrintWords Go.Proofs.YtbeikcckcjadbaaW.PrintLast Go.Proofs.YtbeikcckcjadbaaW.PrintMore
attribute [local go_sem] isSome_setCell max2_int min2_int max_two min_two max_three min_three max_four min_four
attribute [local go_sem high] eqA56
def spindlelaw0_SameTables.l0:Nat→List (S56)→List (S56)→Int→Option (Bool)
 | 0,_,_,_=>none
 | k+1,x0,x1,x5=>if x5<(x0.length:Int) then (if 0≤x5 then (if x5<(x1.length:Int) then (if (!((((rd_T56 x0 x5).f0).toList) == (((rd_T56 x1 x5).f0).toList)) || (!(((rd_T56 x0 x5).f1) == ((rd_T56 x1 x5).f1)) || (!(((rd_T56 x0 x5).f2) == ((rd_T56 x1 x5).f2)) || (!(((rd_T56 x0 x5).f3) == ((rd_T56 x1 x5).f3)) || (!(((rd_T56 x0 x5).f4) == ((rd_T56 x1 x5).f4)))))))=true then (some false) else (spindlelaw0_SameTables.l0 k x0 x1 (wrap64 (x5+1)))) else (none)) else (none)) else (some true)
def spindlelaw0_SameTables.f (k:Nat) (l0:List (S56)) (l1:List (S56)):Option (Bool):=if (l0.length:Int)=(l1.length:Int) then (spindlelaw0_SameTables.l0 k l0 l1 0) else (some false)
theorem spindlelaw0_SameTables.calls (k:Nat) (A0:Option Addr) (c0:Nat) (l0:List (S56)) (A1:Option Addr) (c1:Nat) (l1:List (S56)) (r:Bool) (w:World) (hr0:Kd.C k56 w A0 l0.length l0) (hc0:l0.length≤c0) (hr1:Kd.C k56 w A1 l1.length l1) (hc1:l1.length≤c1) (h:spindlelaw0_SameTables.f k l0 l1=some r) :
  Calls Try.prog 48 #[.slice A0 l0.length c0,.slice A1 l1.length c1] w fun e w'=>e=.returned (.bool r)∧Drawn0 w w':=by
 have hu56:=Try.underlying56
 have HR0:=As0.mk hr0
 have HC0:=As0.mk hc0
 clear hr0 hc0
 have HR1:=As0.mk hr1
 have HC1:=As0.mk hc1
 clear hr1 hc1
 have H:(if (l0.length:Int)=(l1.length:Int) then (spindlelaw0_SameTables.l0 k l0 l1 0) else (some false))=some r:=h
 clear h
 by_cases c3:(l0.length:Int)=(l1.length:Int)
 ·rw [if_pos c3] at H
  have c3b0:((l0.length:Int) == (l1.length:Int))=true:=beq_iff_eq.mpr c3
  have c3b1:((l0.length:Int) != (l1.length:Int))=false:=bne_eq_false_iff_eq.mpr c3
  have c3b2:(l0.length == l1.length)=true:=by first|simpa using c3|(simp at c3 ⊢;omega)
  clear c3
  have H':=As0.mk H
  clear H
  go_enter Try.func48,Try.ntmps48
  go_wp2
  repeat (go_quiet (fail);try go_wp2)
  go_loopg [5] k (fun kq v5 w'=>∃ (x5_1:Int),v5=.int .i64 x5_1∧As0 (spindlelaw0_SameTables.l0 kq l0 l1 x5_1=some r)∧As0 (kq≤k)∧Drawn0 w w')
  case atStart=>exact ⟨(0),(by first|rfl|(simp;done)|(simp [*];done)),H',⟨Nat.le_refl _⟩,by repeat (first|exact Drawn0.refl _|apply Drawn0.step)⟩
  case round =>
   clear H'
   try clear c1
   try clear p2
   try clear c3
   try clear c3b0
   try clear c3b1
   try clear c3b2
   obtain ⟨x5_1,rfl,HA,HK1,⟨m1,rfl⟩⟩:=hrel
   cases gk with
   | zero=>exact absurd HA.out (by simp [spindlelaw0_SameTables.l0])
   | succ k1 =>
    have H:=HA.out
    clear HA
    simp only [spindlelaw0_SameTables.l0] at H
    by_cases c4:x5_1<(l0.length:Int)
    ·rw [if_pos c4] at H
     have c4b0:decide (x5_1<(l0.length:Int))=true:=decide_eq_true c4
     clear c4
     by_cases c5:0≤x5_1
     ·rw [if_pos c5] at H
      have c5b0:decide (0≤x5_1)=true:=decide_eq_true c5
      clear c5
      by_cases c6:x5_1<(l1.length:Int)
      ·rw [if_pos c6] at H
       have c6b0:decide (x5_1<(l1.length:Int))=true:=decide_eq_true c6
       clear c6
       by_cases c7:(!((((rd_T56 l0 x5_1).f0).toList) == (((rd_T56 l1 x5_1).f0).toList)) || (!(((rd_T56 l0 x5_1).f1) == ((rd_T56 l1 x5_1).f1)) || (!(((rd_T56 l0 x5_1).f2) == ((rd_T56 l1 x5_1).f2)) || (!(((rd_T56 l0 x5_1).f3) == ((rd_T56 l1 x5_1).f3)) || (!(((rd_T56 l0 x5_1).f4) == ((rd_T56 l1 x5_1).f4)))))))=true
       ·rw [if_pos c7] at H
        have c7b0:(!((((rd_T56 l0 x5_1).f0).toList) == (((rd_T56 l1 x5_1).f0).toList)) || (!(((rd_T56 l0 x5_1).f1) == ((rd_T56 l1 x5_1).f1)) || (!(((rd_T56 l0 x5_1).f2) == ((rd_T56 l1 x5_1).f2)) || (!(((rd_T56 l0 x5_1).f3) == ((rd_T56 l1 x5_1).f3)) || (!(((rd_T56 l0 x5_1).f4) == ((rd_T56 l1 x5_1).f4)))))))=true:=c7
        clear c7
        obtain rfl:=Option.some.inj H
        have p178:0≤(x5_1:Int):=of_decide_eq_true (by first|(with_reducible assumption)|assumption)
        have q178:x5_1<(l0.length:Int):=of_decide_eq_true (by first|(with_reducible assumption)|assumption)
        obtain ⟨ad178,e178,hx178_0,hx178_1,hx178_2,hx178_3,hx178_4⟩:=at_T56 HR0.out x5_1 p178 q178
        cases e178
        replace p178:=eq_true p178
        replace q178:=eq_true q178
        have p179:0≤(x5_1:Int):=of_decide_eq_true (by first|(with_reducible assumption)|assumption)
        have q179:x5_1<(l1.length:Int):=of_decide_eq_true (by first|(with_reducible assumption)|assumption)
        obtain ⟨ad179,e179,hx179_0,hx179_1,hx179_2,hx179_3,hx179_4⟩:=at_T56 HR1.out x5_1 p179 q179
        cases e179
        replace p179:=eq_true p179
        replace q179:=eq_true q179
        go_wp2
        repeat (go_quiet (fail);try go_wp2)
        go_ret
        exact ⟨by first|rfl|(simp;done)|(simp [*];done),by repeat (first|exact Drawn0.refl _|apply Drawn0.step)⟩
       ·rw [if_neg c7] at H
        have c7b0:(!((((rd_T56 l0 x5_1).f0).toList) == (((rd_T56 l1 x5_1).f0).toList)) || (!(((rd_T56 l0 x5_1).f1) == ((rd_T56 l1 x5_1).f1)) || (!(((rd_T56 l0 x5_1).f2) == ((rd_T56 l1 x5_1).f2)) || (!(((rd_T56 l0 x5_1).f3) == ((rd_T56 l1 x5_1).f3)) || (!(((rd_T56 l0 x5_1).f4) == ((rd_T56 l1 x5_1).f4)))))))=false:=by simpa using c7
        clear c7
        have H':=As0.mk H
        clear H
        have p178:0≤(x5_1:Int):=of_decide_eq_true (by first|(with_reducible assumption)|assumption)
        have q178:x5_1<(l0.length:Int):=of_decide_eq_true (by first|(with_reducible assumption)|assumption)
        obtain ⟨ad178,e178,hx178_0,hx178_1,hx178_2,hx178_3,hx178_4⟩:=at_T56 HR0.out x5_1 p178 q178
        cases e178
        replace p178:=eq_true p178
        replace q178:=eq_true q178
        have p179:0≤(x5_1:Int):=of_decide_eq_true (by first|(with_reducible assumption)|assumption)
        have q179:x5_1<(l1.length:Int):=of_decide_eq_true (by first|(with_reducible assumption)|assumption)
        obtain ⟨ad179,e179,hx179_0,hx179_1,hx179_2,hx179_3,hx179_4⟩:=at_T56 HR1.out x5_1 p179 q179
        cases e179
        replace p179:=eq_true p179
        replace q179:=eq_true q179
        go_wp2
        repeat (go_quiet (fail);try go_wp2)
        go_roundg k1
        case measure=>have:=HK1.out;omega
        case rel=>exact ⟨(wrap64 (x5_1+1)),(by first|rfl|(simp;done)|(simp [*];done)),H',⟨by have:=HK1.out;omega⟩,by repeat (first|exact Drawn0.refl _|apply Drawn0.step)⟩
      ·rw [if_neg c6] at H
       exact absurd H (by simp)
     ·rw [if_neg c5] at H
      exact absurd H (by simp)
    ·rw [if_neg c4] at H
     have c4b0:decide (x5_1<(l0.length:Int))=false:=decide_eq_false c4
     clear c4
     obtain rfl:=Option.some.inj H
     go_wp2
     repeat (go_quiet (fail);try go_wp2)
     go_ret
     exact ⟨by first|rfl|(simp;done)|(simp [*];done),by repeat (first|exact Drawn0.refl _|apply Drawn0.step)⟩
 ·rw [if_neg c3] at H
  have c3b0:((l0.length:Int) == (l1.length:Int))=false:=beq_eq_false_iff_ne.mpr c3
  have c3b1:((l0.length:Int) != (l1.length:Int))=true:=bne_iff_ne.mpr c3
  have c3b2:(l0.length == l1.length)=false:=by first|simpa using c3|(simp at c3 ⊢;omega)
  obtain rfl:=Option.some.inj H
  go_enter Try.func48,Try.ntmps48
  go_wp2
  repeat (go_quiet (fail);try go_wp2)
  go_ret
  exact ⟨by first|rfl|(simp;done)|(simp [*];done),by repeat (first|exact Drawn0.refl _|apply Drawn0.step)⟩
def spindlelaw0_CopyInsns.f (l0:List (S54)):Option ((List (S54))):=(some (([]:List (S54)):List (S54))).bind fun y184=>(if y184.length+l0.length<3518437208883 then (some (y184 ++ l0)) else (none))
theorem spindlelaw0_CopyInsns.calls (A0:Option Addr) (c0:Nat) (l0:List (S54)) (r:List (S54)) (w:World) (hr0:Kd.C k54 w A0 l0.length l0) (hc0:l0.length≤c0) (h:spindlelaw0_CopyInsns.f l0=some r) :
  Calls Try.prog 54 #[.slice A0 l0.length c0] w fun e w'=>∃ v0_:Value,e=.returned (v0_)∧Kd.R k54 54 w' w.heap.size (fun _=>True) v0_ r∧Below w.heap.size w w':=by
 have HR0:=As0.mk hr0
 have HC0:=As0.mk hc0
 clear hr0 hc0
 have HB:=As0.mk (Below.refl w.heap.size w)
 have H:((some (([]:List (S54)):List (S54))).bind fun y184=>(if y184.length+l0.length<3518437208883 then (some (y184 ++ l0)) else (none)))=some r:=h
 clear h
 obtain ⟨y184,hy184⟩:∃ y_:List (S54),y_=(([]:List (S54))):=⟨_,rfl⟩
 replace H:(if y184.length+l0.length<3518437208883 then (some (y184 ++ l0)) else (none))=some r:=by first|(rw [hy184];with_reducible exact H)|(have H2_:=(Option.bind_some _ _).symm.trans H;rw [hy184];with_reducible exact H2_)|(have H2_:=(Option.bind_some _ _).symm.trans H;with_reducible exact H2_)|with_reducible exact H|(rw [hy184];exact H)|exact H
 have Ny184:=As0.mk hy184
 clear hy184
 by_cases c2:y184.length+l0.length<3518437208883
 ·rw [if_pos c2] at H
  have LMc2:=As0.mk c2
  clear c2
  obtain ⟨y187,hy187⟩:∃ y_:List (S54),y_=(y184 ++ l0):=⟨_,rfl⟩
  replace H:(some y187)=some r:=by first|(rw [hy187];with_reducible exact H)|(have H2_:=(Option.bind_some _ _).symm.trans H;rw [hy187];with_reducible exact H2_)|(have H2_:=(Option.bind_some _ _).symm.trans H;with_reducible exact H2_)|with_reducible exact H|(rw [hy187];exact H)|exact H
  have Ny187:=As0.mk hy187
  clear hy187
  obtain rfl:=Option.some.inj H
  go_enter Try.func54,Try.ntmps54
  go_wp2_with (first|((with_reducible refine gtD (N:=3) rfl ?_);refine Kd.R_lit k54 _ 54 ?hg (N:=3) ?hd (xs:=([]:List (S54))) (inner:=[]) (ok:=fun _=>True) (okp:=fun _=>True) ?hr ?hp (fun _ hk=>hk) trivial (Below.refl _ _) (Nat.le_refl _) (by simp) ?_;(case hd=>rfl);(case hg=>rfl);(case hr=>first|(go_simp;done)|(go_simp;rfl));(case hp=>exact (Reps.none _ _));intro v185 w3 ho4 hb hg_ hnew_;clear hg_ hnew_;(first|rw [← Ny184.out] at ho4|(simp only [Int.reduceToNat] at ho4;rw [← Ny184.out] at ho4));have n0_:=As0.mk (Kd.R_lower ho4 (bdZ (by repeat (first|(with_reducible first|exact HB.out|apply bdA|apply bdN|apply bd1)|exact HB.out))));have n1_:=As0.mk (bdT (by repeat (first|(with_reducible first|exact HB.out|apply bdA|apply bdN|apply bd1)|exact HB.out)) hb);clear HB;have HO186:=n0_;have HB:=n1_;clear n0_ n1_;clear hb ho4)|((with_reducible refine gate_builtin (b:=.append) (xs:=#[.tmp 3,.tmp 4]) rfl ?_);at_builtin;refine Kd.R_append_rows k54 (w0:=w) w.heap.size rfl (.tmp 3) (.tmp 4) 22 54 (.agg #[(.int .i64 0),(.int .i64 0),(.int .i64 0),(.int .i64 0),(.int .i64 0)]) 40 rfl Try.underlying22 info54 rfl (by decide) (by omega) v185 y184 l0 _ _ _ (fun _=>True) (fun _=>False) rfl rfl ?aO ?aR (fun _ _ h=>h) (fun _ h=>h.elim) ?aF ?aB ?aS ?aL ?_;(case aR=>repeat (first|exact (Kd.CbW HR0.out HB.out)|(with_reducible refine Kd.C_alloc ?_ _)|(with_reducible refine Kd.C_drewN ?_ _)|(with_reducible refine Kd.C_drew ?_)));(case aB=>exact (by repeat (first|(with_reducible first|exact HB.out|apply bdA|apply bdN|apply bd1)|exact HB.out)));(case aF=>exact (fun _ _=>trivial));(case aO=>exact (by (with_reducible repeat (first|apply Kd.R_alloc|apply Kd.RdN|apply Kd.RdW));exact HO186.out));(case aS=>exact (bdZ (by repeat (first|(with_reducible first|exact HB.out|apply bdA|apply bdN|apply bd1)|exact HB.out))));(case aL=>have:=LMc2.out;omega);intro v188 w5 ho hb hg hat;rw [← Ny187.out] at ho;have n0_:=As0.mk (hb);have n1_:=As0.mk (ho);clear HB;clear HO186;have HB:=n0_;have HO189:=n1_;clear n0_ n1_;clear ho hb hg hat))
  go_ret
  exact ⟨_,by first|rfl|(simp [errW_none,errW_some] <;> rfl)|(simp [*,errW_none,errW_some] <;> rfl),by (with_reducible repeat (first|apply Kd.R_alloc|apply Kd.RdN|apply Kd.RdW));exact HO189.out,by repeat (first|(with_reducible first|exact HB.out|apply bdA|apply bdN|apply bd1)|exact HB.out)⟩
 ·rw [if_neg c2] at H
  exact absurd H (by simp)
def spindlelaw0_CopyImgFuncs.f (l0:List (S68)):Option ((List (S68))):=(some (([]:List (S68)):List (S68))).bind fun y190=>(if y190.length+l0.length<3518437208883 then (some (y190 ++ l0)) else (none))
theorem spindlelaw0_CopyImgFuncs.calls (A0:Option Addr) (c0:Nat) (l0:List (S68)) (r:List (S68)) (w:World) (hr0:Kd.C k68 w A0 l0.length l0) (hc0:l0.length≤c0) (h:spindlelaw0_CopyImgFuncs.f l0=some r) :
  Calls Try.prog 55 #[.slice A0 l0.length c0] w fun e w'=>∃ v0_:Value,e=.returned (v0_)∧Kd.R k68 68 w' w.heap.size (fun _=>True) v0_ r∧Below w.heap.size w w':=by
 have HR0:=As0.mk hr0
 have HC0:=As0.mk hc0
 clear hr0 hc0
 have HB:=As0.mk (Below.refl w.heap.size w)
 have H:((some (([]:List (S68)):List (S68))).bind fun y190=>(if y190.length+l0.length<3518437208883 then (some (y190 ++ l0)) else (none)))=some r:=h
 clear h
 obtain ⟨y190,hy190⟩:∃ y_:List (S68),y_=(([]:List (S68))):=⟨_,rfl⟩
 replace H:(if y190.length+l0.length<3518437208883 then (some (y190 ++ l0)) else (none))=some r:=by first|(rw [hy190];with_reducible exact H)|(have H2_:=(Option.bind_some _ _).symm.trans H;rw [hy190];with_reducible exact H2_)|(have H2_:=(Option.bind_some _ _).symm.trans H;with_reducible exact H2_)|with_reducible exact H|(rw [hy190];exact H)|exact H
 have Ny190:=As0.mk hy190
 clear hy190
 by_cases c2:y190.length+l0.length<3518437208883
 ·rw [if_pos c2] at H
  have LMc2:=As0.mk c2
  clear c2
  obtain ⟨y193,hy193⟩:∃ y_:List (S68),y_=(y190 ++ l0):=⟨_,rfl⟩
  replace H:(some y193)=some r:=by first|(rw [hy193];with_reducible exact H)|(have H2_:=(Option.bind_some _ _).symm.trans H;rw [hy193];with_reducible exact H2_)|(have H2_:=(Option.bind_some _ _).symm.trans H;with_reducible exact H2_)|with_reducible exact H|(rw [hy193];exact H)|exact H
  have Ny193:=As0.mk hy193
  clear hy193
  obtain rfl:=Option.some.inj H
  go_enter Try.func55,Try.ntmps55
  go_wp2_with (first|((with_reducible refine gtD (N:=3) rfl ?_);refine Kd.R_lit k68 _ 68 ?hg (N:=3) ?hd (xs:=([]:List (S68))) (inner:=[]) (ok:=fun _=>True) (okp:=fun _=>True) ?hr ?hp (fun _ hk=>hk) trivial (Below.refl _ _) (Nat.le_refl _) (by simp) ?_;(case hd=>rfl);(case hg=>rfl);(case hr=>first|(go_simp;done)|(go_simp;rfl));(case hp=>exact (Reps.none _ _));intro v191 w3 ho4 hb hg_ hnew_;clear hg_ hnew_;(first|rw [← Ny190.out] at ho4|(simp only [Int.reduceToNat] at ho4;rw [← Ny190.out] at ho4));have n0_:=As0.mk (Kd.R_lower ho4 (bdZ (by repeat (first|(with_reducible first|exact HB.out|apply bdA|apply bdN|apply bd1)|exact HB.out))));have n1_:=As0.mk (bdT (by repeat (first|(with_reducible first|exact HB.out|apply bdA|apply bdN|apply bd1)|exact HB.out)) hb);clear HB;have HO192:=n0_;have HB:=n1_;clear n0_ n1_;clear hb ho4)|((with_reducible refine gate_builtin (b:=.append) (xs:=#[.tmp 3,.tmp 4]) rfl ?_);at_builtin;refine Kd.R_append_rows k68 (w0:=w) w.heap.size rfl (.tmp 3) (.tmp 4) 23 68 (.agg #[(.string ⟨#[]⟩),(.int .i64 0),(.int .i64 0),(.int .i64 0)]) 40 rfl Try.underlying23 info68 rfl (by decide) (by omega) v191 y190 l0 _ _ _ (fun _=>True) (fun _=>False) rfl rfl ?aO ?aR (fun _ _ h=>h) (fun _ h=>h.elim) ?aF ?aB ?aS ?aL ?_;(case aR=>repeat (first|exact (Kd.CbW HR0.out HB.out)|(with_reducible refine Kd.C_alloc ?_ _)|(with_reducible refine Kd.C_drewN ?_ _)|(with_reducible refine Kd.C_drew ?_)));(case aB=>exact (by repeat (first|(with_reducible first|exact HB.out|apply bdA|apply bdN|apply bd1)|exact HB.out)));(case aF=>exact (fun _ _=>trivial));(case aO=>exact (by (with_reducible repeat (first|apply Kd.R_alloc|apply Kd.RdN|apply Kd.RdW));exact HO192.out));(case aS=>exact (bdZ (by repeat (first|(with_reducible first|exact HB.out|apply bdA|apply bdN|apply bd1)|exact HB.out))));(case aL=>have:=LMc2.out;omega);intro v194 w5 ho hb hg hat;rw [← Ny193.out] at ho;have n0_:=As0.mk (hb);have n1_:=As0.mk (ho);clear HB;clear HO192;have HB:=n0_;have HO195:=n1_;clear n0_ n1_;clear ho hb hg hat))
  go_ret
  exact ⟨_,by first|rfl|(simp [errW_none,errW_some] <;> rfl)|(simp [*,errW_none,errW_some] <;> rfl),by (with_reducible repeat (first|apply Kd.R_alloc|apply Kd.RdN|apply Kd.RdW));exact HO195.out,by repeat (first|(with_reducible first|exact HB.out|apply bdA|apply bdN|apply bd1)|exact HB.out)⟩
 ·rw [if_neg c2] at H
  exact absurd H (by simp)
def spindlelaw0_CopyTables.f (l0:List (S56)):Option ((List (S56))):=(some (([]:List (S56)):List (S56))).bind fun y196=>(if y196.length+l0.length<2932031007402 then (some (y196 ++ l0)) else (none))
theorem spindlelaw0_CopyTables.calls (A0:Option Addr) (c0:Nat) (l0:List (S56)) (r:List (S56)) (w:World) (hr0:Kd.C k56 w A0 l0.length l0) (hc0:l0.length≤c0) (h:spindlelaw0_CopyTables.f l0=some r) :
  Calls Try.prog 56 #[.slice A0 l0.length c0] w fun e w'=>∃ v0_:Value,e=.returned (v0_)∧Kd.R k56 56 w' w.heap.size (fun _=>True) v0_ r∧Below w.heap.size w w':=by
 have HR0:=As0.mk hr0
 have HC0:=As0.mk hc0
 clear hr0 hc0
 have HB:=As0.mk (Below.refl w.heap.size w)
 have H:((some (([]:List (S56)):List (S56))).bind fun y196=>(if y196.length+l0.length<2932031007402 then (some (y196 ++ l0)) else (none)))=some r:=h
 clear h
 obtain ⟨y196,hy196⟩:∃ y_:List (S56),y_=(([]:List (S56))):=⟨_,rfl⟩
 replace H:(if y196.length+l0.length<2932031007402 then (some (y196 ++ l0)) else (none))=some r:=by first|(rw [hy196];with_reducible exact H)|(have H2_:=(Option.bind_some _ _).symm.trans H;rw [hy196];with_reducible exact H2_)|(have H2_:=(Option.bind_some _ _).symm.trans H;with_reducible exact H2_)|with_reducible exact H|(rw [hy196];exact H)|exact H
 have Ny196:=As0.mk hy196
 clear hy196
 by_cases c2:y196.length+l0.length<2932031007402
 ·rw [if_pos c2] at H
  have LMc2:=As0.mk c2
  clear c2
  obtain ⟨y199,hy199⟩:∃ y_:List (S56),y_=(y196 ++ l0):=⟨_,rfl⟩
  replace H:(some y199)=some r:=by first|(rw [hy199];with_reducible exact H)|(have H2_:=(Option.bind_some _ _).symm.trans H;rw [hy199];with_reducible exact H2_)|(have H2_:=(Option.bind_some _ _).symm.trans H;with_reducible exact H2_)|with_reducible exact H|(rw [hy199];exact H)|exact H
  have Ny199:=As0.mk hy199
  clear hy199
  obtain rfl:=Option.some.inj H
  go_enter Try.func56,Try.ntmps56
  go_wp2_with (first|((with_reducible refine gtD (N:=3) rfl ?_);refine Kd.R_lit k56 _ 56 ?hg (N:=3) ?hd (xs:=([]:List (S56))) (inner:=[]) (ok:=fun _=>True) (okp:=fun _=>True) ?hr ?hp (fun _ hk=>hk) trivial (Below.refl _ _) (Nat.le_refl _) (by simp) ?_;(case hd=>rfl);(case hg=>rfl);(case hr=>first|(go_simp;done)|(go_simp;rfl));(case hp=>exact (Reps.none _ _));intro v197 w3 ho4 hb hg_ hnew_;clear hg_ hnew_;(first|rw [← Ny196.out] at ho4|(simp only [Int.reduceToNat] at ho4;rw [← Ny196.out] at ho4));have n0_:=As0.mk (Kd.R_lower ho4 (bdZ (by repeat (first|(with_reducible first|exact HB.out|apply bdA|apply bdN|apply bd1)|exact HB.out))));have n1_:=As0.mk (bdT (by repeat (first|(with_reducible first|exact HB.out|apply bdA|apply bdN|apply bd1)|exact HB.out)) hb);clear HB;have HO198:=n0_;have HB:=n1_;clear n0_ n1_;clear hb ho4)|((with_reducible refine gate_builtin (b:=.append) (xs:=#[.tmp 3,.tmp 4]) rfl ?_);at_builtin;refine Kd.R_append_rows k56 (w0:=w) w.heap.size rfl (.tmp 3) (.tmp 4) 24 56 (.agg #[(.string ⟨#[]⟩),(.int .i64 0),(.int .i64 0),(.int .i64 0),(.int .i64 0)]) 48 rfl Try.underlying24 info56 rfl (by decide) (by omega) v197 y196 l0 _ _ _ (fun _=>True) (fun _=>False) rfl rfl ?aO ?aR (fun _ _ h=>h) (fun _ h=>h.elim) ?aF ?aB ?aS ?aL ?_;(case aR=>repeat (first|exact (Kd.CbW HR0.out HB.out)|(with_reducible refine Kd.C_alloc ?_ _)|(with_reducible refine Kd.C_drewN ?_ _)|(with_reducible refine Kd.C_drew ?_)));(case aB=>exact (by repeat (first|(with_reducible first|exact HB.out|apply bdA|apply bdN|apply bd1)|exact HB.out)));(case aF=>exact (fun _ _=>trivial));(case aO=>exact (by (with_reducible repeat (first|apply Kd.R_alloc|apply Kd.RdN|apply Kd.RdW));exact HO198.out));(case aS=>exact (bdZ (by repeat (first|(with_reducible first|exact HB.out|apply bdA|apply bdN|apply bd1)|exact HB.out))));(case aL=>have:=LMc2.out;omega);intro v200 w5 ho hb hg hat;rw [← Ny199.out] at ho;have n0_:=As0.mk (hb);have n1_:=As0.mk (ho);clear HB;clear HO198;have HB:=n0_;have HO201:=n1_;clear n0_ n1_;clear ho hb hg hat))
  go_ret
  exact ⟨_,by first|rfl|(simp [errW_none,errW_some] <;> rfl)|(simp [*,errW_none,errW_some] <;> rfl),by (with_reducible repeat (first|apply Kd.R_alloc|apply Kd.RdN|apply Kd.RdW));exact HO201.out,by repeat (first|(with_reducible first|exact HB.out|apply bdA|apply bdN|apply bd1)|exact HB.out)⟩
 ·rw [if_neg c2] at H
  exact absurd H (by simp)
def spindlelaw0_CopyImage.f (l0_0:List (S54)) (l0_1:List (S68)) (l0_2:List (S56)) (a0_3:Int):Option ((List (S54)) × (List (S68)) × (List (S56)) × Int):=(spindlelaw0_CopyInsns.f l0_0).bind fun t204=>((spindlelaw0_CopyImgFuncs.f l0_1).bind fun t207=>((spindlelaw0_CopyTables.f l0_2).bind fun t210=>(some (t204,t207,t210,a0_3))))
def spindlelaw0_CopyImage.T1:Bool × List (List Nat × List Nat):=(true,[([],[]),([0],[0]),([1],[1]),([],[]),([3],[3]),([4,2],[4]),([],[]),([6],[6]),([7,5],[7]),([],[]),([9],[9]),([2,5,8,10],[2,5,8,10]),([11,8,0,1,2,3,4,5,6,7,8,9,10,11],[11])])
def spindlelaw0_CopyImage.B1:List Nat:=[0,1,3,0,8,31,0,64,255,0,512,2047,4095]
theorem spindlelaw0_CopyImage.tab1:rtab .any (opsOf Try.f23 1)=spindlelaw0_CopyImage.T1:=by kernel_rfl
theorem spindlelaw0_CopyImage.bits1:waitsOk spindlelaw0_CopyImage.T1.2 spindlelaw0_CopyImage.B1=true:=by kernel_rfl
theorem spindlelaw0_CopyImage.calls (A0_0:Option Addr) (c0_0:Nat) (l0_0:List (S54)) (A0_1:Option Addr) (c0_1:Nat) (l0_1:List (S68)) (A0_2:Option Addr) (c0_2:Nat) (l0_2:List (S56)) (a0_3:Int) (r1:List (S54)) (r2:List (S68)) (r3:List (S56)) (r4:Int) (w:World) (hr0_0:Kd.C k54 w A0_0 l0_0.length l0_0) (hc0_0:l0_0.length≤c0_0) (hr0_1:Kd.C k68 w A0_1 l0_1.length l0_1) (hc0_1:l0_1.length≤c0_1) (hr0_2:Kd.C k56 w A0_2 l0_2.length l0_2) (hc0_2:l0_2.length≤c0_2) (h:spindlelaw0_CopyImage.f l0_0 l0_1 l0_2 a0_3=some (r1,r2,r3,r4)) :
  Calls Try.prog 23 #[.agg #[.slice A0_0 l0_0.length c0_0,.slice A0_1 l0_1.length c0_1,.slice A0_2 l0_2.length c0_2,.int .i64 a0_3]] w fun e w'=>∃ v0_ v1_ v2_:Value,e=.returned (.agg #[v0_,v1_,v2_,.int .i64 r4])∧Kd.R k54 54 w' w.heap.size (fun _=>True) v0_ r1∧Kd.R k68 68 w' w.heap.size (fun _=>True) v1_ r2∧Kd.R k56 56 w' w.heap.size (fun _=>True) v2_ r3∧Below w.heap.size w w':=by
 have hu26:=Try.underlying26
 have HR0_0:=As0.mk hr0_0
 have HC0_0:=As0.mk hc0_0
 clear hr0_0 hc0_0
 have HR0_1:=As0.mk hr0_1
 have HC0_1:=As0.mk hc0_1
 clear hr0_1 hc0_1
 have HR0_2:=As0.mk hr0_2
 have HC0_2:=As0.mk hc0_2
 clear hr0_2 hc0_2
 have HB:=As0.mk (Below.refl w.heap.size w)
 have H:((spindlelaw0_CopyInsns.f l0_0).bind fun t204=>((spindlelaw0_CopyImgFuncs.f l0_1).bind fun t207=>((spindlelaw0_CopyTables.f l0_2).bind fun t210=>(some (t204,t207,t210,a0_3)))))=some (r1,r2,r3,r4):=h
 clear h
 replace H:=Option.bind_eq_some_iff.mp H
 obtain ⟨t204,A20,H⟩:=H
 replace H:((spindlelaw0_CopyImgFuncs.f l0_1).bind fun t207=>((spindlelaw0_CopyTables.f l0_2).bind fun t210=>(some (t204,t207,t210,a0_3))))=some (r1,r2,r3,r4):=H
 have A2:=As0.mk A20
 clear A20
 replace H:=Option.bind_eq_some_iff.mp H
 obtain ⟨t207,A30,H⟩:=H
 replace H:((spindlelaw0_CopyTables.f l0_2).bind fun t210=>(some (t204,t207,t210,a0_3)))=some (r1,r2,r3,r4):=H
 have A3:=As0.mk A30
 clear A30
 replace H:=Option.bind_eq_some_iff.mp H
 obtain ⟨t210,A40,H⟩:=H
 replace H:(some (t204,t207,t210,a0_3))=some (r1,r2,r3,r4):=H
 have A4:=As0.mk A40
 clear A40
 simp only [Option.some.injEq,Prod.mk.injEq] at H
 obtain ⟨rfl,rfl,rfl,rfl⟩:=H
 go_enter Try.func23,Try.ntmps23
 try go_wp2_with (first|((with_reducible refine gtD (N:=1) rfl ?_);refine bxE ?hg (N:=1) ?hd (cs:=#[.slice A0_0 l0_0.length c0_0,.slice A0_1 l0_1.length c0_1,.slice A0_2 l0_2.length c0_2,.int .i64 a0_3]) (t:=26) ?hr ?_;(case hd=>rfl);(case hg=>rfl);(case hr=>first|(go_simp;done)|(go_simp;rfl));intro gb202 hg w5 hbox hb;have n0_:=As0.mk (bdT (by repeat (first|(with_reducible first|exact HB.out|apply bdA|apply bdN|apply bd1)|exact HB.out)) hb);have n1_:=As0.mk (hbox);have n2_:=As0.mk ((by rw [hg];exact (bdZ (by repeat (first|(with_reducible first|exact HB.out|apply bdA|apply bdN|apply bd1)|exact HB.out))):w.heap.size≤gb202));have n3_:=As0.mk ((by rw [hg];exact (bdZ (by repeat (first|(with_reducible first|exact HB.out|apply bdA|apply bdN|apply bd1)|exact HB.out))):w.heap.size≤gb202));clear HB;have HB:=n0_;have BK202:=n1_;have GW202:=n2_;have GE202:=n3_;clear n0_ n1_ n2_ n3_;clear hb hbox hg)|((with_reducible refine gtD (N:=2) rfl ?_);refine bxE ?hg (N:=2) ?hd (cs:=#[.slice none 0 0,.slice none 0 0,.slice none 0 0,.int .i64 0]) (t:=26) ?hr ?_;(case hd=>rfl);(case hg=>rfl);(case hr=>first|(go_simp;done)|(go_simp;rfl));intro gb203 hg w6 hbox hb;have n0_:=As0.mk (bkB (g:=gb202) (o:=.cells #[.slice A0_0 l0_0.length c0_0,.slice A0_1 l0_1.length c0_1,.slice A0_2 l0_2.length c0_2,.int .i64 a0_3] 26 (0,0)) (by (with_reducible repeat (first|refine bkN ?_ _|refine bkD ?_|refine bkA ?_ _));exact BK202.out) hb);have n1_:=As0.mk (bdT (by repeat (first|(with_reducible first|exact HB.out|apply bdA|apply bdN|apply bd1|refine bdS ?_ GE202.out)|exact HB.out)) hb);have n2_:=As0.mk (hbox);have n3_:=As0.mk ((by rw [hg];exact (bdZ (by repeat (first|(with_reducible first|exact HB.out|apply bdA|apply bdN|apply bd1|refine bdS ?_ GE202.out)|exact HB.out))):w.heap.size≤gb203));have n4_:=As0.mk ((by rw [hg];exact (bdZ (by repeat (first|(with_reducible first|exact HB.out|apply bdA|apply bdN|apply bd1|refine bdS ?_ GE202.out)|exact HB.out))):w.heap.size≤gb203));have n5_:=As0.mk ((by rw [hg];exact Nat.ne_of_lt (blk_lt (g:=gb202) (o:=.cells #[.slice A0_0 l0_0.length c0_0,.slice A0_1 l0_1.length c0_1,.slice A0_2 l0_2.length c0_2,.int .i64 a0_3] 26 (0,0)) (by (with_reducible repeat (first|refine bkN ?_ _|refine bkD ?_|refine bkA ?_ _));exact BK202.out)):gb202≠gb203));have n6_:=As0.mk ((by rw [hg];exact Nat.ne_of_gt (blk_lt (g:=gb202) (o:=.cells #[.slice A0_0 l0_0.length c0_0,.slice A0_1 l0_1.length c0_1,.slice A0_2 l0_2.length c0_2,.int .i64 a0_3] 26 (0,0)) (by (with_reducible repeat (first|refine bkN ?_ _|refine bkD ?_|refine bkA ?_ _));exact BK202.out)):gb203≠gb202));clear BK202;clear HB;have BK202:=n0_;have HB:=n1_;have BK203:=n2_;have GW203:=n3_;have GE203:=n4_;have NB202_203:=n5_;have NB203_202:=n6_;clear n0_ n1_ n2_ n3_ n4_ n5_ n6_;clear hb hbox hg))
 have n0_:=As0.mk (bkD BK202.out)
 have n1_:=As0.mk (bkD BK203.out)
 have n2_:=As0.mk (bd1 HB.out)
 clear BK202 BK203 HB
 have BK202:=n0_
 have BK203:=n1_
 have HB:=n2_
 clear n0_ n1_ n2_
 refine start_ (n:=13) (S:=fun w'=>w'.cell? ⟨gb202,0,none⟩=some (.slice A0_0 l0_0.length c0_0)∧w'.cell? ⟨gb202,1,none⟩=some (.slice A0_1 l0_1.length c0_1)∧w'.cell? ⟨gb202,2,none⟩=some (.slice A0_2 l0_2.length c0_2)∧w'.cell? ⟨gb202,3,none⟩=some (.int .i64 a0_3)) (ds:=[]) #[false,false,false,false,false,false,false,false,false,false,false,false,false] (by kernel_rfl) rfl rfl ⟨(bkC BK202.out 0).trans rfl,(bkC BK202.out 1).trans rfl,(bkC BK202.out 2).trans rfl,(bkC BK202.out 3).trans rfl⟩ (fun hHeld=>?_);refine with_tabW spindlelaw0_CopyImage.tab1 spindlelaw0_CopyImage.bits1 (fun HT_ HW_=>?_)
 generalize w6.drew=w7 at BK202 BK203 HB hHeld ⊢
 refine pure_ (i:=0) (N:=some 3) (v:=?_) (a':=?_) #[true,false,false,false,false,false,false,false,false,false,false,false,false] rfl rfl (any_of HT_.out (by kernel_rfl)) (fun _ _ _ h=>h) (Or.inl ⟨by rfl,?_⟩) ?_ ?_
 rotate_left
 ·intro w'
  go_simp
  with_reducible rfl
 rotate_left
 ·simp only [Act.put,List.setIfInBounds_toArray,List.set_cons_zero,List.set_cons_succ,i64_w,i32_w]
  rfl
 refine pure_ (i:=3) (N:=some 6) (v:=?_) (a':=?_) #[true,false,false,true,false,false,false,false,false,false,false,false,false] rfl rfl (any_of HT_.out (by kernel_rfl)) (fun _ _ _ h=>h) (Or.inl ⟨by rfl,?_⟩) ?_ ?_
 rotate_left
 ·intro w'
  go_simp
  with_reducible rfl
 rotate_left
 ·simp only [Act.put,List.setIfInBounds_toArray,List.set_cons_zero,List.set_cons_succ,i64_w,i32_w]
  rfl
 refine pure_ (i:=6) (N:=some 9) (v:=?_) (a':=?_) #[true,false,false,true,false,false,true,false,false,false,false,false,false] rfl rfl (any_of HT_.out (by kernel_rfl)) (fun _ _ _ h=>h) (Or.inl ⟨by rfl,?_⟩) ?_ ?_
 rotate_left
 ·intro w'
  go_simp
  with_reducible rfl
 rotate_left
 ·simp only [Act.put,List.setIfInBounds_toArray,List.set_cons_zero,List.set_cons_succ,i64_w,i32_w]
  rfl
 refine pure_ (i:=9) (N:=some 12) (v:=?_) (a':=?_) #[true,false,false,true,false,false,true,false,false,true,false,false,false] rfl rfl (any_of HT_.out (by kernel_rfl)) (fun _ _ _ h=>h) (Or.inl ⟨by rfl,?_⟩) ?_ ?_
 rotate_left
 ·intro w'
  go_simp
  with_reducible rfl
 rotate_left
 ·simp only [Act.put,List.setIfInBounds_toArray,List.set_cons_zero,List.set_cons_succ,i64_w,i32_w]
  rfl
 refine take_ (i:=1) (N:=some 4) (v:=?_) (a':=?_) #[true,true,false,true,false,false,true,false,false,true,false,false,false] rfl rfl (take_ofW HT_.out HW_.out (by kernel_rfl)) (fun _ _ _ h=>h) (Or.inl ⟨by rfl,?_⟩) hHeld ?_ ?_
 rotate_left
 ·rintro w' ⟨s0,s1,s2,s3⟩
  go_simp
  with_reducible rfl
 rotate_left
 ·simp only [Act.put,List.setIfInBounds_toArray,List.set_cons_zero,List.set_cons_succ,i64_w,i32_w]
  rfl
 refine take_ (i:=4) (N:=some 7) (v:=?_) (a':=?_) #[true,true,false,true,true,false,true,false,false,true,false,false,false] rfl rfl (take_ofW HT_.out HW_.out (by kernel_rfl)) (fun _ _ _ h=>h) (Or.inl ⟨by rfl,?_⟩) hHeld ?_ ?_
 rotate_left
 ·rintro w' ⟨s0,s1,s2,s3⟩
  go_simp
  with_reducible rfl
 rotate_left
 ·simp only [Act.put,List.setIfInBounds_toArray,List.set_cons_zero,List.set_cons_succ,i64_w,i32_w]
  rfl
 refine take_ (i:=7) (N:=some 10) (v:=?_) (a':=?_) #[true,true,false,true,true,false,true,true,false,true,false,false,false] rfl rfl (take_ofW HT_.out HW_.out (by kernel_rfl)) (fun _ _ _ h=>h) (Or.inl ⟨by rfl,?_⟩) hHeld ?_ ?_
 rotate_left
 ·rintro w' ⟨s0,s1,s2,s3⟩
  go_simp
  with_reducible rfl
 rotate_left
 ·simp only [Act.put,List.setIfInBounds_toArray,List.set_cons_zero,List.set_cons_succ,i64_w,i32_w]
  rfl
 refine take_ (i:=10) (N:=some 13) (v:=?_) (a':=?_) #[true,true,false,true,true,false,true,true,false,true,true,false,false] rfl rfl (take_ofW HT_.out HW_.out (by kernel_rfl)) (fun _ _ _ h=>h) (Or.inl ⟨by rfl,?_⟩) hHeld ?_ ?_
 rotate_left
 ·rintro w' ⟨s0,s1,s2,s3⟩
  go_simp
  with_reducible rfl
 rotate_left
 ·simp only [Act.put,List.setIfInBounds_toArray,List.set_cons_zero,List.set_cons_succ,i64_w,i32_w]
  rfl
 refine one_ (i:=2) (N:=some 5) #[true,true,true,true,true,false,true,true,false,true,true,false,false] rfl rfl (one_of HT_.out (by kernel_rfl)) (by decide) (fun K hK=>?_)
 refine goes_ Try.func54 (by kernel_rfl) rfl #[.slice A0_0 l0_0.length c0_0] (by rfl) rfl rfl (by (try simp only [List.map_toArray,List.map_cons,List.map_nil]);first|done|rfl|(simp only [List.length_drop,List.length_take];rfl)) ?_
 with_reducible refine (spindlelaw0_CopyInsns.calls _ _ l0_0 t204 _ ?side1 ?side2 A2.out).mono ?_
 (case side1=>repeat (first|exact (Kd.CbW HR0_0.out HB.out)|(with_reducible refine Kd.C_alloc ?_ _)|(with_reducible refine Kd.C_drewN ?_ _)|(with_reducible refine Kd.C_drew ?_)))
 (case side2=>exact HC0_0.out)
 rintro e w8 ⟨v205,rfl,ho0,hb⟩
 refine ⟨_,rfl,?_⟩
 have n0_:=As0.mk (Kd.R_lower ho0 (bdZ (by repeat (first|(with_reducible first|exact HB.out|apply bdA|apply bdN|apply bd1|refine bdS ?_ GE202.out|refine bdS ?_ GE203.out)|exact HB.out))))
 have n1_:=As0.mk (bkB (g:=gb202) (o:=.cells #[.slice A0_0 l0_0.length c0_0,.slice A0_1 l0_1.length c0_1,.slice A0_2 l0_2.length c0_2,.int .i64 a0_3] 26 (0,0)) (by (with_reducible repeat (first|refine bkN ?_ _|refine bkD ?_|refine bkA ?_ _));exact BK202.out) hb)
 have n2_:=As0.mk (bkB (g:=gb203) (o:=.cells #[.slice none 0 0,.slice none 0 0,.slice none 0 0,.int .i64 0] 26 (0,0)) (by (with_reducible repeat (first|refine bkN ?_ _|refine bkD ?_|refine bkA ?_ _));exact BK203.out) hb)
 have n3_:=As0.mk (bdT (by repeat (first|(with_reducible first|exact HB.out|apply bdA|apply bdN|apply bd1|refine bdS ?_ GE202.out|refine bdS ?_ GE203.out)|exact HB.out)) hb)
 clear BK202 BK203 HB
 have HO206:=n0_
 have BK202:=n1_
 have BK203:=n2_
 have HB:=n3_
 clear n0_ n1_ n2_ n3_
 (try clear hb)
 (try clear hb2)
 (try clear hk)
 (try clear hi)
 (try clear ho0)
 refine hK.out _ _ ⟨(bkC BK202.out 0).trans rfl,(bkC BK202.out 1).trans rfl,(bkC BK202.out 2).trans rfl,(bkC BK202.out 3).trans rfl⟩ (fun hHeld=>?_)
 clear hK K
 refine norm_ (a':=?_) ?_ ?_
 rotate_left
 ·show Act.put _ (some 5) _=_
  simp only [Act.put,List.setIfInBounds_toArray,List.set_cons_zero,List.set_cons_succ,i64_w,i32_w]
  rfl
 refine one_ (i:=5) (N:=some 8) #[true,true,true,true,true,true,true,true,false,true,true,false,false] rfl rfl (one_of HT_.out (by kernel_rfl)) (by decide) (fun K hK=>?_)
 refine goes_ Try.func55 (by kernel_rfl) rfl #[.slice A0_1 l0_1.length c0_1] (by rfl) rfl rfl (by (try simp only [List.map_toArray,List.map_cons,List.map_nil]);first|done|rfl|(simp only [List.length_drop,List.length_take];rfl)) ?_
 with_reducible refine (spindlelaw0_CopyImgFuncs.calls _ _ l0_1 t207 _ ?side1 ?side2 A3.out).mono ?_
 (case side1=>repeat (first|exact (Kd.CbW HR0_1.out HB.out)|(with_reducible refine Kd.C_alloc ?_ _)|(with_reducible refine Kd.C_drewN ?_ _)|(with_reducible refine Kd.C_drew ?_)))
 (case side2=>exact HC0_1.out)
 rintro e w9 ⟨v208,rfl,ho0,hb⟩
 refine ⟨_,rfl,?_⟩
 have n0_:=As0.mk (Kd.RbW (by (with_reducible repeat (first|apply Kd.R_alloc|apply Kd.RdN|apply Kd.RdW));exact HO206.out) hb)
 have n1_:=As0.mk (Kd.R_lower ho0 (bdZ (by repeat (first|(with_reducible first|exact HB.out|apply bdA|apply bdN|apply bd1|refine bdS ?_ GE202.out|refine bdS ?_ GE203.out)|exact HB.out))))
 have n2_:=As0.mk (bkB (g:=gb202) (o:=.cells #[.slice A0_0 l0_0.length c0_0,.slice A0_1 l0_1.length c0_1,.slice A0_2 l0_2.length c0_2,.int .i64 a0_3] 26 (0,0)) (by (with_reducible repeat (first|refine bkN ?_ _|refine bkD ?_|refine bkA ?_ _));exact BK202.out) hb)
 have n3_:=As0.mk (bkB (g:=gb203) (o:=.cells #[.slice none 0 0,.slice none 0 0,.slice none 0 0,.int .i64 0] 26 (0,0)) (by (with_reducible repeat (first|refine bkN ?_ _|refine bkD ?_|refine bkA ?_ _));exact BK203.out) hb)
 have n4_:=As0.mk (bdT (by repeat (first|(with_reducible first|exact HB.out|apply bdA|apply bdN|apply bd1|refine bdS ?_ GE202.out|refine bdS ?_ GE203.out)|exact HB.out)) hb)
 clear HO206 BK202 BK203 HB
 have HO206:=n0_
 have HO209:=n1_
 have BK202:=n2_
 have BK203:=n3_
 have HB:=n4_
 clear n0_ n1_ n2_ n3_ n4_
 (try clear hb)
 (try clear hb2)
 (try clear hk)
 (try clear hi)
 (try clear ho0)
 refine hK.out _ _ ⟨(bkC BK202.out 0).trans rfl,(bkC BK202.out 1).trans rfl,(bkC BK202.out 2).trans rfl,(bkC BK202.out 3).trans rfl⟩ (fun hHeld=>?_)
 clear hK K
 refine norm_ (a':=?_) ?_ ?_
 rotate_left
 ·show Act.put _ (some 8) _=_
  simp only [Act.put,List.setIfInBounds_toArray,List.set_cons_zero,List.set_cons_succ,i64_w,i32_w]
  rfl
 refine one_ (i:=8) (N:=some 11) #[true,true,true,true,true,true,true,true,true,true,true,false,false] rfl rfl (one_of HT_.out (by kernel_rfl)) (by decide) (fun K hK=>?_)
 refine goes_ Try.func56 (by kernel_rfl) rfl #[.slice A0_2 l0_2.length c0_2] (by rfl) rfl rfl (by (try simp only [List.map_toArray,List.map_cons,List.map_nil]);first|done|rfl|(simp only [List.length_drop,List.length_take];rfl)) ?_
 with_reducible refine (spindlelaw0_CopyTables.calls _ _ l0_2 t210 _ ?side1 ?side2 A4.out).mono ?_
 (case side1=>repeat (first|exact (Kd.CbW HR0_2.out HB.out)|(with_reducible refine Kd.C_alloc ?_ _)|(with_reducible refine Kd.C_drewN ?_ _)|(with_reducible refine Kd.C_drew ?_)))
 (case side2=>exact HC0_2.out)
 rintro e w10 ⟨v211,rfl,ho0,hb⟩
 refine ⟨_,rfl,?_⟩
 have n0_:=As0.mk (Kd.RbW (by (with_reducible repeat (first|apply Kd.R_alloc|apply Kd.RdN|apply Kd.RdW));exact HO206.out) hb)
 have n1_:=As0.mk (Kd.RbW (by (with_reducible repeat (first|apply Kd.R_alloc|apply Kd.RdN|apply Kd.RdW));exact HO209.out) hb)
 have n2_:=As0.mk (Kd.R_lower ho0 (bdZ (by repeat (first|(with_reducible first|exact HB.out|apply bdA|apply bdN|apply bd1|refine bdS ?_ GE202.out|refine bdS ?_ GE203.out)|exact HB.out))))
 have n3_:=As0.mk (bkB (g:=gb202) (o:=.cells #[.slice A0_0 l0_0.length c0_0,.slice A0_1 l0_1.length c0_1,.slice A0_2 l0_2.length c0_2,.int .i64 a0_3] 26 (0,0)) (by (with_reducible repeat (first|refine bkN ?_ _|refine bkD ?_|refine bkA ?_ _));exact BK202.out) hb)
 have n4_:=As0.mk (bkB (g:=gb203) (o:=.cells #[.slice none 0 0,.slice none 0 0,.slice none 0 0,.int .i64 0] 26 (0,0)) (by (with_reducible repeat (first|refine bkN ?_ _|refine bkD ?_|refine bkA ?_ _));exact BK203.out) hb)
 have n5_:=As0.mk (bdT (by repeat (first|(with_reducible first|exact HB.out|apply bdA|apply bdN|apply bd1|refine bdS ?_ GE202.out|refine bdS ?_ GE203.out)|exact HB.out)) hb)
 clear HO206 HO209 BK202 BK203 HB
 have HO206:=n0_
 have HO209:=n1_
 have HO212:=n2_
 have BK202:=n3_
 have BK203:=n4_
 have HB:=n5_
 clear n0_ n1_ n2_ n3_ n4_ n5_
 (try clear hb)
 (try clear hb2)
 (try clear hk)
 (try clear hi)
 (try clear ho0)
 obtain ⟨Ao11,co11,eo11⟩:=Kd.R_slice HO212.out
 (first|subst eo11|(injection eo11 with f1_ f2_ f3_;have f4_:=f1_.symm;have f5_:=f3_.symm;clear f1_ f2_ f3_;subst f4_;subst f5_))
 obtain ⟨Ao12,co12,eo12⟩:=Kd.R_slice HO209.out
 (first|subst eo12|(injection eo12 with f1_ f2_ f3_;have f4_:=f1_.symm;have f5_:=f3_.symm;clear f1_ f2_ f3_;subst f4_;subst f5_))
 obtain ⟨Ao13,co13,eo13⟩:=Kd.R_slice HO206.out
 (first|subst eo13|(injection eo13 with f1_ f2_ f3_;have f4_:=f1_.symm;have f5_:=f3_.symm;clear f1_ f2_ f3_;subst f4_;subst f5_))
 refine hK.out _ _ ⟨(bkC BK202.out 0).trans rfl,(bkC BK202.out 1).trans rfl,(bkC BK202.out 2).trans rfl,(bkC BK202.out 3).trans rfl⟩ (fun hHeld=>?_)
 clear hK K
 refine norm_ (a':=?_) ?_ ?_
 rotate_left
 ·show Act.put _ (some 11) _=_
  simp only [Act.put,List.setIfInBounds_toArray,List.set_cons_zero,List.set_cons_succ,i64_w,i32_w]
  rfl
 refine pure_ (i:=11) (N:=some 14) (v:=?_) (a':=?_) #[true,true,true,true,true,true,true,true,true,true,true,true,false] rfl rfl (any_of HT_.out (by kernel_rfl)) (fun _ _ _ h=>h) (Or.inl ⟨by rfl,?_⟩) ?_ ?_
 rotate_left
 ·intro w'
  go_simp
  with_reducible rfl
 rotate_left
 ·simp only [Act.put,List.setIfInBounds_toArray,List.set_cons_zero,List.set_cons_succ,i64_w,i32_w]
  rfl
 refine one_ (i:=12) (N:=none) #[true,true,true,true,true,true,true,true,true,true,true,true,true] rfl rfl (one_of HT_.out (by kernel_rfl)) (by decide) (fun K hK=>?_)
 have hs14:w10.cell? ⟨gb203,0,none⟩=some (.slice none 0 0):=(bkC BK203.out 0).trans rfl
 have hfs14:=bkF BK203.out 0
 have hns14_0:=NB202_203.out
 have hms14_0:=NB203_202.out
 have hs15:w10.cell? ⟨gb203,1,none⟩=some (.slice none 0 0):=(bkC BK203.out 1).trans rfl
 have hfs15:=bkF BK203.out 1
 have hns15_0:=NB202_203.out
 have hms15_0:=NB203_202.out
 have hs16:w10.cell? ⟨gb203,2,none⟩=some (.slice none 0 0):=(bkC BK203.out 2).trans rfl
 have hfs16:=bkF BK203.out 2
 have hns16_0:=NB202_203.out
 have hms16_0:=NB203_202.out
 have hs17:w10.cell? ⟨gb203,3,none⟩=some (.int .i64 0):=(bkC BK203.out 3).trans rfl
 have hfs17:=bkF BK203.out 3
 have hns17_0:=NB202_203.out
 have hms17_0:=NB203_202.out
 refine skip_ (w1:=?_) (by rfl) rfl ?_ ?_
 rotate_left
 ·go_simp
  rfl
 refine hK.out _ _ ⟨((cell_far (p:=⟨gb203,_,none⟩) NB202_203.out _).trans (((cell_far (p:=⟨gb203,_,none⟩) NB202_203.out _).trans (((cell_far (p:=⟨gb203,_,none⟩) NB202_203.out _).trans (((cell_far (p:=⟨gb203,_,none⟩) NB202_203.out _).trans (hHeld.1)))))))),((cell_far (p:=⟨gb203,_,none⟩) NB202_203.out _).trans (((cell_far (p:=⟨gb203,_,none⟩) NB202_203.out _).trans (((cell_far (p:=⟨gb203,_,none⟩) NB202_203.out _).trans (((cell_far (p:=⟨gb203,_,none⟩) NB202_203.out _).trans (hHeld.2.1)))))))),((cell_far (p:=⟨gb203,_,none⟩) NB202_203.out _).trans (((cell_far (p:=⟨gb203,_,none⟩) NB202_203.out _).trans (((cell_far (p:=⟨gb203,_,none⟩) NB202_203.out _).trans (((cell_far (p:=⟨gb203,_,none⟩) NB202_203.out _).trans (hHeld.2.2.1)))))))),((cell_far (p:=⟨gb203,_,none⟩) NB202_203.out _).trans (((cell_far (p:=⟨gb203,_,none⟩) NB202_203.out _).trans (((cell_far (p:=⟨gb203,_,none⟩) NB202_203.out _).trans (((cell_far (p:=⟨gb203,_,none⟩) NB202_203.out _).trans (hHeld.2.2.2))))))))⟩ (fun hHeld=>?_)
 clear hK K
 refine done_ (done_of HT_.out (by kernel_rfl)) ?_
 try go_wp2
 refine bodyPost_ret (results_cell_row rfl _ _ gb203 26 #[.slice Ao13 t204.length co13,.slice Ao12 t207.length co12,.slice Ao11 t210.length co11,.int .i64 a0_3] (0,0) _ rfl (by (with_reducible repeat (first|refine bkN ?_ _|refine bkD ?_|refine bkA ?_ _));refine bkP (cs:=#[.slice Ao13 t204.length co13,.slice Ao12 t207.length co12,.slice Ao11 t210.length co11,.int .i64 0]) ?_ 3 _ rfl;(with_reducible repeat (first|refine bkN ?_ _|refine bkD ?_|refine bkA ?_ _));refine bkP (cs:=#[.slice Ao13 t204.length co13,.slice Ao12 t207.length co12,.slice none 0 0,.int .i64 0]) ?_ 2 _ rfl;(with_reducible repeat (first|refine bkN ?_ _|refine bkD ?_|refine bkA ?_ _));refine bkP (cs:=#[.slice Ao13 t204.length co13,.slice none 0 0,.slice none 0 0,.int .i64 0]) ?_ 1 _ rfl;(with_reducible repeat (first|refine bkN ?_ _|refine bkD ?_|refine bkA ?_ _));refine bkP (cs:=#[.slice none 0 0,.slice none 0 0,.slice none 0 0,.int .i64 0]) ?_ 0 _ rfl;(with_reducible repeat (first|refine bkN ?_ _|refine bkD ?_|refine bkA ?_ _));exact BK203.out) Try.underlying26 rfl (by kernel_rfl)) rfl ?_
 exact ⟨_,_,_,by first|rfl|(simp [errW_none,errW_some] <;> rfl)|(simp [*,errW_none,errW_some] <;> rfl),by (with_reducible repeat (first|apply Kd.R_alloc|apply Kd.RdN|apply Kd.RdW));exact Kd.R_mono (Kd.R_far (p:=⟨gb203,3,none⟩) (Kd.R_far (p:=⟨gb203,2,none⟩) (Kd.R_far (p:=⟨gb203,1,none⟩) (Kd.R_far (p:=⟨gb203,0,none⟩) (Kd.R_types HO206.out BK203.out (by decide)) (fun _ hk=>hk.2) (.slice Ao13 t204.length co13)) (fun _ hk=>hk.2) (.slice Ao12 t207.length co12)) (fun _ hk=>hk.2) (.slice Ao11 t210.length co11)) (fun _ hk=>hk.2) (.int .i64 a0_3)) (fun _ hk=>trivial),by (with_reducible repeat (first|apply Kd.R_alloc|apply Kd.RdN|apply Kd.RdW));exact Kd.R_mono (Kd.R_far (p:=⟨gb203,3,none⟩) (Kd.R_far (p:=⟨gb203,2,none⟩) (Kd.R_far (p:=⟨gb203,1,none⟩) (Kd.R_far (p:=⟨gb203,0,none⟩) (Kd.R_types HO209.out BK203.out (by decide)) (fun _ hk=>hk.2) (.slice Ao13 t204.length co13)) (fun _ hk=>hk.2) (.slice Ao12 t207.length co12)) (fun _ hk=>hk.2) (.slice Ao11 t210.length co11)) (fun _ hk=>hk.2) (.int .i64 a0_3)) (fun _ hk=>trivial),by (with_reducible repeat (first|apply Kd.R_alloc|apply Kd.RdN|apply Kd.RdW));exact Kd.R_mono (Kd.R_far (p:=⟨gb203,3,none⟩) (Kd.R_far (p:=⟨gb203,2,none⟩) (Kd.R_far (p:=⟨gb203,1,none⟩) (Kd.R_far (p:=⟨gb203,0,none⟩) (Kd.R_types HO212.out BK203.out (by decide)) (fun _ hk=>hk.2) (.slice Ao13 t204.length co13)) (fun _ hk=>hk.2) (.slice Ao12 t207.length co12)) (fun _ hk=>hk.2) (.slice Ao11 t210.length co11)) (fun _ hk=>hk.2) (.int .i64 a0_3)) (fun _ hk=>trivial),by repeat (first|(with_reducible first|exact HB.out|apply bdA|apply bdN|apply bd1|refine bdS ?_ GE202.out|refine bdS ?_ GE203.out)|exact HB.out)⟩
end Go.Proofs.Ytbeikcckcjadbaa.PI
end
section
namespace Go.Proofs.Ytbeikcckcjadbaa.PI
open Go.RowKit Go.Proofs.YtbeikcckcjadbaaW.PrintWords Go.Proofs.YtbeikcckcjadbaaW.PrintLast Go.Proofs.YtbeikcckcjadbaaW.PrintMore
attribute [local go_sem] isSome_setCell max2_int min2_int max_two min_two max_three min_three max_four min_four
mutual
def sl17t.l0:Nat→Int→List (S54)→List (S68)→List (S56)→Int→Option ((List (S54)) × (List (S68)) × (List (S56)) × Int)
 | 0,_,_,_,_,_=>none
 | k+1,x4,x226000,x226001,x226002,x226003=>if x4<(x226000.length:Int) then (if 0≤x4 then (sl17t.l0 k (wrap64 (x4+1)) (x226000.set (x4:Int).toNat (⟨(rd_T54 x226000 x4).f0,(rd_T54 x226000 x4).f1,(rd_T54 x226000 x4).f2,(rd_T54 x226000 x4).f3,Go.bits .xor .i64 ((rd_T54 x226000 x4).f4) 1⟩:S54)) x226001 x226002 x226003) else (none)) else (sl17t.l1 k 0 x226000 x226001 x226002 x226003)
def sl17t.l1:Nat→Int→List (S54)→List (S68)→List (S56)→Int→Option ((List (S54)) × (List (S68)) × (List (S56)) × Int)
 | 0,_,_,_,_,_=>none
 | k+1,x5,x226000,x226001,x226002,x226003=>if x5<(x226002.length:Int) then (if 0≤x5 then (sl17t.l1 k (wrap64 (x5+1)) x226000 x226001 (x226002.set (x5:Int).toNat (⟨(rd_T56 x226002 x5).f0,(rd_T56 x226002 x5).f1,(rd_T56 x226002 x5).f2,(rd_T56 x226002 x5).f3,Go.bits .xor .i64 ((rd_T56 x226002 x5).f4) 1⟩:S56)) x226003) else (none)) else (some (x226000,x226001,x226002,x226003))
end
def sl17t.f (k:Nat) (l0_0:List (S54)) (l0_1:List (S68)) (l0_2:List (S56)) (a0_3:Int):Option ((List (S54)) × (List (S68)) × (List (S56)) × Int):=(spindlelaw0_CopyImage.f l0_0 l0_1 l0_2 a0_3).bind fun bt215=>(sl17t.l0 k 0 bt215.1 bt215.2.1 bt215.2.2.1 bt215.2.2.2)
def sl17t.T5:Bool × List (List Nat × List Nat):=(true,[([],[]),([0],[0]),([],[]),([],[]),([3],[3]),([],[]),([4,5],[4,5]),([6],[6]),([7],[7]),([8],[8]),([1,2,0,1,2,3,4,5,6,7,8,9],[1,2]),([10,0,1,2,3,4,5,6,7,8,9],[10]),([11,9,0,1,2,3,4,5,6,7,8,9],[9,11])])
def sl17t.B5:List Nat:=[0,1,0,0,8,0,56,120,248,504,1023,2047,4095]
theorem sl17t.tab5:rtab .any (opsOf Try.f9 5)=sl17t.T5:=by kernel_rfl
theorem sl17t.bits5:waitsOk sl17t.T5.2 sl17t.B5=true:=by kernel_rfl
def sl17t.T9:Bool × List (List Nat × List Nat):=(true,[([],[]),([0],[0]),([],[]),([],[]),([3],[3]),([],[]),([4,5],[4,5]),([6],[6]),([7],[7]),([8],[8]),([1,2,0,1,2,3,4,5,6,7,8,9],[1,2]),([10,0,1,2,3,4,5,6,7,8,9],[10]),([11,9,0,1,2,3,4,5,6,7,8,9],[9,11])])
def sl17t.B9:List Nat:=[0,1,0,0,8,0,56,120,248,504,1023,2047,4095]
theorem sl17t.tab9:rtab .any (opsOf Try.f9 9)=sl17t.T9:=by kernel_rfl
theorem sl17t.bits9:waitsOk sl17t.T9.2 sl17t.B9=true:=by kernel_rfl
theorem sl17t.calls (k:Nat) (A0_0:Option Addr) (c0_0:Nat) (l0_0:List (S54)) (A0_1:Option Addr) (c0_1:Nat) (l0_1:List (S68)) (A0_2:Option Addr) (c0_2:Nat) (l0_2:List (S56)) (a0_3:Int) (r1:List (S54)) (r2:List (S68)) (r3:List (S56)) (r4:Int) (w:World) (hr0_0:Kd.C k54 w A0_0 l0_0.length l0_0) (hc0_0:l0_0.length≤c0_0) (hr0_1:Kd.C k68 w A0_1 l0_1.length l0_1) (hc0_1:l0_1.length≤c0_1) (hr0_2:Kd.C k56 w A0_2 l0_2.length l0_2) (hc0_2:l0_2.length≤c0_2) (h:sl17t.f k l0_0 l0_1 l0_2 a0_3=some (r1,r2,r3,r4)) :
  Calls Try.prog 9 #[.agg #[.slice A0_0 l0_0.length c0_0,.slice A0_1 l0_1.length c0_1,.slice A0_2 l0_2.length c0_2,.int .i64 a0_3]] w fun e w'=>∃ v0_ v1_ v2_:Value,e=.returned (.agg #[v0_,v1_,v2_,.int .i64 r4])∧Kd.R k54 54 w' w.heap.size (fun _=>True) v0_ r1∧Kd.R k68 68 w' w.heap.size (fun _=>True) v1_ r2∧Kd.R k56 56 w' w.heap.size (fun _=>True) v2_ r3∧Below w.heap.size w w':=by
 have hu26:=Try.underlying26
 have HR0_0:=As0.mk hr0_0
 have HC0_0:=As0.mk hc0_0
 clear hr0_0 hc0_0
 have HR0_1:=As0.mk hr0_1
 have HC0_1:=As0.mk hc0_1
 clear hr0_1 hc0_1
 have HR0_2:=As0.mk hr0_2
 have HC0_2:=As0.mk hc0_2
 clear hr0_2 hc0_2
 have HB:=As0.mk (Below.refl w.heap.size w)
 have H:((spindlelaw0_CopyImage.f l0_0 l0_1 l0_2 a0_3).bind fun bt215=>(sl17t.l0 k 0 bt215.1 bt215.2.1 bt215.2.2.1 bt215.2.2.2))=some (r1,r2,r3,r4):=h
 clear h
 replace H:=Option.bind_eq_some_iff.mp H
 obtain ⟨⟨t215,t218,t221,t224⟩,A20,H⟩:=H
 replace H:(sl17t.l0 k 0 t215 t218 t221 t224)=some (r1,r2,r3,r4):=H
 have A2:=As0.mk A20
 clear A20
 have H':=As0.mk H
 clear H
 go_enter Try.func9,Try.ntmps9
 go_wp2_with (first|((with_reducible refine gtD (N:=1) rfl ?_);refine bxE ?hg (N:=1) ?hd (cs:=#[.slice A0_0 l0_0.length c0_0,.slice A0_1 l0_1.length c0_1,.slice A0_2 l0_2.length c0_2,.int .i64 a0_3]) (t:=26) ?hr ?_;(case hd=>rfl);(case hg=>rfl);(case hr=>first|(go_simp;done)|(go_simp;rfl));intro gb213 hg w3 hbox hb;have n0_:=As0.mk (bdT (by repeat (first|(with_reducible first|exact HB.out|apply bdA|apply bdN|apply bd1)|exact HB.out)) hb);have n1_:=As0.mk (hbox);have n2_:=As0.mk ((by rw [hg];exact (bdZ (by repeat (first|(with_reducible first|exact HB.out|apply bdA|apply bdN|apply bd1)|exact HB.out))):w.heap.size≤gb213));have n3_:=As0.mk ((by rw [hg];exact (bdZ (by repeat (first|(with_reducible first|exact HB.out|apply bdA|apply bdN|apply bd1)|exact HB.out))):w.heap.size≤gb213));clear HB;have HB:=n0_;have BK213:=n1_;have GW213:=n2_;have GE213:=n3_;clear n0_ n1_ n2_ n3_;clear hb hbox hg)|((with_reducible refine gtD (N:=2) rfl ?_);refine bxE ?hg (N:=2) ?hd (cs:=#[.slice none 0 0,.slice none 0 0,.slice none 0 0,.int .i64 0]) (t:=26) ?hr ?_;(case hd=>rfl);(case hg=>rfl);(case hr=>first|(go_simp;done)|(go_simp;rfl));intro gb214 hg w4 hbox hb;have n0_:=As0.mk (bkB (g:=gb213) (o:=.cells #[.slice A0_0 l0_0.length c0_0,.slice A0_1 l0_1.length c0_1,.slice A0_2 l0_2.length c0_2,.int .i64 a0_3] 26 (0,0)) (by (with_reducible repeat (first|refine bkN ?_ _|refine bkD ?_|refine bkA ?_ _));exact BK213.out) hb);have n1_:=As0.mk (bdT (by repeat (first|(with_reducible first|exact HB.out|apply bdA|apply bdN|apply bd1|refine bdS ?_ GE213.out)|exact HB.out)) hb);have n2_:=As0.mk (hbox);have n3_:=As0.mk ((by rw [hg];exact (bdZ (by repeat (first|(with_reducible first|exact HB.out|apply bdA|apply bdN|apply bd1|refine bdS ?_ GE213.out)|exact HB.out))):w.heap.size≤gb214));have n4_:=As0.mk ((by rw [hg];exact (bdZ (by repeat (first|(with_reducible first|exact HB.out|apply bdA|apply bdN|apply bd1|refine bdS ?_ GE213.out)|exact HB.out))):w.heap.size≤gb214));have n5_:=As0.mk ((by rw [hg];exact Nat.ne_of_lt (blk_lt (g:=gb213) (o:=.cells #[.slice A0_0 l0_0.length c0_0,.slice A0_1 l0_1.length c0_1,.slice A0_2 l0_2.length c0_2,.int .i64 a0_3] 26 (0,0)) (by (with_reducible repeat (first|refine bkN ?_ _|refine bkD ?_|refine bkA ?_ _));exact BK213.out)):gb213≠gb214));have n6_:=As0.mk ((by rw [hg];exact Nat.ne_of_gt (blk_lt (g:=gb213) (o:=.cells #[.slice A0_0 l0_0.length c0_0,.slice A0_1 l0_1.length c0_1,.slice A0_2 l0_2.length c0_2,.int .i64 a0_3] 26 (0,0)) (by (with_reducible repeat (first|refine bkN ?_ _|refine bkD ?_|refine bkA ?_ _));exact BK213.out)):gb214≠gb213));clear BK213;clear HB;have BK213:=n0_;have HB:=n1_;have BK214:=n2_;have GW214:=n3_;have GE214:=n4_;have NB213_214:=n5_;have NB214_213:=n6_;clear n0_ n1_ n2_ n3_ n4_ n5_ n6_;clear hb hbox hg;have hnb5:=NB213_214.out;have hnc5:=NB214_213.out;have hcz6_0:w4.cell? ⟨gb213,0,none⟩=some (.slice A0_0 l0_0.length c0_0):=(bkC BK213.out 0).trans rfl;have hcz6_1:w4.cell? ⟨gb213,1,none⟩=some (.slice A0_1 l0_1.length c0_1):=(bkC BK213.out 1).trans rfl;have hcz6_2:w4.cell? ⟨gb213,2,none⟩=some (.slice A0_2 l0_2.length c0_2):=(bkC BK213.out 2).trans rfl;have hcz6_3:w4.cell? ⟨gb213,3,none⟩=some (.int .i64 a0_3):=(bkC BK213.out 3).trans rfl;have hfz6_0:=bkF BK213.out 0;have hfz6_1:=bkF BK213.out 1;have hfz6_2:=bkF BK213.out 2;have hfz6_3:=bkF BK213.out 3)|((with_reducible refine gate_callee (f:=23) rfl ?_);refine goesL_ (some 7) rfl rfl Try.func23 (by kernel_rfl) rfl #[.agg #[.slice A0_0 l0_0.length c0_0,.slice A0_1 l0_1.length c0_1,.slice A0_2 l0_2.length c0_2,.int .i64 a0_3]] rfl (by (try simp only [List.map_toArray,List.map_cons,List.map_nil]);first|done|rfl|(simp only [List.length_drop,List.length_take];rfl)) ?_;(with_reducible refine (spindlelaw0_CopyImage.calls _ _ l0_0 _ _ l0_1 _ _ l0_2 a0_3 t215 t218 t221 t224 _ ?side1 ?side2 ?side3 ?side4 ?side5 ?side6 A2.out).mono ?_);(case side1=>repeat (first|exact (Kd.CbW HR0_0.out HB.out)|(with_reducible refine Kd.C_alloc ?_ _)|(with_reducible refine Kd.C_drewN ?_ _)|(with_reducible refine Kd.C_drew ?_)));(case side2=>exact HC0_0.out);(case side3=>repeat (first|exact (Kd.CbW HR0_1.out HB.out)|(with_reducible refine Kd.C_alloc ?_ _)|(with_reducible refine Kd.C_drewN ?_ _)|(with_reducible refine Kd.C_drew ?_)));(case side4=>exact HC0_1.out);(case side5=>repeat (first|exact (Kd.CbW HR0_2.out HB.out)|(with_reducible refine Kd.C_alloc ?_ _)|(with_reducible refine Kd.C_drewN ?_ _)|(with_reducible refine Kd.C_drew ?_)));(case side6=>exact HC0_2.out);rintro e w7 ⟨v216,v219,v222,rfl,ho0,ho1,ho2,hb⟩;refine ⟨_,rfl,?_⟩;have n0_:=As0.mk (Kd.R_lower ho0 (bdZ (by repeat (first|(with_reducible first|exact HB.out|apply bdA|apply bdN|apply bd1|refine bdS ?_ GE213.out|refine bdS ?_ GE214.out)|exact HB.out))));have n1_:=As0.mk (Kd.R_lower ho1 (bdZ (by repeat (first|(with_reducible first|exact HB.out|apply bdA|apply bdN|apply bd1|refine bdS ?_ GE213.out|refine bdS ?_ GE214.out)|exact HB.out))));have n2_:=As0.mk (Kd.R_lower ho2 (bdZ (by repeat (first|(with_reducible first|exact HB.out|apply bdA|apply bdN|apply bd1|refine bdS ?_ GE213.out|refine bdS ?_ GE214.out)|exact HB.out))));have n3_:=As0.mk (bkB (g:=gb213) (o:=.cells #[.slice A0_0 l0_0.length c0_0,.slice A0_1 l0_1.length c0_1,.slice A0_2 l0_2.length c0_2,.int .i64 a0_3] 26 (0,0)) (by (with_reducible repeat (first|refine bkN ?_ _|refine bkD ?_|refine bkA ?_ _));exact BK213.out) hb);have n4_:=As0.mk (bkB (g:=gb214) (o:=.cells #[.slice none 0 0,.slice none 0 0,.slice none 0 0,.int .i64 0] 26 (0,0)) (by (with_reducible repeat (first|refine bkN ?_ _|refine bkD ?_|refine bkA ?_ _));exact BK214.out) hb);have n5_:=As0.mk (bdT (by repeat (first|(with_reducible first|exact HB.out|apply bdA|apply bdN|apply bd1|refine bdS ?_ GE213.out|refine bdS ?_ GE214.out)|exact HB.out)) hb);clear BK213;clear BK214;clear HB;have HO217:=n0_;have HO220:=n1_;have HO223:=n2_;have BK213:=n3_;have BK214:=n4_;have HB:=n5_;clear n0_ n1_ n2_ n3_ n4_ n5_;(try clear hb);(try clear hb2);(try clear hk);(try clear hi);(try clear ho0);(try clear ho1);(try clear ho2))|((with_reducible refine gtD (N:=3) rfl ?_);refine bxE ?hg (N:=3) ?hd (cs:=#[.slice none 0 0,.slice none 0 0,.slice none 0 0,.int .i64 0]) (t:=26) ?hr ?_;(case hd=>rfl);(case hg=>rfl);(case hr=>first|(go_simp;done)|(go_simp;rfl));intro gb225 hg w8 hbox hb;have n0_:=As0.mk (Kd.RbW (by (with_reducible repeat (first|apply Kd.R_alloc|apply Kd.RdN|apply Kd.RdW));exact HO217.out) hb);have n1_:=As0.mk (Kd.RbW (by (with_reducible repeat (first|apply Kd.R_alloc|apply Kd.RdN|apply Kd.RdW));exact HO220.out) hb);have n2_:=As0.mk (Kd.RbW (by (with_reducible repeat (first|apply Kd.R_alloc|apply Kd.RdN|apply Kd.RdW));exact HO223.out) hb);have n3_:=As0.mk (bkB (g:=gb213) (o:=.cells #[.slice A0_0 l0_0.length c0_0,.slice A0_1 l0_1.length c0_1,.slice A0_2 l0_2.length c0_2,.int .i64 a0_3] 26 (0,0)) (by (with_reducible repeat (first|refine bkN ?_ _|refine bkD ?_|refine bkA ?_ _));exact BK213.out) hb);have n4_:=As0.mk (bkB (g:=gb214) (o:=.cells #[.slice none 0 0,.slice none 0 0,.slice none 0 0,.int .i64 0] 26 (0,0)) (by (with_reducible repeat (first|refine bkN ?_ _|refine bkD ?_|refine bkA ?_ _));exact BK214.out) hb);have n5_:=As0.mk (bdT (by repeat (first|(with_reducible first|exact HB.out|apply bdA|apply bdN|apply bd1|refine bdS ?_ GE213.out|refine bdS ?_ GE214.out)|exact HB.out)) hb);have n6_:=As0.mk (hbox);have n7_:=As0.mk ((by rw [hg];exact (bdZ (by repeat (first|(with_reducible first|exact HB.out|apply bdA|apply bdN|apply bd1|refine bdS ?_ GE213.out|refine bdS ?_ GE214.out)|exact HB.out))):w.heap.size≤gb225));have n8_:=As0.mk ((by rw [hg];exact (bdZ (by repeat (first|(with_reducible first|exact HB.out|apply bdA|apply bdN|apply bd1|refine bdS ?_ GE213.out|refine bdS ?_ GE214.out)|exact HB.out))):w.heap.size≤gb225));have n9_:=As0.mk ((by rw [hg];exact Nat.ne_of_lt (blk_lt (g:=gb213) (o:=.cells #[.slice A0_0 l0_0.length c0_0,.slice A0_1 l0_1.length c0_1,.slice A0_2 l0_2.length c0_2,.int .i64 a0_3] 26 (0,0)) (by (with_reducible repeat (first|refine bkN ?_ _|refine bkD ?_|refine bkA ?_ _));exact BK213.out)):gb213≠gb225));have n10_:=As0.mk ((by rw [hg];exact Nat.ne_of_gt (blk_lt (g:=gb213) (o:=.cells #[.slice A0_0 l0_0.length c0_0,.slice A0_1 l0_1.length c0_1,.slice A0_2 l0_2.length c0_2,.int .i64 a0_3] 26 (0,0)) (by (with_reducible repeat (first|refine bkN ?_ _|refine bkD ?_|refine bkA ?_ _));exact BK213.out)):gb225≠gb213));have n11_:=As0.mk ((by rw [hg];exact Nat.ne_of_lt (blk_lt (g:=gb214) (o:=.cells #[.slice none 0 0,.slice none 0 0,.slice none 0 0,.int .i64 0] 26 (0,0)) (by (with_reducible repeat (first|refine bkN ?_ _|refine bkD ?_|refine bkA ?_ _));exact BK214.out)):gb214≠gb225));have n12_:=As0.mk ((by rw [hg];exact Nat.ne_of_gt (blk_lt (g:=gb214) (o:=.cells #[.slice none 0 0,.slice none 0 0,.slice none 0 0,.int .i64 0] 26 (0,0)) (by (with_reducible repeat (first|refine bkN ?_ _|refine bkD ?_|refine bkA ?_ _));exact BK214.out)):gb225≠gb214));clear HO217;clear HO220;clear HO223;clear BK213;clear BK214;clear HB;have HO217:=n0_;have HO220:=n1_;have HO223:=n2_;have BK213:=n3_;have BK214:=n4_;have HB:=n5_;have BK225:=n6_;have GW225:=n7_;have GE225:=n8_;have NB213_225:=n9_;have NB225_213:=n10_;have NB214_225:=n11_;have NB225_214:=n12_;clear n0_ n1_ n2_ n3_ n4_ n5_ n6_ n7_ n8_ n9_ n10_ n11_ n12_;clear hb hbox hg;obtain ⟨Ao9,co9,eo9⟩:=Kd.R_slice HO217.out;subst eo9;have hnb10:=NB225_213.out;have hnc10:=NB213_225.out;have hnb11:=NB225_214.out;have hnc11:=NB214_225.out;have hcz12_0:w8.cell? ⟨gb225,0,none⟩=some (.slice none 0 0):=(bkC BK225.out 0).trans rfl;have hcz12_1:w8.cell? ⟨gb225,1,none⟩=some (.slice none 0 0):=(bkC BK225.out 1).trans rfl;have hcz12_2:w8.cell? ⟨gb225,2,none⟩=some (.slice none 0 0):=(bkC BK225.out 2).trans rfl;have hcz12_3:w8.cell? ⟨gb225,3,none⟩=some (.int .i64 0):=(bkC BK225.out 3).trans rfl;have hfz12_0:=bkF BK225.out 0;have hfz12_1:=bkF BK225.out 1;have hfz12_2:=bkF BK225.out 2;have hfz12_3:=bkF BK225.out 3;obtain ⟨Ao13,co13,eo13⟩:=Kd.R_slice HO220.out;subst eo13;obtain ⟨Ao14,co14,eo14⟩:=Kd.R_slice HO223.out;subst eo14))
 go_loopg [4] k (fun kq v4 w'=>∃ (x4_1:Int) (x226000_1:List (S54)) (u226000:Value),v4=.int .i64 x4_1∧As0 (sl17t.l0 kq x4_1 x226000_1 t218 t221 t224=some (r1,r2,r3,r4))∧As0 (kq≤k)∧As0 (Kd.R k54 54 w' w.heap.size (fun _=>True) u226000 x226000_1)∧As0 (Kd.R k68 68 w' w.heap.size (fun _=>True) (.slice Ao13 t218.length co13) t218)∧As0 (Kd.R k56 56 w' w.heap.size (fun _=>True) (.slice Ao14 t221.length co14) t221)∧As0 (w'.heap[gb213]?=some (.cells #[(.slice A0_0 l0_0.length c0_0),(.slice A0_1 l0_1.length c0_1),(.slice A0_2 l0_2.length c0_2),.int .i64 a0_3] 26 (0,0)))∧As0 (w'.heap[gb214]?=some (.cells #[(.slice none 0 0),(.slice none 0 0),(.slice none 0 0),.int .i64 0] 26 (0,0)))∧As0 (w'.heap[gb225]?=some (.cells #[u226000,(.slice Ao13 t218.length co13),(.slice Ao14 t221.length co14),.int .i64 t224] 26 (0,0)))∧As0 (Below w.heap.size w w'))
 case atStart=>exact ⟨(0),(t215),(.slice Ao9 t215.length co9),(by first|rfl|(simp;done)|(simp [*];done)),H',⟨Nat.le_refl _⟩,⟨by (with_reducible repeat (first|apply Kd.R_alloc|apply Kd.RdN|apply Kd.RdW));exact Kd.R_mono (Kd.R_far (p:=⟨gb225,3,none⟩) (Kd.R_far (p:=⟨gb225,2,none⟩) (Kd.R_far (p:=⟨gb225,1,none⟩) (Kd.R_far (p:=⟨gb225,0,none⟩) (Kd.R_types HO217.out BK225.out (by decide)) (fun _ hk=>hk.2) (.slice Ao9 t215.length co9)) (fun _ hk=>hk.2) (.slice Ao13 t218.length co13)) (fun _ hk=>hk.2) (.slice Ao14 t221.length co14)) (fun _ hk=>hk.2) (.int .i64 t224)) (fun _ hk=>trivial)⟩,⟨by (with_reducible repeat (first|apply Kd.R_alloc|apply Kd.RdN|apply Kd.RdW));exact Kd.R_mono (Kd.R_far (p:=⟨gb225,3,none⟩) (Kd.R_far (p:=⟨gb225,2,none⟩) (Kd.R_far (p:=⟨gb225,1,none⟩) (Kd.R_far (p:=⟨gb225,0,none⟩) (Kd.R_types HO220.out BK225.out (by decide)) (fun _ hk=>hk.2) (.slice Ao9 t215.length co9)) (fun _ hk=>hk.2) (.slice Ao13 t218.length co13)) (fun _ hk=>hk.2) (.slice Ao14 t221.length co14)) (fun _ hk=>hk.2) (.int .i64 t224)) (fun _ hk=>trivial)⟩,⟨by (with_reducible repeat (first|apply Kd.R_alloc|apply Kd.RdN|apply Kd.RdW));exact Kd.R_mono (Kd.R_far (p:=⟨gb225,3,none⟩) (Kd.R_far (p:=⟨gb225,2,none⟩) (Kd.R_far (p:=⟨gb225,1,none⟩) (Kd.R_far (p:=⟨gb225,0,none⟩) (Kd.R_types HO223.out BK225.out (by decide)) (fun _ hk=>hk.2) (.slice Ao9 t215.length co9)) (fun _ hk=>hk.2) (.slice Ao13 t218.length co13)) (fun _ hk=>hk.2) (.slice Ao14 t221.length co14)) (fun _ hk=>hk.2) (.int .i64 t224)) (fun _ hk=>trivial)⟩,⟨by (with_reducible repeat (first|refine bkN ?_ _|refine bkD ?_|refine bkA ?_ _));refine bkR ?_ NB213_225.out _;(with_reducible repeat (first|refine bkN ?_ _|refine bkD ?_|refine bkA ?_ _));refine bkR ?_ NB213_225.out _;(with_reducible repeat (first|refine bkN ?_ _|refine bkD ?_|refine bkA ?_ _));refine bkR ?_ NB213_225.out _;(with_reducible repeat (first|refine bkN ?_ _|refine bkD ?_|refine bkA ?_ _));refine bkR ?_ NB213_225.out _;(with_reducible repeat (first|refine bkN ?_ _|refine bkD ?_|refine bkA ?_ _));exact BK213.out⟩,⟨by (with_reducible repeat (first|refine bkN ?_ _|refine bkD ?_|refine bkA ?_ _));refine bkR ?_ NB214_225.out _;(with_reducible repeat (first|refine bkN ?_ _|refine bkD ?_|refine bkA ?_ _));refine bkR ?_ NB214_225.out _;(with_reducible repeat (first|refine bkN ?_ _|refine bkD ?_|refine bkA ?_ _));refine bkR ?_ NB214_225.out _;(with_reducible repeat (first|refine bkN ?_ _|refine bkD ?_|refine bkA ?_ _));refine bkR ?_ NB214_225.out _;(with_reducible repeat (first|refine bkN ?_ _|refine bkD ?_|refine bkA ?_ _));exact BK214.out⟩,⟨by (with_reducible repeat (first|refine bkN ?_ _|refine bkD ?_|refine bkA ?_ _));refine bkP (cs:=#[.slice Ao9 t215.length co9,.slice Ao13 t218.length co13,.slice Ao14 t221.length co14,.int .i64 0]) ?_ 3 _ rfl;(with_reducible repeat (first|refine bkN ?_ _|refine bkD ?_|refine bkA ?_ _));refine bkP (cs:=#[.slice Ao9 t215.length co9,.slice Ao13 t218.length co13,.slice none 0 0,.int .i64 0]) ?_ 2 _ rfl;(with_reducible repeat (first|refine bkN ?_ _|refine bkD ?_|refine bkA ?_ _));refine bkP (cs:=#[.slice Ao9 t215.length co9,.slice none 0 0,.slice none 0 0,.int .i64 0]) ?_ 1 _ rfl;(with_reducible repeat (first|refine bkN ?_ _|refine bkD ?_|refine bkA ?_ _));refine bkP (cs:=#[.slice none 0 0,.slice none 0 0,.slice none 0 0,.int .i64 0]) ?_ 0 _ rfl;(with_reducible repeat (first|refine bkN ?_ _|refine bkD ?_|refine bkA ?_ _));exact BK225.out⟩,⟨by repeat (first|(with_reducible first|exact HB.out|apply bdA|apply bdN|apply bd1|refine bdS ?_ GE213.out|refine bdS ?_ GE214.out|refine bdS ?_ GE225.out)|exact HB.out)⟩⟩
 case round =>
  clear H'
  try clear c1
  try clear c2
  try clear p2
  try clear c5
  try clear c9
  try clear c10
  try clear c11
  try clear hcz12_0
  try clear hcz12_1
  try clear hcz12_2
  try clear hcz12_3
  try clear hcz6_0
  try clear hcz6_1
  try clear hcz6_2
  try clear hcz6_3
  try clear hfz12_0
  try clear hfz12_1
  try clear hfz12_2
  try clear hfz12_3
  try clear hfz6_0
  try clear hfz6_1
  try clear hfz6_2
  try clear hfz6_3
  obtain ⟨x4_1,x226000_1,u226000,rfl,HA,HK1,HO_226000,HO_226001,HO_226002,BK213,BK214,BK225,HB⟩:=hrel
  cases gk with
  | zero=>exact absurd HA.out (by simp [sl17t.l0])
  | succ k1 =>
   have H:=HA.out
   clear HA
   simp only [sl17t.l0] at H
   by_cases c15:x4_1<(x226000_1.length:Int)
   ·rw [if_pos c15] at H
    have c15b0:decide (x4_1<(x226000_1.length:Int))=true:=decide_eq_true c15
    clear c15
    by_cases c16:0≤x4_1
    ·rw [if_pos c16] at H
     have c16b0:decide (0≤x4_1)=true:=decide_eq_true c16
     clear c16
     obtain ⟨y227,hy227⟩:∃ y_:List (S54),y_=(x226000_1.set (x4_1:Int).toNat (⟨(rd_T54 x226000_1 x4_1).f0,(rd_T54 x226000_1 x4_1).f1,(rd_T54 x226000_1 x4_1).f2,(rd_T54 x226000_1 x4_1).f3,Go.bits .xor .i64 ((rd_T54 x226000_1 x4_1).f4) 1⟩:S54)):=⟨_,rfl⟩
     replace H:(sl17t.l0 k1 (wrap64 (x4_1+1)) y227 t218 t221 t224)=some (r1,r2,r3,r4):=by first|(rw [hy227];with_reducible exact H)|(have H2_:=(Option.bind_some _ _).symm.trans H;rw [hy227];with_reducible exact H2_)|(have H2_:=(Option.bind_some _ _).symm.trans H;with_reducible exact H2_)|with_reducible exact H|(rw [hy227];exact H)|exact H
     have Ny227:=As0.mk hy227
     clear hy227
     have H':=As0.mk H
     clear H
     have hnb18:=NB225_213.out
     have hnc18:=NB213_225.out
     have hnb19:=NB225_214.out
     have hnc19:=NB214_225.out
     have hcz20_0:wr.cell? ⟨gb225,0,none⟩=some (u226000):=(bkC BK225.out 0).trans rfl
     have hcz20_1:wr.cell? ⟨gb225,1,none⟩=some (.slice Ao13 t218.length co13):=(bkC BK225.out 1).trans rfl
     have hcz20_2:wr.cell? ⟨gb225,2,none⟩=some (.slice Ao14 t221.length co14):=(bkC BK225.out 2).trans rfl
     have hcz20_3:wr.cell? ⟨gb225,3,none⟩=some (.int .i64 t224):=(bkC BK225.out 3).trans rfl
     have hfz20_0:=bkF BK225.out 0
     have hfz20_1:=bkF BK225.out 1
     have hfz20_2:=bkF BK225.out 2
     have hfz20_3:=bkF BK225.out 3
     obtain ⟨Ao21,co21,eo21⟩:=Kd.R_slice HO_226000.out
     subst eo21
     try go_wp2
     have n0_:=As0.mk (Kd.RdW HO_226000.out)
     have n1_:=As0.mk (Kd.RdW HO_226001.out)
     have n2_:=As0.mk (Kd.RdW HO_226002.out)
     have n3_:=As0.mk (bkD BK213.out)
     have n4_:=As0.mk (bkD BK214.out)
     have n5_:=As0.mk (bkD BK225.out)
     have n6_:=As0.mk (bd1 HB.out)
     clear HO_226000 HO_226001 HO_226002 BK213 BK214 BK225 HB
     have HO_226000:=n0_
     have HO_226001:=n1_
     have HO_226002:=n2_
     have BK213:=n3_
     have BK214:=n4_
     have BK225:=n5_
     have HB:=n6_
     clear n0_ n1_ n2_ n3_ n4_ n5_ n6_
     have p226:0≤(x4_1:Int):=of_decide_eq_true (by first|(with_reducible assumption)|assumption)
     have q226:x4_1<(x226000_1.length:Int):=of_decide_eq_true (by first|(with_reducible assumption)|assumption)
     obtain ⟨ad226,e226,hx226_0,hx226_1,hx226_2,hx226_3,hx226_4⟩:=at_T54 (Kd.R_reads' HO_226000.out).2.2 x4_1 p226 q226
     cases e226
     replace p226:=eq_true p226
     replace q226:=eq_true q226
     have p17:0≤(x4_1:Int):=of_decide_eq_true (by first|(with_reducible assumption)|assumption)
     have q17:(x4_1:Int)<((x226000_1.length:Int):Int):=of_decide_eq_true (by first|(with_reducible assumption)|assumption)
     obtain ⟨go17,co17,eo17,gb17,gl17,cl17,HG17⟩:=Kd.R_form HO_226000.out (by omega)
     (first|cases eo17|(injection eo17 with ea_ en_ ec_;(first|subst ea_|(injection ea_ with ea_;subst ea_));subst ec_;clear en_))
     have GB17:=As0.mk gb17
     have GG17:=As0.mk HG17
     clear gb17 gl17 HG17
     (first|simp only [add_plain] at hx226_0|skip)
     (first|simp only [add_plain] at hx226_1|skip)
     (first|simp only [add_plain] at hx226_2|skip)
     (first|simp only [add_plain] at hx226_3|skip)
     (first|simp only [add_plain] at hx226_4|skip)
     obtain ⟨ce17,hcl17,hM17,hcc17,hfr17⟩:=Kd.R_elem HO_226000.out z54 (x4_1:Int) p17 q17
     obtain rfl:=k54_openM hM17
     have hx17_0:World.cell? _ ⟨go17,(x4_1:Int).toNat*5,none⟩=some (.int .i64 ((rd_T54 x226000_1 x4_1).f0)):=hcc17 0 _ rfl
     have hx17_1:World.cell? _ ⟨go17,(x4_1:Int).toNat*5+1,none⟩=some (.int .i64 ((rd_T54 x226000_1 x4_1).f1)):=hcc17 1 _ rfl
     have hx17_2:World.cell? _ ⟨go17,(x4_1:Int).toNat*5+2,none⟩=some (.int .i64 ((rd_T54 x226000_1 x4_1).f2)):=hcc17 2 _ rfl
     have hx17_3:World.cell? _ ⟨go17,(x4_1:Int).toNat*5+3,none⟩=some (.int .i64 ((rd_T54 x226000_1 x4_1).f3)):=hcc17 3 _ rfl
     have hx17_4:World.cell? _ ⟨go17,(x4_1:Int).toNat*5+4,none⟩=some (.int .i64 ((rd_T54 x226000_1 x4_1).f4)):=hcc17 4 _ rfl
     have hf17_0:World.frozen? _ ⟨go17,(x4_1:Int).toNat*5,none⟩=false:=hfr17 0
     have hf17_1:World.frozen? _ ⟨go17,(x4_1:Int).toNat*5+1,none⟩=false:=hfr17 1
     have hf17_2:World.frozen? _ ⟨go17,(x4_1:Int).toNat*5+2,none⟩=false:=hfr17 2
     have hf17_3:World.frozen? _ ⟨go17,(x4_1:Int).toNat*5+3,none⟩=false:=hfr17 3
     have hf17_4:World.frozen? _ ⟨go17,(x4_1:Int).toNat*5+4,none⟩=false:=hfr17 4
     clear hcl17 hcc17 hfr17 hM17
     replace p17:=eq_true p17
     replace q17:=eq_true q17
     obtain ⟨ce23,hcl23,hM23,hcc23,hfr23⟩:=Kd.R_elem HO_226000.out z54 (x4_1:Int) (of_decide_eq_true (by first|(with_reducible assumption)|assumption)) (by have h_:(x4_1:Int)<((x226000_1.length:Int):Int):=of_decide_eq_true (by first|(with_reducible assumption)|assumption);first|exact h_|(have e_:=(Kd.R_reads' HO_226000.out).1;omega)|simpa using h_)
     obtain rfl:=k54_openM hM23
     have HP23:=(Kd.R_seg HO_226000.out (x4_1:Int) (of_decide_eq_true (by first|(with_reducible assumption)|assumption)) (by have h_:(x4_1:Int)<((x226000_1.length:Int):Int):=of_decide_eq_true (by first|(with_reducible assumption)|assumption);first|exact h_|(have e_:=(Kd.R_reads' HO_226000.out).1;omega)|simpa using h_) (seg:=[.int .i64 (Go.bits .xor .i64 ((rd_T54 x226000_1 x4_1).f4) 1)]) (j:=4) hcl23 hcc23 (show 5≤5 from by decide) (x':=(⟨(rd_T54 x226000_1 x4_1).f0,(rd_T54 x226000_1 x4_1).f1,(rd_T54 x226000_1 x4_1).f2,(rd_T54 x226000_1 x4_1).f3,Go.bits .xor .i64 ((rd_T54 x226000_1 x4_1).f4) 1⟩:S54)) (k54_mkM _ _ _ (⟨(rd_T54 x226000_1 x4_1).f0,(rd_T54 x226000_1 x4_1).f1,(rd_T54 x226000_1 x4_1).f2,(rd_T54 x226000_1 x4_1).f3,Go.bits .xor .i64 ((rd_T54 x226000_1 x4_1).f4) 1⟩:S54) ) (fun _ hk=>hk)).1
     rw [← Ny227.out] at HP23
     have HQ23:=As0.mk HP23
     clear hcl23 hcc23 hfr23 hM23 HP23
     refine start_ (n:=13) (S:=fun w'=>w'.cell? ⟨gb225,0,none⟩=some (.slice (some ⟨go17,0,none⟩) x226000_1.length co21)∧w'.cell? ⟨gb225,1,none⟩=some (.slice Ao13 t218.length co13)∧w'.cell? ⟨gb225,2,none⟩=some (.slice Ao14 t221.length co14)∧w'.cell? ⟨gb225,3,none⟩=some (.int .i64 t224)∧w'.cell? ⟨go17,((x4_1).toNat*5),none⟩=some (.int .i64 ((rd_T54 x226000_1 x4_1).f0))∧w'.cell? ⟨go17,((x4_1).toNat*5)+1,none⟩=some (.int .i64 ((rd_T54 x226000_1 x4_1).f1))∧w'.cell? ⟨go17,((x4_1).toNat*5)+2,none⟩=some (.int .i64 ((rd_T54 x226000_1 x4_1).f2))∧w'.cell? ⟨go17,((x4_1).toNat*5)+3,none⟩=some (.int .i64 ((rd_T54 x226000_1 x4_1).f3))∧w'.cell? ⟨go17,((x4_1).toNat*5)+4,none⟩=some (.int .i64 ((rd_T54 x226000_1 x4_1).f4))) (ds:=[12]) #[false,false,false,false,false,false,false,false,false,false,false,false,false] (by kernel_rfl) rfl rfl ⟨(bkC BK225.out 0).trans rfl,(bkC BK225.out 1).trans rfl,(bkC BK225.out 2).trans rfl,(bkC BK225.out 3).trans rfl,hx226_0,hx226_1,hx226_2,hx226_3,hx226_4⟩ (fun hHeld=>?_);refine with_tabW sl17t.tab5 sl17t.bits5 (fun HT_ HW_=>?_)
     generalize wr.drew=w22 at HO_226000 HO_226001 HO_226002 BK213 BK214 BK225 HB GG17 HQ23 hf17_0 hf17_1 hf17_2 hf17_3 hf17_4 hx17_0 hx17_1 hx17_2 hx17_3 hx17_4 hx226_0 hx226_1 hx226_2 hx226_3 hx226_4 hHeld ⊢
     refine pure_ (i:=0) (N:=some 15) (v:=?_) (a':=?_) #[true,false,false,false,false,false,false,false,false,false,false,false,false] rfl rfl (any_of HT_.out (by kernel_rfl)) (fun _ _ _ h=>h) (Or.inl ⟨by rfl,?_⟩) ?_ ?_
     rotate_left
     ·intro w'
      go_simp
      with_reducible rfl
     rotate_left
     ·simp only [Act.put,List.setIfInBounds_toArray,List.set_cons_zero,List.set_cons_succ,i64_w,i32_w]
      rfl
     refine pure_ (i:=2) (N:=some 17) (v:=?_) (a':=?_) #[true,false,true,false,false,false,false,false,false,false,false,false,false] rfl rfl (any_of HT_.out (by kernel_rfl)) (fun _ _ _ h=>h) (Or.inl ⟨by rfl,?_⟩) ?_ ?_
     rotate_left
     ·intro w'
      go_simp
      with_reducible rfl
     rotate_left
     ·simp only [Act.put,List.setIfInBounds_toArray,List.set_cons_zero,List.set_cons_succ,i64_w,i32_w]
      rfl
     refine pure_ (i:=3) (N:=some 18) (v:=?_) (a':=?_) #[true,false,true,true,false,false,false,false,false,false,false,false,false] rfl rfl (any_of HT_.out (by kernel_rfl)) (fun _ _ _ h=>h) (Or.inl ⟨by rfl,?_⟩) ?_ ?_
     rotate_left
     ·intro w'
      go_simp
      with_reducible rfl
     rotate_left
     ·simp only [Act.put,List.setIfInBounds_toArray,List.set_cons_zero,List.set_cons_succ,i64_w,i32_w]
      rfl
     refine pure_ (i:=5) (N:=some 20) (v:=?_) (a':=?_) #[true,false,true,true,false,true,false,false,false,false,false,false,false] rfl rfl (any_of HT_.out (by kernel_rfl)) (fun _ _ _ h=>h) (Or.inl ⟨by rfl,?_⟩) ?_ ?_
     rotate_left
     ·intro w'
      go_simp
      with_reducible rfl
     rotate_left
     ·simp only [Act.put,List.setIfInBounds_toArray,List.set_cons_zero,List.set_cons_succ,i64_w,i32_w]
      rfl
     refine take_ (i:=1) (N:=some 16) (v:=?_) (a':=?_) #[true,true,true,true,false,true,false,false,false,false,false,false,false] rfl rfl (take_ofW HT_.out HW_.out (by kernel_rfl)) (fun _ _ _ h=>h) (Or.inl ⟨by rfl,?_⟩) hHeld ?_ ?_
     rotate_left
     ·rintro w' ⟨s0,s1,s2,s3,s4,s5,s6,s7,s8⟩
      go_simp
      with_reducible rfl
     rotate_left
     ·simp only [Act.put,List.setIfInBounds_toArray,List.set_cons_zero,List.set_cons_succ,i64_w,i32_w]
      rfl
     refine take_ (i:=4) (N:=some 19) (v:=?_) (a':=?_) #[true,true,true,true,true,true,false,false,false,false,false,false,false] rfl rfl (take_ofW HT_.out HW_.out (by kernel_rfl)) (fun _ _ _ h=>h) (Or.inl ⟨by rfl,?_⟩) hHeld ?_ ?_
     rotate_left
     ·rintro w' ⟨s0,s1,s2,s3,s4,s5,s6,s7,s8⟩
      go_simp
      with_reducible rfl
     rotate_left
     ·simp only [Act.put,List.setIfInBounds_toArray,List.set_cons_zero,List.set_cons_succ,i64_w,i32_w]
      rfl
     refine pure_ (i:=6) (N:=some 21) (v:=?_) (a':=?_) #[true,true,true,true,true,true,true,false,false,false,false,false,false] rfl rfl (any_of HT_.out (by kernel_rfl)) (fun _ _ _ h=>h) (Or.inl ⟨by rfl,?_⟩) ?_ ?_
     rotate_left
     ·intro w'
      go_simp
      with_reducible rfl
     rotate_left
     ·simp only [Act.put,List.setIfInBounds_toArray,List.set_cons_zero,List.set_cons_succ,i64_w,i32_w]
      rfl
     refine pure_ (i:=7) (N:=some 22) (v:=?_) (a':=?_) #[true,true,true,true,true,true,true,true,false,false,false,false,false] rfl rfl (any_of HT_.out (by kernel_rfl)) (fun _ _ _ h=>h) (Or.inl ⟨by rfl,?_⟩) ?_ ?_
     rotate_left
     ·intro w'
      go_simp
      with_reducible rfl
     rotate_left
     ·simp only [Act.put,List.setIfInBounds_toArray,List.set_cons_zero,List.set_cons_succ,i64_w,i32_w]
      rfl
     refine take_ (i:=8) (N:=some 23) (v:=?_) (a':=?_) #[true,true,true,true,true,true,true,true,true,false,false,false,false] rfl rfl (take_ofW HT_.out HW_.out (by kernel_rfl)) (fun _ _ _ h=>h) (Or.inl ⟨by rfl,?_⟩) hHeld ?_ ?_
     rotate_left
     ·rintro w' ⟨s0,s1,s2,s3,s4,s5,s6,s7,s8⟩
      go_simp
      with_reducible rfl
     rotate_left
     ·simp only [Act.put,List.setIfInBounds_toArray,List.set_cons_zero,List.set_cons_succ,i64_w,i32_w]
      rfl
     refine pure_ (i:=9) (N:=some 24) (v:=?_) (a':=?_) #[true,true,true,true,true,true,true,true,true,true,false,false,false] rfl rfl (any_of HT_.out (by kernel_rfl)) (fun _ _ _ h=>h) (Or.inl ⟨by rfl,?_⟩) ?_ ?_
     rotate_left
     ·intro w'
      go_simp
      with_reducible rfl
     rotate_left
     ·simp only [Act.put,List.setIfInBounds_toArray,List.set_cons_zero,List.set_cons_succ,i64_w,i32_w]
      rfl
     refine pure_ (i:=10) (N:=some 25) (v:=?_) (a':=?_) #[true,true,true,true,true,true,true,true,true,true,true,false,false] rfl rfl (any_of HT_.out (by kernel_rfl)) (fun _ _ _ h=>h) (Or.inl ⟨by rfl,?_⟩) ?_ ?_
     rotate_left
     ·intro w'
      go_simp
      with_reducible rfl
     rotate_left
     ·simp only [Act.put,List.setIfInBounds_toArray,List.set_cons_zero,List.set_cons_succ,i64_w,i32_w]
      rfl
     refine pure_ (i:=11) (N:=some 26) (v:=?_) (a':=?_) #[true,true,true,true,true,true,true,true,true,true,true,true,false] rfl rfl (any_of HT_.out (by kernel_rfl)) (fun _ _ _ h=>h) (Or.inl ⟨by rfl,?_⟩) ?_ ?_
     rotate_left
     ·intro w'
      go_simp
      with_reducible rfl
     rotate_left
     ·simp only [Act.put,List.setIfInBounds_toArray,List.set_cons_zero,List.set_cons_succ,i64_w,i32_w]
      rfl
     refine last_ (i:=12) (N:=none) #[true,true,true,true,true,true,true,true,true,true,true,true,true] rfl rfl (one_of HT_.out (by kernel_rfl)) (by decide) (fun K hK=>?_)
     refine skip_ (w1:=?_) (by rfl) rfl ?_ ?_
     rotate_left
     ·go_simp
      rfl
     refine hK.out _ _ ?_
     clear hK K
     refine done_ (done_of HT_.out (by kernel_rfl)) ?_
     try go_wp2
     go_roundg k1
     case measure=>have:=HK1.out;omega
     case rel=>exact ⟨(wrap64 (x4_1+1)),(y227),(.slice (some ⟨go17,0,none⟩) x226000_1.length co21),(by first|rfl|(simp;done)|(simp [*];done)),H',⟨by have:=HK1.out;omega⟩,⟨by (with_reducible repeat (first|apply Kd.R_alloc|apply Kd.RdN|apply Kd.RdW));exact HQ23.out⟩,⟨by (with_reducible repeat (first|apply Kd.R_alloc|apply Kd.RdN|apply Kd.RdW));exact Kd.R_mono (Kd.R_far (p:=⟨go17,(x4_1:Int).toNat*5+4,none⟩) (Kd.R_types HO_226001.out GG17.out (by decide)) (fun _ hk=>hk.2) (.int .i64 (Go.bits .xor .i64 ((rd_T54 x226000_1 x4_1).f4) 1))) (fun _ hk=>trivial)⟩,⟨by (with_reducible repeat (first|apply Kd.R_alloc|apply Kd.RdN|apply Kd.RdW));exact Kd.R_mono (Kd.R_far (p:=⟨go17,(x4_1:Int).toNat*5+4,none⟩) (Kd.R_types HO_226002.out GG17.out (by decide)) (fun _ hk=>hk.2) (.int .i64 (Go.bits .xor .i64 ((rd_T54 x226000_1 x4_1).f4) 1))) (fun _ hk=>trivial)⟩,⟨by (with_reducible repeat (first|refine bkN ?_ _|refine bkD ?_|refine bkA ?_ _));refine bkR ?_ (by have h_:=Kd.R_ne HO_226000.out BK213.out (by decide);intro e_;exact h_ (by rw [e_];rfl)) _;(with_reducible repeat (first|refine bkN ?_ _|refine bkD ?_|refine bkA ?_ _));exact BK213.out⟩,⟨by (with_reducible repeat (first|refine bkN ?_ _|refine bkD ?_|refine bkA ?_ _));refine bkR ?_ (by have h_:=Kd.R_ne HO_226000.out BK214.out (by decide);intro e_;exact h_ (by rw [e_];rfl)) _;(with_reducible repeat (first|refine bkN ?_ _|refine bkD ?_|refine bkA ?_ _));exact BK214.out⟩,⟨by (with_reducible repeat (first|refine bkN ?_ _|refine bkD ?_|refine bkA ?_ _));refine bkR ?_ (by have h_:=Kd.R_ne HO_226000.out BK225.out (by decide);intro e_;exact h_ (by rw [e_];rfl)) _;(with_reducible repeat (first|refine bkN ?_ _|refine bkD ?_|refine bkA ?_ _));exact BK225.out⟩,⟨by repeat (first|(with_reducible first|exact HB.out|apply bdA|apply bdN|apply bd1|refine bdS ?_ GB17.out|refine bdS ?_ GE213.out|refine bdS ?_ GE214.out|refine bdS ?_ GE225.out)|exact HB.out)⟩⟩
    ·rw [if_neg c16] at H
     exact absurd H (by simp)
   ·rw [if_neg c15] at H
    have c15b0:decide (x4_1<(x226000_1.length:Int))=false:=decide_eq_false c15
    clear c15
    have H':=As0.mk H
    clear H
    have hnb24:=NB225_213.out
    have hnc24:=NB213_225.out
    have hnb25:=NB225_214.out
    have hnc25:=NB214_225.out
    have hcz26_0:wr.cell? ⟨gb225,0,none⟩=some (u226000):=(bkC BK225.out 0).trans rfl
    have hcz26_1:wr.cell? ⟨gb225,1,none⟩=some (.slice Ao13 t218.length co13):=(bkC BK225.out 1).trans rfl
    have hcz26_2:wr.cell? ⟨gb225,2,none⟩=some (.slice Ao14 t221.length co14):=(bkC BK225.out 2).trans rfl
    have hcz26_3:wr.cell? ⟨gb225,3,none⟩=some (.int .i64 t224):=(bkC BK225.out 3).trans rfl
    have hfz26_0:=bkF BK225.out 0
    have hfz26_1:=bkF BK225.out 1
    have hfz26_2:=bkF BK225.out 2
    have hfz26_3:=bkF BK225.out 3
    obtain ⟨Ao27,co27,eo27⟩:=Kd.R_slice HO_226000.out
    subst eo27
    go_wp2
    go_loopg [5] k1 (fun kq v5 w'=>∃ (x5_2:Int) (x226002_2:List (S56)) (u226002:Value),v5=.int .i64 x5_2∧As0 (sl17t.l1 kq x5_2 x226000_1 t218 x226002_2 t224=some (r1,r2,r3,r4))∧As0 (kq≤k1)∧As0 (Kd.R k54 54 w' w.heap.size (fun _=>True) (.slice Ao27 x226000_1.length co27) x226000_1)∧As0 (Kd.R k68 68 w' w.heap.size (fun _=>True) (.slice Ao13 t218.length co13) t218)∧As0 (Kd.R k56 56 w' w.heap.size (fun _=>True) u226002 x226002_2)∧As0 (w'.heap[gb213]?=some (.cells #[(.slice A0_0 l0_0.length c0_0),(.slice A0_1 l0_1.length c0_1),(.slice A0_2 l0_2.length c0_2),.int .i64 a0_3] 26 (0,0)))∧As0 (w'.heap[gb214]?=some (.cells #[(.slice none 0 0),(.slice none 0 0),(.slice none 0 0),.int .i64 0] 26 (0,0)))∧As0 (w'.heap[gb225]?=some (.cells #[(.slice Ao27 x226000_1.length co27),(.slice Ao13 t218.length co13),u226002,.int .i64 t224] 26 (0,0)))∧As0 (Below w.heap.size w w'))
    case atStart=>exact ⟨(0),(t221),(.slice Ao14 t221.length co14),(by first|rfl|(simp;done)|(simp [*];done)),H',⟨Nat.le_refl _⟩,⟨by (with_reducible repeat (first|apply Kd.R_alloc|apply Kd.RdN|apply Kd.RdW));exact HO_226000.out⟩,⟨by (with_reducible repeat (first|apply Kd.R_alloc|apply Kd.RdN|apply Kd.RdW));exact HO_226001.out⟩,⟨by (with_reducible repeat (first|apply Kd.R_alloc|apply Kd.RdN|apply Kd.RdW));exact HO_226002.out⟩,⟨by (with_reducible repeat (first|refine bkN ?_ _|refine bkD ?_|refine bkA ?_ _));exact BK213.out⟩,⟨by (with_reducible repeat (first|refine bkN ?_ _|refine bkD ?_|refine bkA ?_ _));exact BK214.out⟩,⟨by (with_reducible repeat (first|refine bkN ?_ _|refine bkD ?_|refine bkA ?_ _));exact BK225.out⟩,⟨by repeat (first|(with_reducible first|exact HB.out|apply bdA|apply bdN|apply bd1|refine bdS ?_ GE213.out|refine bdS ?_ GE214.out|refine bdS ?_ GE225.out)|exact HB.out)⟩⟩
    case round =>
     clear H'
     try clear c1
     try clear p1
     try clear q1
     try clear hx1
     try clear hf1
     try clear c2
     try clear p2
     try clear q2
     try clear hx2
     try clear c5
     try clear p6
     try clear c9
     try clear c10
     try clear c11
     try clear c15
     try clear c15b0
     try clear c16
     try clear c16b0
     try clear c17
     try clear p17
     try clear q17
     try clear hx17
     try clear hf17
     try clear c18
     try clear c19
     try clear p22
     try clear q22
     try clear hx22
     try clear c23
     try clear c24
     try clear c25
     try clear hcz12_0
     try clear hcz12_1
     try clear hcz12_2
     try clear hcz12_3
     try clear hcz20_0
     try clear hcz20_1
     try clear hcz20_2
     try clear hcz20_3
     try clear hcz26_0
     try clear hcz26_1
     try clear hcz26_2
     try clear hcz26_3
     try clear hcz6_0
     try clear hcz6_1
     try clear hcz6_2
     try clear hcz6_3
     try clear hfz12_0
     try clear hfz12_1
     try clear hfz12_2
     try clear hfz12_3
     try clear hfz20_0
     try clear hfz20_1
     try clear hfz20_2
     try clear hfz20_3
     try clear hfz26_0
     try clear hfz26_1
     try clear hfz26_2
     try clear hfz26_3
     try clear hfz6_0
     try clear hfz6_1
     try clear hfz6_2
     try clear hfz6_3
     try clear hx17_0
     try clear hx17_1
     try clear hx17_2
     try clear hx17_3
     try clear hx17_4
     try clear hx226_0
     try clear hx226_1
     try clear hx226_2
     try clear hx226_3
     try clear hx226_4
     try clear p17
     try clear p2
     try clear p226
     try clear q17
     try clear q226
     obtain ⟨x5_2,x226002_2,u226002,rfl,HA,HK2,HO_226000,HO_226001,HO_226002,BK213,BK214,BK225,HB⟩:=hrel
     cases gk with
     | zero=>exact absurd HA.out (by simp [sl17t.l1])
     | succ k2 =>
      have H:=HA.out
      clear HA
      simp only [sl17t.l1] at H
      by_cases c28:x5_2<(x226002_2.length:Int)
      ·rw [if_pos c28] at H
       have c28b0:decide (x5_2<(x226002_2.length:Int))=true:=decide_eq_true c28
       clear c28
       by_cases c29:0≤x5_2
       ·rw [if_pos c29] at H
        have c29b0:decide (0≤x5_2)=true:=decide_eq_true c29
        clear c29
        obtain ⟨y229,hy229⟩:∃ y_:List (S56),y_=(x226002_2.set (x5_2:Int).toNat (⟨(rd_T56 x226002_2 x5_2).f0,(rd_T56 x226002_2 x5_2).f1,(rd_T56 x226002_2 x5_2).f2,(rd_T56 x226002_2 x5_2).f3,Go.bits .xor .i64 ((rd_T56 x226002_2 x5_2).f4) 1⟩:S56)):=⟨_,rfl⟩
        replace H:(sl17t.l1 k2 (wrap64 (x5_2+1)) x226000_1 t218 y229 t224)=some (r1,r2,r3,r4):=by first|(rw [hy229];with_reducible exact H)|(have H2_:=(Option.bind_some _ _).symm.trans H;rw [hy229];with_reducible exact H2_)|(have H2_:=(Option.bind_some _ _).symm.trans H;with_reducible exact H2_)|with_reducible exact H|(rw [hy229];exact H)|exact H
        have Ny229:=As0.mk hy229
        clear hy229
        have H':=As0.mk H
        clear H
        have hnb31:=NB225_213.out
        have hnc31:=NB213_225.out
        have hnb32:=NB225_214.out
        have hnc32:=NB214_225.out
        have hcz33_0:wr.cell? ⟨gb225,0,none⟩=some (.slice Ao27 x226000_1.length co27):=(bkC BK225.out 0).trans rfl
        have hcz33_1:wr.cell? ⟨gb225,1,none⟩=some (.slice Ao13 t218.length co13):=(bkC BK225.out 1).trans rfl
        have hcz33_2:wr.cell? ⟨gb225,2,none⟩=some (u226002):=(bkC BK225.out 2).trans rfl
        have hcz33_3:wr.cell? ⟨gb225,3,none⟩=some (.int .i64 t224):=(bkC BK225.out 3).trans rfl
        have hfz33_0:=bkF BK225.out 0
        have hfz33_1:=bkF BK225.out 1
        have hfz33_2:=bkF BK225.out 2
        have hfz33_3:=bkF BK225.out 3
        obtain ⟨Ao34,co34,eo34⟩:=Kd.R_slice HO_226002.out
        subst eo34
        try go_wp2
        have n0_:=As0.mk (Kd.RdW HO_226000.out)
        have n1_:=As0.mk (Kd.RdW HO_226001.out)
        have n2_:=As0.mk (Kd.RdW HO_226002.out)
        have n3_:=As0.mk (bkD BK213.out)
        have n4_:=As0.mk (bkD BK214.out)
        have n5_:=As0.mk (bkD BK225.out)
        have n6_:=As0.mk (bd1 HB.out)
        clear HO_226000 HO_226001 HO_226002 BK213 BK214 BK225 HB
        have HO_226000:=n0_
        have HO_226001:=n1_
        have HO_226002:=n2_
        have BK213:=n3_
        have BK214:=n4_
        have BK225:=n5_
        have HB:=n6_
        clear n0_ n1_ n2_ n3_ n4_ n5_ n6_
        have p228:0≤(x5_2:Int):=of_decide_eq_true (by first|(with_reducible assumption)|assumption)
        have q228:x5_2<(x226002_2.length:Int):=of_decide_eq_true (by first|(with_reducible assumption)|assumption)
        obtain ⟨ad228,e228,hx228_0,hx228_1,hx228_2,hx228_3,hx228_4⟩:=at_T56 (Kd.R_reads' HO_226002.out).2.2 x5_2 p228 q228
        cases e228
        replace p228:=eq_true p228
        replace q228:=eq_true q228
        have p30:0≤(x5_2:Int):=of_decide_eq_true (by first|(with_reducible assumption)|assumption)
        have q30:(x5_2:Int)<((x226002_2.length:Int):Int):=of_decide_eq_true (by first|(with_reducible assumption)|assumption)
        obtain ⟨go30,co30,eo30,gb30,gl30,cl30,HG30⟩:=Kd.R_form HO_226002.out (by omega)
        (first|cases eo30|(injection eo30 with ea_ en_ ec_;(first|subst ea_|(injection ea_ with ea_;subst ea_));subst ec_;clear en_))
        have GB30:=As0.mk gb30
        have GG30:=As0.mk HG30
        clear gb30 gl30 HG30
        (first|simp only [add_plain] at hx228_0|skip)
        (first|simp only [add_plain] at hx228_1|skip)
        (first|simp only [add_plain] at hx228_2|skip)
        (first|simp only [add_plain] at hx228_3|skip)
        (first|simp only [add_plain] at hx228_4|skip)
        obtain ⟨ce30,hcl30,hM30,hcc30,hfr30⟩:=Kd.R_elem HO_226002.out z56 (x5_2:Int) p30 q30
        obtain rfl:=k56_openM hM30
        have hx30_0:World.cell? _ ⟨go30,(x5_2:Int).toNat*5,none⟩=some (.string ((rd_T56 x226002_2 x5_2).f0)):=hcc30 0 _ rfl
        have hx30_1:World.cell? _ ⟨go30,(x5_2:Int).toNat*5+1,none⟩=some (.int .i64 ((rd_T56 x226002_2 x5_2).f1)):=hcc30 1 _ rfl
        have hx30_2:World.cell? _ ⟨go30,(x5_2:Int).toNat*5+2,none⟩=some (.int .i64 ((rd_T56 x226002_2 x5_2).f2)):=hcc30 2 _ rfl
        have hx30_3:World.cell? _ ⟨go30,(x5_2:Int).toNat*5+3,none⟩=some (.int .i64 ((rd_T56 x226002_2 x5_2).f3)):=hcc30 3 _ rfl
        have hx30_4:World.cell? _ ⟨go30,(x5_2:Int).toNat*5+4,none⟩=some (.int .i64 ((rd_T56 x226002_2 x5_2).f4)):=hcc30 4 _ rfl
        have hf30_0:World.frozen? _ ⟨go30,(x5_2:Int).toNat*5,none⟩=false:=hfr30 0
        have hf30_1:World.frozen? _ ⟨go30,(x5_2:Int).toNat*5+1,none⟩=false:=hfr30 1
        have hf30_2:World.frozen? _ ⟨go30,(x5_2:Int).toNat*5+2,none⟩=false:=hfr30 2
        have hf30_3:World.frozen? _ ⟨go30,(x5_2:Int).toNat*5+3,none⟩=false:=hfr30 3
        have hf30_4:World.frozen? _ ⟨go30,(x5_2:Int).toNat*5+4,none⟩=false:=hfr30 4
        clear hcl30 hcc30 hfr30 hM30
        replace p30:=eq_true p30
        replace q30:=eq_true q30
        obtain ⟨ce36,hcl36,hM36,hcc36,hfr36⟩:=Kd.R_elem HO_226002.out z56 (x5_2:Int) (of_decide_eq_true (by first|(with_reducible assumption)|assumption)) (by have h_:(x5_2:Int)<((x226002_2.length:Int):Int):=of_decide_eq_true (by first|(with_reducible assumption)|assumption);first|exact h_|(have e_:=(Kd.R_reads' HO_226002.out).1;omega)|simpa using h_)
        obtain rfl:=k56_openM hM36
        have HP36:=(Kd.R_seg HO_226002.out (x5_2:Int) (of_decide_eq_true (by first|(with_reducible assumption)|assumption)) (by have h_:(x5_2:Int)<((x226002_2.length:Int):Int):=of_decide_eq_true (by first|(with_reducible assumption)|assumption);first|exact h_|(have e_:=(Kd.R_reads' HO_226002.out).1;omega)|simpa using h_) (seg:=[.int .i64 (Go.bits .xor .i64 ((rd_T56 x226002_2 x5_2).f4) 1)]) (j:=4) hcl36 hcc36 (show 5≤5 from by decide) (x':=(⟨(rd_T56 x226002_2 x5_2).f0,(rd_T56 x226002_2 x5_2).f1,(rd_T56 x226002_2 x5_2).f2,(rd_T56 x226002_2 x5_2).f3,Go.bits .xor .i64 ((rd_T56 x226002_2 x5_2).f4) 1⟩:S56)) (k56_mkM _ _ _ (⟨(rd_T56 x226002_2 x5_2).f0,(rd_T56 x226002_2 x5_2).f1,(rd_T56 x226002_2 x5_2).f2,(rd_T56 x226002_2 x5_2).f3,Go.bits .xor .i64 ((rd_T56 x226002_2 x5_2).f4) 1⟩:S56) ) (fun _ hk=>hk)).1
        rw [← Ny229.out] at HP36
        have HQ36:=As0.mk HP36
        clear hcl36 hcc36 hfr36 hM36 HP36
        refine start_ (n:=13) (S:=fun w'=>w'.cell? ⟨gb225,0,none⟩=some (.slice Ao27 x226000_1.length co27)∧w'.cell? ⟨gb225,1,none⟩=some (.slice Ao13 t218.length co13)∧w'.cell? ⟨gb225,2,none⟩=some (.slice (some ⟨go30,0,none⟩) x226002_2.length co34)∧w'.cell? ⟨gb225,3,none⟩=some (.int .i64 t224)∧w'.cell? ⟨go30,((x5_2).toNat*5),none⟩=some (.string ((rd_T56 x226002_2 x5_2).f0))∧w'.cell? ⟨go30,((x5_2).toNat*5)+1,none⟩=some (.int .i64 ((rd_T56 x226002_2 x5_2).f1))∧w'.cell? ⟨go30,((x5_2).toNat*5)+2,none⟩=some (.int .i64 ((rd_T56 x226002_2 x5_2).f2))∧w'.cell? ⟨go30,((x5_2).toNat*5)+3,none⟩=some (.int .i64 ((rd_T56 x226002_2 x5_2).f3))∧w'.cell? ⟨go30,((x5_2).toNat*5)+4,none⟩=some (.int .i64 ((rd_T56 x226002_2 x5_2).f4))) (ds:=[12]) #[false,false,false,false,false,false,false,false,false,false,false,false,false] (by kernel_rfl) rfl rfl ⟨(bkC BK225.out 0).trans rfl,(bkC BK225.out 1).trans rfl,(bkC BK225.out 2).trans rfl,(bkC BK225.out 3).trans rfl,hx228_0,hx228_1,hx228_2,hx228_3,hx228_4⟩ (fun hHeld=>?_);refine with_tabW sl17t.tab9 sl17t.bits9 (fun HT_ HW_=>?_)
        generalize wr.drew=w35 at HO_226000 HO_226001 HO_226002 BK213 BK214 BK225 HB GG30 HQ36 hf30_0 hf30_1 hf30_2 hf30_3 hf30_4 hx228_0 hx228_1 hx228_2 hx228_3 hx228_4 hx30_0 hx30_1 hx30_2 hx30_3 hx30_4 hHeld ⊢
        refine pure_ (i:=0) (N:=some 34) (v:=?_) (a':=?_) #[true,false,false,false,false,false,false,false,false,false,false,false,false] rfl rfl (any_of HT_.out (by kernel_rfl)) (fun _ _ _ h=>h) (Or.inl ⟨by rfl,?_⟩) ?_ ?_
        rotate_left
        ·intro w'
         go_simp
         with_reducible rfl
        rotate_left
        ·simp only [Act.put,List.setIfInBounds_toArray,List.set_cons_zero,List.set_cons_succ,i64_w,i32_w]
         rfl
        refine pure_ (i:=2) (N:=some 36) (v:=?_) (a':=?_) #[true,false,true,false,false,false,false,false,false,false,false,false,false] rfl rfl (any_of HT_.out (by kernel_rfl)) (fun _ _ _ h=>h) (Or.inl ⟨by rfl,?_⟩) ?_ ?_
        rotate_left
        ·intro w'
         go_simp
         with_reducible rfl
        rotate_left
        ·simp only [Act.put,List.setIfInBounds_toArray,List.set_cons_zero,List.set_cons_succ,i64_w,i32_w]
         rfl
        refine pure_ (i:=3) (N:=some 37) (v:=?_) (a':=?_) #[true,false,true,true,false,false,false,false,false,false,false,false,false] rfl rfl (any_of HT_.out (by kernel_rfl)) (fun _ _ _ h=>h) (Or.inl ⟨by rfl,?_⟩) ?_ ?_
        rotate_left
        ·intro w'
         go_simp
         with_reducible rfl
        rotate_left
        ·simp only [Act.put,List.setIfInBounds_toArray,List.set_cons_zero,List.set_cons_succ,i64_w,i32_w]
         rfl
        refine pure_ (i:=5) (N:=some 39) (v:=?_) (a':=?_) #[true,false,true,true,false,true,false,false,false,false,false,false,false] rfl rfl (any_of HT_.out (by kernel_rfl)) (fun _ _ _ h=>h) (Or.inl ⟨by rfl,?_⟩) ?_ ?_
        rotate_left
        ·intro w'
         go_simp
         with_reducible rfl
        rotate_left
        ·simp only [Act.put,List.setIfInBounds_toArray,List.set_cons_zero,List.set_cons_succ,i64_w,i32_w]
         rfl
        refine take_ (i:=1) (N:=some 35) (v:=?_) (a':=?_) #[true,true,true,true,false,true,false,false,false,false,false,false,false] rfl rfl (take_ofW HT_.out HW_.out (by kernel_rfl)) (fun _ _ _ h=>h) (Or.inl ⟨by rfl,?_⟩) hHeld ?_ ?_
        rotate_left
        ·rintro w' ⟨s0,s1,s2,s3,s4,s5,s6,s7,s8⟩
         go_simp
         with_reducible rfl
        rotate_left
        ·simp only [Act.put,List.setIfInBounds_toArray,List.set_cons_zero,List.set_cons_succ,i64_w,i32_w]
         rfl
        refine take_ (i:=4) (N:=some 38) (v:=?_) (a':=?_) #[true,true,true,true,true,true,false,false,false,false,false,false,false] rfl rfl (take_ofW HT_.out HW_.out (by kernel_rfl)) (fun _ _ _ h=>h) (Or.inl ⟨by rfl,?_⟩) hHeld ?_ ?_
        rotate_left
        ·rintro w' ⟨s0,s1,s2,s3,s4,s5,s6,s7,s8⟩
         go_simp
         with_reducible rfl
        rotate_left
        ·simp only [Act.put,List.setIfInBounds_toArray,List.set_cons_zero,List.set_cons_succ,i64_w,i32_w]
         rfl
        refine pure_ (i:=6) (N:=some 40) (v:=?_) (a':=?_) #[true,true,true,true,true,true,true,false,false,false,false,false,false] rfl rfl (any_of HT_.out (by kernel_rfl)) (fun _ _ _ h=>h) (Or.inl ⟨by rfl,?_⟩) ?_ ?_
        rotate_left
        ·intro w'
         go_simp
         with_reducible rfl
        rotate_left
        ·simp only [Act.put,List.setIfInBounds_toArray,List.set_cons_zero,List.set_cons_succ,i64_w,i32_w]
         rfl
        refine pure_ (i:=7) (N:=some 41) (v:=?_) (a':=?_) #[true,true,true,true,true,true,true,true,false,false,false,false,false] rfl rfl (any_of HT_.out (by kernel_rfl)) (fun _ _ _ h=>h) (Or.inl ⟨by rfl,?_⟩) ?_ ?_
        rotate_left
        ·intro w'
         go_simp
         with_reducible rfl
        rotate_left
        ·simp only [Act.put,List.setIfInBounds_toArray,List.set_cons_zero,List.set_cons_succ,i64_w,i32_w]
         rfl
        refine take_ (i:=8) (N:=some 42) (v:=?_) (a':=?_) #[true,true,true,true,true,true,true,true,true,false,false,false,false] rfl rfl (take_ofW HT_.out HW_.out (by kernel_rfl)) (fun _ _ _ h=>h) (Or.inl ⟨by rfl,?_⟩) hHeld ?_ ?_
        rotate_left
        ·rintro w' ⟨s0,s1,s2,s3,s4,s5,s6,s7,s8⟩
         go_simp
         with_reducible rfl
        rotate_left
        ·simp only [Act.put,List.setIfInBounds_toArray,List.set_cons_zero,List.set_cons_succ,i64_w,i32_w]
         rfl
        refine pure_ (i:=9) (N:=some 43) (v:=?_) (a':=?_) #[true,true,true,true,true,true,true,true,true,true,false,false,false] rfl rfl (any_of HT_.out (by kernel_rfl)) (fun _ _ _ h=>h) (Or.inl ⟨by rfl,?_⟩) ?_ ?_
        rotate_left
        ·intro w'
         go_simp
         with_reducible rfl
        rotate_left
        ·simp only [Act.put,List.setIfInBounds_toArray,List.set_cons_zero,List.set_cons_succ,i64_w,i32_w]
         rfl
        refine pure_ (i:=10) (N:=some 44) (v:=?_) (a':=?_) #[true,true,true,true,true,true,true,true,true,true,true,false,false] rfl rfl (any_of HT_.out (by kernel_rfl)) (fun _ _ _ h=>h) (Or.inl ⟨by rfl,?_⟩) ?_ ?_
        rotate_left
        ·intro w'
         go_simp
         with_reducible rfl
        rotate_left
        ·simp only [Act.put,List.setIfInBounds_toArray,List.set_cons_zero,List.set_cons_succ,i64_w,i32_w]
         rfl
        refine pure_ (i:=11) (N:=some 45) (v:=?_) (a':=?_) #[true,true,true,true,true,true,true,true,true,true,true,true,false] rfl rfl (any_of HT_.out (by kernel_rfl)) (fun _ _ _ h=>h) (Or.inl ⟨by rfl,?_⟩) ?_ ?_
        rotate_left
        ·intro w'
         go_simp
         with_reducible rfl
        rotate_left
        ·simp only [Act.put,List.setIfInBounds_toArray,List.set_cons_zero,List.set_cons_succ,i64_w,i32_w]
         rfl
        refine last_ (i:=12) (N:=none) #[true,true,true,true,true,true,true,true,true,true,true,true,true] rfl rfl (one_of HT_.out (by kernel_rfl)) (by decide) (fun K hK=>?_)
        refine skip_ (w1:=?_) (by rfl) rfl ?_ ?_
        rotate_left
        ·go_simp
         rfl
        refine hK.out _ _ ?_
        clear hK K
        refine done_ (done_of HT_.out (by kernel_rfl)) ?_
        try go_wp2
        go_roundg k2
        case measure=>have:=HK1.out;have:=HK2.out;omega
        case rel=>exact ⟨(wrap64 (x5_2+1)),(y229),(.slice (some ⟨go30,0,none⟩) x226002_2.length co34),(by first|rfl|(simp;done)|(simp [*];done)),H',⟨by have:=HK1.out;have:=HK2.out;omega⟩,⟨by (with_reducible repeat (first|apply Kd.R_alloc|apply Kd.RdN|apply Kd.RdW));exact Kd.R_mono (Kd.R_far (p:=⟨go30,(x5_2:Int).toNat*5+4,none⟩) (Kd.R_types HO_226000.out GG30.out (by decide)) (fun _ hk=>hk.2) (.int .i64 (Go.bits .xor .i64 ((rd_T56 x226002_2 x5_2).f4) 1))) (fun _ hk=>trivial)⟩,⟨by (with_reducible repeat (first|apply Kd.R_alloc|apply Kd.RdN|apply Kd.RdW));exact Kd.R_mono (Kd.R_far (p:=⟨go30,(x5_2:Int).toNat*5+4,none⟩) (Kd.R_types HO_226001.out GG30.out (by decide)) (fun _ hk=>hk.2) (.int .i64 (Go.bits .xor .i64 ((rd_T56 x226002_2 x5_2).f4) 1))) (fun _ hk=>trivial)⟩,⟨by (with_reducible repeat (first|apply Kd.R_alloc|apply Kd.RdN|apply Kd.RdW));exact HQ36.out⟩,⟨by (with_reducible repeat (first|refine bkN ?_ _|refine bkD ?_|refine bkA ?_ _));refine bkR ?_ (by have h_:=Kd.R_ne HO_226002.out BK213.out (by decide);intro e_;exact h_ (by rw [e_];rfl)) _;(with_reducible repeat (first|refine bkN ?_ _|refine bkD ?_|refine bkA ?_ _));exact BK213.out⟩,⟨by (with_reducible repeat (first|refine bkN ?_ _|refine bkD ?_|refine bkA ?_ _));refine bkR ?_ (by have h_:=Kd.R_ne HO_226002.out BK214.out (by decide);intro e_;exact h_ (by rw [e_];rfl)) _;(with_reducible repeat (first|refine bkN ?_ _|refine bkD ?_|refine bkA ?_ _));exact BK214.out⟩,⟨by (with_reducible repeat (first|refine bkN ?_ _|refine bkD ?_|refine bkA ?_ _));refine bkR ?_ (by have h_:=Kd.R_ne HO_226002.out BK225.out (by decide);intro e_;exact h_ (by rw [e_];rfl)) _;(with_reducible repeat (first|refine bkN ?_ _|refine bkD ?_|refine bkA ?_ _));exact BK225.out⟩,⟨by repeat (first|(with_reducible first|exact HB.out|apply bdA|apply bdN|apply bd1|refine bdS ?_ GB30.out|refine bdS ?_ GE213.out|refine bdS ?_ GE214.out|refine bdS ?_ GE225.out)|exact HB.out)⟩⟩
       ·rw [if_neg c29] at H
        exact absurd H (by simp)
      ·rw [if_neg c28] at H
       have c28b0:decide (x5_2<(x226002_2.length:Int))=false:=decide_eq_false c28
       clear c28
       simp only [Option.some.injEq,Prod.mk.injEq] at H
       obtain ⟨rfl,rfl,rfl,rfl⟩:=H
       have hnb37:=NB225_213.out
       have hnc37:=NB213_225.out
       have hnb38:=NB225_214.out
       have hnc38:=NB214_225.out
       have hcz39_0:wr.cell? ⟨gb225,0,none⟩=some (.slice Ao27 x226000_1.length co27):=(bkC BK225.out 0).trans rfl
       have hcz39_1:wr.cell? ⟨gb225,1,none⟩=some (.slice Ao13 t218.length co13):=(bkC BK225.out 1).trans rfl
       have hcz39_2:wr.cell? ⟨gb225,2,none⟩=some (u226002):=(bkC BK225.out 2).trans rfl
       have hcz39_3:wr.cell? ⟨gb225,3,none⟩=some (.int .i64 t224):=(bkC BK225.out 3).trans rfl
       have hfz39_0:=bkF BK225.out 0
       have hfz39_1:=bkF BK225.out 1
       have hfz39_2:=bkF BK225.out 2
       have hfz39_3:=bkF BK225.out 3
       obtain ⟨Ao40,co40,eo40⟩:=Kd.R_slice HO_226002.out
       subst eo40
       have hnb41:=NB214_213.out
       have hnc41:=NB213_214.out
       have hcz42_0:wr.cell? ⟨gb214,0,none⟩=some (.slice none 0 0):=(bkC BK214.out 0).trans rfl
       have hcz42_1:wr.cell? ⟨gb214,1,none⟩=some (.slice none 0 0):=(bkC BK214.out 1).trans rfl
       have hcz42_2:wr.cell? ⟨gb214,2,none⟩=some (.slice none 0 0):=(bkC BK214.out 2).trans rfl
       have hcz42_3:wr.cell? ⟨gb214,3,none⟩=some (.int .i64 0):=(bkC BK214.out 3).trans rfl
       have hfz42_0:=bkF BK214.out 0
       have hfz42_1:=bkF BK214.out 1
       have hfz42_2:=bkF BK214.out 2
       have hfz42_3:=bkF BK214.out 3
       go_wp2
       refine bodyPost_ret (results_cell_row rfl _ _ gb214 26 #[.slice Ao27 x226000_1.length co27,.slice Ao13 t218.length co13,.slice Ao40 x226002_2.length co40,.int .i64 t224] (0,0) _ rfl (by (with_reducible repeat (first|refine bkN ?_ _|refine bkD ?_|refine bkA ?_ _));refine bkP (cs:=#[.slice Ao27 x226000_1.length co27,.slice Ao13 t218.length co13,.slice Ao40 x226002_2.length co40,.int .i64 0]) ?_ 3 _ rfl;(with_reducible repeat (first|refine bkN ?_ _|refine bkD ?_|refine bkA ?_ _));refine bkP (cs:=#[.slice Ao27 x226000_1.length co27,.slice Ao13 t218.length co13,.slice none 0 0,.int .i64 0]) ?_ 2 _ rfl;(with_reducible repeat (first|refine bkN ?_ _|refine bkD ?_|refine bkA ?_ _));refine bkP (cs:=#[.slice Ao27 x226000_1.length co27,.slice none 0 0,.slice none 0 0,.int .i64 0]) ?_ 1 _ rfl;(with_reducible repeat (first|refine bkN ?_ _|refine bkD ?_|refine bkA ?_ _));refine bkP (cs:=#[.slice none 0 0,.slice none 0 0,.slice none 0 0,.int .i64 0]) ?_ 0 _ rfl;(with_reducible repeat (first|refine bkN ?_ _|refine bkD ?_|refine bkA ?_ _));exact BK214.out) Try.underlying26 rfl (by kernel_rfl)) rfl ?_
       exact ⟨_,_,_,by first|rfl|(simp [errW_none,errW_some] <;> rfl)|(simp [*,errW_none,errW_some] <;> rfl),by (with_reducible repeat (first|apply Kd.R_alloc|apply Kd.RdN|apply Kd.RdW));exact Kd.R_mono (Kd.R_far (p:=⟨gb214,3,none⟩) (Kd.R_far (p:=⟨gb214,2,none⟩) (Kd.R_far (p:=⟨gb214,1,none⟩) (Kd.R_far (p:=⟨gb214,0,none⟩) (Kd.R_types HO_226000.out BK214.out (by decide)) (fun _ hk=>hk.2) (.slice Ao27 x226000_1.length co27)) (fun _ hk=>hk.2) (.slice Ao13 t218.length co13)) (fun _ hk=>hk.2) (.slice Ao40 x226002_2.length co40)) (fun _ hk=>hk.2) (.int .i64 t224)) (fun _ hk=>trivial),by (with_reducible repeat (first|apply Kd.R_alloc|apply Kd.RdN|apply Kd.RdW));exact Kd.R_mono (Kd.R_far (p:=⟨gb214,3,none⟩) (Kd.R_far (p:=⟨gb214,2,none⟩) (Kd.R_far (p:=⟨gb214,1,none⟩) (Kd.R_far (p:=⟨gb214,0,none⟩) (Kd.R_types HO_226001.out BK214.out (by decide)) (fun _ hk=>hk.2) (.slice Ao27 x226000_1.length co27)) (fun _ hk=>hk.2) (.slice Ao13 t218.length co13)) (fun _ hk=>hk.2) (.slice Ao40 x226002_2.length co40)) (fun _ hk=>hk.2) (.int .i64 t224)) (fun _ hk=>trivial),by (with_reducible repeat (first|apply Kd.R_alloc|apply Kd.RdN|apply Kd.RdW));exact Kd.R_mono (Kd.R_far (p:=⟨gb214,3,none⟩) (Kd.R_far (p:=⟨gb214,2,none⟩) (Kd.R_far (p:=⟨gb214,1,none⟩) (Kd.R_far (p:=⟨gb214,0,none⟩) (Kd.R_types HO_226002.out BK214.out (by decide)) (fun _ hk=>hk.2) (.slice Ao27 x226000_1.length co27)) (fun _ hk=>hk.2) (.slice Ao13 t218.length co13)) (fun _ hk=>hk.2) (.slice Ao40 x226002_2.length co40)) (fun _ hk=>hk.2) (.int .i64 t224)) (fun _ hk=>trivial),by repeat (first|(with_reducible first|exact HB.out|apply bdA|apply bdN|apply bd1|refine bdS ?_ GE213.out|refine bdS ?_ GE214.out|refine bdS ?_ GE225.out)|exact HB.out)⟩
def image_laid.l0:Nat→List Int→List Int→Int→Int→Option (List Int)
 | 0,_,_,_,_=>none
 | k+1,x0,x7,x8,x9=>if x9<x8 then (if 0≤x9 then (if x9<(x7.length:Int) then ((some (([(rd x7 x9) % 256,((rd x7 x9) / 256) % 256,((rd x7 x9) / 65536) % 256,((rd x7 x9) / 16777216) % 256]:List Int):List Int)).bind fun y231=>(if x0.length+y231.length<140737488355328 then (image_laid.l0 k (x0 ++ y231) x7 x8 (wrap64 (x9+1))) else (none))) else (none)) else (none)) else (some x0)
def image_laid.f (k:Nat) (l0:List Int) (l1:List Int):Option (List Int):=image_laid.l0 k l0 l1 (l1.length:Int) 0
theorem image_laid.calls (k:Nat) (P0_:Nat→Prop) (u9000_:Value) (l0:List Int) (A1:Option Addr) (c1:Nat) (l1:List Int) (r:List Int) (w0 w:World) (hB:Below w0.heap.size w0 w) (ho0:Kd.R (Kd.int .u8) 5 w w0.heap.size P0_ u9000_ l0) (hr1:∀ W_,Kept w W_ (fun k_=>P0_ k_)→Kd.C (Kd.int .i64) W_ A1 l1.length l1) (hc1:l1.length≤c1) (h:image_laid.f k l0 l1=some r) :
  Calls Try.prog 39 #[u9000_,.slice A1 l1.length c1] w fun e w'=>∃ v0_:Value,e=.returned (v0_)∧Kd.R (Kd.int .u8) 5 w' w0.heap.size (fun k_=>(P0_ k_∨w.heap.size≤k_)) v0_ r∧Below w0.heap.size w0 w'∧Kept w w' (fun k_=>P0_ k_):=by
 have HO0:=As0.mk (show Kd.R (Kd.int .u8) 5 w w0.heap.size (fun k_=>(P0_ k_∨w.heap.size≤k_)) u9000_ l0 from Kd.R_mono ho0 (fun k_ hk=>(.inl hk)))
 have HR1:=As0.mk hr1
 have HC1:=As0.mk hc1
 clear hr1 hc1
 have HK:=As0.mk (Kept.refl w (fun k_=>P0_ k_))
 have HW0:=As0.mk hB.size
 have HB:=As0.mk hB
 clear hB
 have H:(image_laid.l0 k l0 l1 (l1.length:Int) 0)=some r:=h
 clear h
 have H':=As0.mk H
 clear H
 go_enter Try.func39,Try.ntmps39
 go_wp2
 go_loopg [0,9] k (fun kq v0 v9 w'=>∃ (x0_1:List Int) (x9_1:Int),v9=.int .i64 x9_1∧As0 (image_laid.l0 kq x0_1 l1 (l1.length:Int) x9_1=some r)∧As0 (kq≤k)∧As0 (Kd.R (Kd.int .u8) 5 w' w0.heap.size (fun k_=>(P0_ k_∨w.heap.size≤k_)) v0 x0_1)∧As0 (Kept w w' (fun k_=>P0_ k_))∧As0 (Below w0.heap.size w0 w'))
 case atStart=>exact ⟨(l0),(0),(by first|rfl|(simp;done)|(simp [*];done)),H',⟨Nat.le_refl _⟩,⟨by (with_reducible repeat (first|apply Kd.R_alloc|apply Kd.RdN|apply Kd.RdW));exact HO0.out⟩,⟨by repeat (first|(with_reducible first|exact HK.out|apply Kept.alloc|apply Kept.drewN|apply Kept.drew)|exact HK.out)⟩,⟨by repeat (first|(with_reducible first|exact HB.out|apply bdA|apply bdN|apply bd1)|exact HB.out)⟩⟩
 case round =>
  clear H'
  try clear c1
  try clear p2
  obtain ⟨x0_1,x9_1,rfl,HA,HK1,HO_0,HK,HB⟩:=hrel
  cases gk with
  | zero=>exact absurd HA.out (by simp [image_laid.l0])
  | succ k1 =>
   have H:=HA.out
   clear HA
   simp only [image_laid.l0] at H
   by_cases c3:x9_1<(l1.length:Int)
   ·rw [if_pos c3] at H
    have c3b0:decide (x9_1<(l1.length:Int))=true:=decide_eq_true c3
    clear c3
    by_cases c4:0≤x9_1
    ·rw [if_pos c4] at H
     have c4b0:decide (0≤x9_1)=true:=decide_eq_true c4
     clear c4
     by_cases c5:x9_1<(l1.length:Int)
     ·rw [if_pos c5] at H
      have c5b0:decide (x9_1<(l1.length:Int))=true:=decide_eq_true c5
      clear c5
      obtain ⟨y231,hy231⟩:∃ y_:List Int,y_=(([(rd l1 x9_1) % 256,((rd l1 x9_1) / 256) % 256,((rd l1 x9_1) / 65536) % 256,((rd l1 x9_1) / 16777216) % 256]:List Int)):=⟨_,rfl⟩
      replace H:(if x0_1.length+y231.length<140737488355328 then (image_laid.l0 k1 (x0_1 ++ y231) l1 (l1.length:Int) (wrap64 (x9_1+1))) else (none))=some r:=by first|(rw [hy231];with_reducible exact H)|(have H2_:=(Option.bind_some _ _).symm.trans H;rw [hy231];with_reducible exact H2_)|(have H2_:=(Option.bind_some _ _).symm.trans H;with_reducible exact H2_)|with_reducible exact H|(rw [hy231];exact H)|exact H
      have Ny231:=As0.mk hy231
      clear hy231
      by_cases c6:x0_1.length+y231.length<140737488355328
      ·rw [if_pos c6] at H
       have LMc6:=As0.mk c6
       clear c6
       obtain ⟨y234,hy234⟩:∃ y_:List Int,y_=(x0_1 ++ y231):=⟨_,rfl⟩
       replace H:(image_laid.l0 k1 y234 l1 (l1.length:Int) (wrap64 (x9_1+1)))=some r:=by first|(rw [hy234];with_reducible exact H)|(have H2_:=(Option.bind_some _ _).symm.trans H;rw [hy234];with_reducible exact H2_)|(have H2_:=(Option.bind_some _ _).symm.trans H;with_reducible exact H2_)|with_reducible exact H|(rw [hy234];exact H)|exact H
       have Ny234:=As0.mk hy234
       clear hy234
       have H':=As0.mk H
       clear H
       have p230:0≤(x9_1:Int):=of_decide_eq_true (by first|(with_reducible assumption)|assumption)
       have q230:x9_1<(l1.length:Int):=of_decide_eq_true (by first|(with_reducible assumption)|assumption)
       obtain ⟨ad230,e230,hx230_0⟩:=Kd.at_int (Kd.C_kept_now HR1.out HK.out) x9_1 p230 q230
       cases e230
       replace p230:=eq_true p230
       replace q230:=eq_true q230
       go_wp2_with (first|((with_reducible refine gtD (N:=25) rfl ?_);refine Kd.R_lit (Kd.int .u8) _ 5 ?hg (N:=25) ?hd (xs:=([(rd l1 x9_1) % 256,((rd l1 x9_1) / 256) % 256,((rd l1 x9_1) / 65536) % 256,((rd l1 x9_1) / 16777216) % 256]:List Int)) (inner:=[.int .u8 ((rd l1 x9_1) % 256),.int .u8 (((rd l1 x9_1) / 256) % 256),.int .u8 (((rd l1 x9_1) / 65536) % 256),.int .u8 (((rd l1 x9_1) / 16777216) % 256)]) (ok:=fun _=>True) (okp:=fun _=>True) ?hr ?hp (fun _ hk=>hk) trivial (Below.refl _ _) (Nat.le_refl _) (by simp) ?_;(case hd=>rfl);(case hg=>rfl);(case hr=>first|(go_simp;done)|(go_simp;rfl));(case hp=>exact (Reps.one (show Kd.M (Kd.int .u8) _ _ _ ((rd l1 x9_1) % 256) [.int .u8 ((rd l1 x9_1) % 256)] from rfl) (Reps.one (show Kd.M (Kd.int .u8) _ _ _ (((rd l1 x9_1) / 256) % 256) [.int .u8 (((rd l1 x9_1) / 256) % 256)] from rfl) (Reps.one (show Kd.M (Kd.int .u8) _ _ _ (((rd l1 x9_1) / 65536) % 256) [.int .u8 (((rd l1 x9_1) / 65536) % 256)] from rfl) (Reps.one (show Kd.M (Kd.int .u8) _ _ _ (((rd l1 x9_1) / 16777216) % 256) [.int .u8 (((rd l1 x9_1) / 16777216) % 256)] from rfl) (Reps.none _ _))))));intro v232 w7 ho8 hb hg_ hnew_;clear hg_ hnew_;(first|rw [← Ny231.out] at ho8|(simp only [Int.reduceToNat] at ho8;rw [← Ny231.out] at ho8));have n0_:=As0.mk (Kd.R_elder' (by (with_reducible repeat (first|apply Kd.R_alloc|apply Kd.RdN|apply Kd.RdW));exact HO_0.out) (Kd.R_base ho8) hb);have n1_:=As0.mk (Kd.R_lower (Kd.R_new' (Kd.R_newM (M:=fun k_=>(P0_ k_∨w.heap.size≤k_)) ho8 (by first|exact HK.out.1|exact (show Kept w _ (fun k_=>P0_ k_) from by repeat (first|(with_reducible first|exact HK.out|apply Kept.alloc|apply Kept.drewN|apply Kept.drew)|exact HK.out)).1) (fun k_ h_=>.inr h_)) (Kd.R_lt (by (with_reducible repeat (first|apply Kd.R_alloc|apply Kd.RdN|apply Kd.RdW));exact HO_0.out))) (bdZ (by repeat (first|(with_reducible first|exact HB.out|apply bdA|apply bdN|apply bd1)|exact HB.out))));have n2_:=As0.mk (Kept.below (S:=(fun k_=>P0_ k_)) (by repeat (first|(with_reducible first|exact HK.out|apply Kept.alloc|apply Kept.drewN|apply Kept.drew)|exact HK.out)) hb);have n3_:=As0.mk (bdT (by repeat (first|(with_reducible first|exact HB.out|apply bdA|apply bdN|apply bd1)|exact HB.out)) hb);clear HO_0;clear HK;clear HB;have HO_0:=n0_;have HO233:=n1_;have HK:=n2_;have HB:=n3_;clear n0_ n1_ n2_ n3_;clear hb ho8;obtain ⟨Ao10,co10,eo10⟩:=Kd.R_slice HO233.out;subst eo10)|((with_reducible refine gate_builtin (b:=.append) (xs:=#[.tmp 13,.tmp 25]) rfl ?_);at_builtin;refine Kd.R_append_rows (Kd.int .u8) (w0:=w0) w0.heap.size rfl (.tmp 13) (.tmp 25) 33 5 (.int .u8 0) 1 rfl Try.underlying33 info5 rfl (by decide) (by omega) u0 x0_1 y231 _ _ _ (fun k_=>(P0_ k_∨w.heap.size≤k_)∧some k_≠(.slice Ao10 y231.length co10:Value).ownBlock) (fun _=>False) rfl rfl ?aO ?aR (fun _ _ h=>h) (fun _ h=>h.elim) ?aF ?aB ?aS ?aL ?_;(case aR=>repeat (first|exact (Kd.R_reads' HO233.out).2.2|(with_reducible refine Kd.C_alloc ?_ _)|(with_reducible refine Kd.C_drewN ?_ _)|(with_reducible refine Kd.C_drew ?_)));(case aB=>exact (by repeat (first|(with_reducible first|exact HB.out|apply bdA|apply bdN|apply bd1)|exact HB.out)));(case aF=>exact (fun k_ hk=>⟨(.inr (Nat.le_trans (by first|exact HK.out.1|exact (show Kept w _ (fun k_=>P0_ k_) from by repeat (first|(with_reducible first|exact HK.out|apply Kept.alloc|apply Kept.drewN|apply Kept.drew)|exact HK.out)).1) hk)),Kd.fresh' (Kd.R_lt (by (with_reducible repeat (first|apply Kd.R_alloc|apply Kd.RdN|apply Kd.RdW));exact HO233.out)) k_ hk⟩));(case aO=>exact (by (with_reducible repeat (first|apply Kd.R_alloc|apply Kd.RdN|apply Kd.RdW));exact HO_0.out));(case aS=>exact (bdZ (by repeat (first|(with_reducible first|exact HB.out|apply bdA|apply bdN|apply bd1)|exact HB.out))));(case aL=>have:=LMc6.out;omega);intro v235 w9 ho hb hg hat;rw [← Ny234.out] at ho;have n0_:=As0.mk (Kd.R_after (ok:=(fun k_=>(P0_ k_∨w.heap.size≤k_))) (by (with_reducible repeat (first|apply Kd.R_alloc|apply Kd.RdN|apply Kd.RdW));exact Kd.R_mono HO233.out (fun _ hk=>⟨hk.1.1,hk.2⟩)) hg hat);have n1_:=As0.mk (hb);have n2_:=As0.mk (Kept.of_grown (S:=(fun k_=>P0_ k_)) hg (by repeat (first|(with_reducible first|exact HK.out|apply Kept.alloc|apply Kept.drewN|apply Kept.drew)|exact HK.out)) (fun k_ e_=>(HO_0.out.1 k_ e_).1));have n3_:=As0.mk (ho);clear HO233;clear HB;clear HK;clear HO_0;have HO233:=n0_;have HB:=n1_;have HK:=n2_;have HO236:=n3_;clear n0_ n1_ n2_ n3_;clear ho hb hg hat))
       go_roundg k1
       case measure=>have:=HK1.out;omega
       case rel=>exact ⟨(y234),(wrap64 (x9_1+1)),(by first|rfl|(simp;done)|(simp [*];done)),H',⟨by have:=HK1.out;omega⟩,⟨by (with_reducible repeat (first|apply Kd.R_alloc|apply Kd.RdN|apply Kd.RdW));exact Kd.R_mono HO236.out (fun _ hk=>hk.1)⟩,⟨by repeat (first|(with_reducible first|exact HK.out|apply Kept.alloc|apply Kept.drewN|apply Kept.drew)|exact HK.out)⟩,⟨by repeat (first|(with_reducible first|exact HB.out|apply bdA|apply bdN|apply bd1)|exact HB.out)⟩⟩
      ·rw [if_neg c6] at H
       exact absurd H (by simp)
     ·rw [if_neg c5] at H
      exact absurd H (by simp)
    ·rw [if_neg c4] at H
     exact absurd H (by simp)
   ·rw [if_neg c3] at H
    have c3b0:decide (x9_1<(l1.length:Int))=false:=decide_eq_false c3
    clear c3
    obtain rfl:=Option.some.inj H
    go_wp2
    go_ret
    exact ⟨_,by first|rfl|(simp [errW_none,errW_some] <;> rfl)|(simp [*,errW_none,errW_some] <;> rfl),by (with_reducible repeat (first|apply Kd.R_alloc|apply Kd.RdN|apply Kd.RdW));exact HO_0.out,by repeat (first|(with_reducible first|exact HB.out|apply bdA|apply bdN|apply bd1)|exact HB.out),by repeat (first|(with_reducible first|exact HK.out|apply Kept.alloc|apply Kept.drewN|apply Kept.drew)|exact HK.out)⟩
def image_insn.f (k:Nat) (l0:List Int) (a1_0:Int) (a1_1:Int) (a1_2:Int) (a1_3:Int) (a1_4:Int):Option (List Int):=(some (([(a1_0) % 256,(Go.bits .or .i64 a1_1 (wrap64 (a1_2*16))) % 256,(a1_3) % 256,(a1_3 / 256) % 256]:List Int):List Int)).bind fun y238=>(if l0.length+y238.length<140737488355328 then ((image_laid.f k (l0 ++ y238) (([a1_4]:List Int))).bind fun t247=>(if a1_0=24 then ((image_laid.f k t247 (([0,a1_4 / 4294967296]:List Int))).bind fun t253=>(some t253)) else (some t247))) else (none))
theorem image_insn.calls (k:Nat) (P0_:Nat→Prop) (u9000_:Value) (l0:List Int) (a1_0:Int) (a1_1:Int) (a1_2:Int) (a1_3:Int) (a1_4:Int) (r:List Int) (w0 w:World) (hB:Below w0.heap.size w0 w) (ho0:Kd.R (Kd.int .u8) 5 w w0.heap.size P0_ u9000_ l0) (h:image_insn.f k l0 a1_0 a1_1 a1_2 a1_3 a1_4=some r) :
  Calls Try.prog 36 #[u9000_,.agg #[.int .i64 a1_0,.int .i64 a1_1,.int .i64 a1_2,.int .i64 a1_3,.int .i64 a1_4]] w fun e w'=>∃ v0_:Value,e=.returned (v0_)∧Kd.R (Kd.int .u8) 5 w' w0.heap.size (fun k_=>(P0_ k_∨w.heap.size≤k_)) v0_ r∧Below w0.heap.size w0 w'∧Kept w w' (fun k_=>P0_ k_):=by
 have hu54:=Try.underlying54
 have HO0:=As0.mk (show Kd.R (Kd.int .u8) 5 w w0.heap.size (fun k_=>(P0_ k_∨w.heap.size≤k_)) u9000_ l0 from Kd.R_mono ho0 (fun k_ hk=>(.inl hk)))
 have HK:=As0.mk (Kept.refl w (fun k_=>P0_ k_))
 have HW0:=As0.mk hB.size
 have HB:=As0.mk hB
 clear hB
 have H:((some (([(a1_0) % 256,(Go.bits .or .i64 a1_1 (wrap64 (a1_2*16))) % 256,(a1_3) % 256,(a1_3 / 256) % 256]:List Int):List Int)).bind fun y238=>(if l0.length+y238.length<140737488355328 then ((image_laid.f k (l0 ++ y238) (([a1_4]:List Int))).bind fun t247=>(if a1_0=24 then ((image_laid.f k t247 (([0,a1_4 / 4294967296]:List Int))).bind fun t253=>(some t253)) else (some t247))) else (none)))=some r:=h
 clear h
 obtain ⟨y238,hy238⟩:∃ y_:List Int,y_=(([(a1_0) % 256,(Go.bits .or .i64 a1_1 (wrap64 (a1_2*16))) % 256,(a1_3) % 256,(a1_3 / 256) % 256]:List Int)):=⟨_,rfl⟩
 replace H:(if l0.length+y238.length<140737488355328 then ((image_laid.f k (l0 ++ y238) (([a1_4]:List Int))).bind fun t247=>(if a1_0=24 then ((image_laid.f k t247 (([0,a1_4 / 4294967296]:List Int))).bind fun t253=>(some t253)) else (some t247))) else (none))=some r:=by first|(rw [hy238];with_reducible exact H)|(have H2_:=(Option.bind_some _ _).symm.trans H;rw [hy238];with_reducible exact H2_)|(have H2_:=(Option.bind_some _ _).symm.trans H;with_reducible exact H2_)|with_reducible exact H|(rw [hy238];exact H)|exact H
 have Ny238:=As0.mk hy238
 clear hy238
 by_cases c3:l0.length+y238.length<140737488355328
 ·rw [if_pos c3] at H
  have LMc3:=As0.mk c3
  clear c3
  obtain ⟨y241,hy241⟩:∃ y_:List Int,y_=(l0 ++ y238):=⟨_,rfl⟩
  replace H:((image_laid.f k y241 (([a1_4]:List Int))).bind fun t247=>(if a1_0=24 then ((image_laid.f k t247 (([0,a1_4 / 4294967296]:List Int))).bind fun t253=>(some t253)) else (some t247)))=some r:=by first|(rw [hy241];with_reducible exact H)|(have H2_:=(Option.bind_some _ _).symm.trans H;rw [hy241];with_reducible exact H2_)|(have H2_:=(Option.bind_some _ _).symm.trans H;with_reducible exact H2_)|with_reducible exact H|(rw [hy241];exact H)|exact H
  have Ny241:=As0.mk hy241
  clear hy241
  obtain ⟨y244,hy244⟩:∃ y_:List Int,y_=(([a1_4]:List Int)):=⟨_,rfl⟩
  replace H:((image_laid.f k y241 y244).bind fun t247=>(if a1_0=24 then ((image_laid.f k t247 (([0,a1_4 / 4294967296]:List Int))).bind fun t253=>(some t253)) else (some t247)))=some r:=by first|(rw [hy244];with_reducible exact H)|(have H2_:=(Option.bind_some _ _).symm.trans H;rw [hy244];with_reducible exact H2_)|(have H2_:=(Option.bind_some _ _).symm.trans H;with_reducible exact H2_)|with_reducible exact H|(rw [hy244];exact H)|exact H
  have Ny244:=As0.mk hy244
  clear hy244
  replace H:=Option.bind_eq_some_iff.mp H
  obtain ⟨t247,A40,H⟩:=H
  replace H:(if a1_0=24 then ((image_laid.f k t247 (([0,a1_4 / 4294967296]:List Int))).bind fun t253=>(some t253)) else (some t247))=some r:=H
  have A4:=As0.mk A40
  clear A40
  by_cases c5:a1_0=24
  ·rw [if_pos c5] at H
   have c5b0:(a1_0 == 24)=true:=beq_iff_eq.mpr c5
   have c5b1:(a1_0 != 24)=false:=bne_eq_false_iff_eq.mpr c5
   clear c5
   obtain ⟨y250,hy250⟩:∃ y_:List Int,y_=(([0,a1_4 / 4294967296]:List Int)):=⟨_,rfl⟩
   replace H:((image_laid.f k t247 y250).bind fun t253=>(some t253))=some r:=by first|(rw [hy250];with_reducible exact H)|(have H2_:=(Option.bind_some _ _).symm.trans H;rw [hy250];with_reducible exact H2_)|(have H2_:=(Option.bind_some _ _).symm.trans H;with_reducible exact H2_)|with_reducible exact H|(rw [hy250];exact H)|exact H
   have Ny250:=As0.mk hy250
   clear hy250
   replace H:=Option.bind_eq_some_iff.mp H
   obtain ⟨t253,A60,H⟩:=H
   replace H:(some t253)=some r:=H
   have A6:=As0.mk A60
   clear A60
   obtain rfl:=Option.some.inj H
   go_enter Try.func36,Try.ntmps36
   go_wp2_with (first|((with_reducible refine gtD (N:=3) rfl ?_);refine bxE ?hg (N:=3) ?hd (cs:=#[.int .i64 a1_0,.int .i64 a1_1,.int .i64 a1_2,.int .i64 a1_3,.int .i64 a1_4]) (t:=54) ?hr ?_;(case hd=>rfl);(case hg=>rfl);(case hr=>first|(go_simp;done)|(go_simp;rfl));intro gb237 hg w7 hbox hb;have n0_:=As0.mk (Kd.RbW (by (with_reducible repeat (first|apply Kd.R_alloc|apply Kd.RdN|apply Kd.RdW));exact HO0.out) hb);have n1_:=As0.mk (Kept.below (S:=(fun k_=>P0_ k_)) (by repeat (first|(with_reducible first|exact HK.out|apply Kept.alloc|apply Kept.drewN|apply Kept.drew)|exact HK.out)) hb);have n2_:=As0.mk (bdT (by repeat (first|(with_reducible first|exact HB.out|apply bdA|apply bdN|apply bd1)|exact HB.out)) hb);have n3_:=As0.mk (hbox);have n4_:=As0.mk ((by rw [hg];exact (by first|exact HK.out.1|exact (show Kept w _ (fun k_=>P0_ k_) from by repeat (first|(with_reducible first|exact HK.out|apply Kept.alloc|apply Kept.drewN|apply Kept.drew)|exact HK.out)).1):w.heap.size≤gb237));have n5_:=As0.mk ((by rw [hg];exact (bdZ (by repeat (first|(with_reducible first|exact HB.out|apply bdA|apply bdN|apply bd1)|exact HB.out))):w0.heap.size≤gb237));clear HO0;clear HK;clear HB;have HO0:=n0_;have HK:=n1_;have HB:=n2_;have BK237:=n3_;have GW237:=n4_;have GE237:=n5_;clear n0_ n1_ n2_ n3_ n4_ n5_;clear hb hbox hg;have hcz8_0:w7.cell? ⟨gb237,0,none⟩=some (.int .i64 a1_0):=(bkC BK237.out 0).trans rfl;have hcz8_1:w7.cell? ⟨gb237,1,none⟩=some (.int .i64 a1_1):=(bkC BK237.out 1).trans rfl;have hcz8_2:w7.cell? ⟨gb237,2,none⟩=some (.int .i64 a1_2):=(bkC BK237.out 2).trans rfl;have hcz8_3:w7.cell? ⟨gb237,3,none⟩=some (.int .i64 a1_3):=(bkC BK237.out 3).trans rfl;have hcz8_4:w7.cell? ⟨gb237,4,none⟩=some (.int .i64 a1_4):=(bkC BK237.out 4).trans rfl;have hfz8_0:=bkF BK237.out 0;have hfz8_1:=bkF BK237.out 1;have hfz8_2:=bkF BK237.out 2;have hfz8_3:=bkF BK237.out 3;have hfz8_4:=bkF BK237.out 4)|((with_reducible refine gtD (N:=23) rfl ?_);refine Kd.R_lit (Kd.int .u8) _ 5 ?hg (N:=23) ?hd (xs:=([(a1_0) % 256,(Go.bits .or .i64 a1_1 (wrap64 (a1_2*16))) % 256,(a1_3) % 256,(a1_3 / 256) % 256]:List Int)) (inner:=[.int .u8 ((a1_0) % 256),.int .u8 ((Go.bits .or .i64 a1_1 (wrap64 (a1_2*16))) % 256),.int .u8 ((a1_3) % 256),.int .u8 ((a1_3 / 256) % 256)]) (ok:=fun _=>True) (okp:=fun _=>True) ?hr ?hp (fun _ hk=>hk) trivial (Below.refl _ _) (Nat.le_refl _) (by simp) ?_;(case hd=>rfl);(case hg=>rfl);(case hr=>first|(go_simp;done)|(go_simp;rfl));(case hp=>exact (Reps.one (show Kd.M (Kd.int .u8) _ _ _ ((a1_0) % 256) [.int .u8 ((a1_0) % 256)] from rfl) (Reps.one (show Kd.M (Kd.int .u8) _ _ _ ((Go.bits .or .i64 a1_1 (wrap64 (a1_2*16))) % 256) [.int .u8 ((Go.bits .or .i64 a1_1 (wrap64 (a1_2*16))) % 256)] from rfl) (Reps.one (show Kd.M (Kd.int .u8) _ _ _ ((a1_3) % 256) [.int .u8 ((a1_3) % 256)] from rfl) (Reps.one (show Kd.M (Kd.int .u8) _ _ _ ((a1_3 / 256) % 256) [.int .u8 ((a1_3 / 256) % 256)] from rfl) (Reps.none _ _))))));intro v239 w9 ho10 hb hg_ hnew_;clear hg_ hnew_;(first|rw [← Ny238.out] at ho10|(simp only [Int.reduceToNat] at ho10;rw [← Ny238.out] at ho10));have n0_:=As0.mk (Kd.R_elder' (by (with_reducible repeat (first|apply Kd.R_alloc|apply Kd.RdN|apply Kd.RdW));exact HO0.out) (Kd.R_base ho10) hb);have n1_:=As0.mk (Kd.R_lower (Kd.R_new' (Kd.R_newM (M:=fun k_=>(P0_ k_∨w.heap.size≤k_)) ho10 (by first|exact HK.out.1|exact (show Kept w _ (fun k_=>P0_ k_) from by repeat (first|(with_reducible first|exact HK.out|apply Kept.alloc|apply Kept.drewN|apply Kept.drew|refine Kept.setCell ?_ (.inr GW237.out) _)|exact HK.out)).1) (fun k_ h_=>.inr h_)) (Kd.R_lt (by (with_reducible repeat (first|apply Kd.R_alloc|apply Kd.RdN|apply Kd.RdW));exact HO0.out))) (bdZ (by repeat (first|(with_reducible first|exact HB.out|apply bdA|apply bdN|apply bd1|refine bdS ?_ GE237.out)|exact HB.out))));have n2_:=As0.mk (bkB (g:=gb237) (o:=.cells #[.int .i64 a1_0,.int .i64 a1_1,.int .i64 a1_2,.int .i64 a1_3,.int .i64 a1_4] 54 (0,0)) (by (with_reducible repeat (first|refine bkN ?_ _|refine bkD ?_|refine bkA ?_ _));exact BK237.out) hb);have n3_:=As0.mk (Kept.below (S:=(fun k_=>P0_ k_)) (by repeat (first|(with_reducible first|exact HK.out|apply Kept.alloc|apply Kept.drewN|apply Kept.drew|refine Kept.setCell ?_ (.inr GW237.out) _)|exact HK.out)) hb);have n4_:=As0.mk (bdT (by repeat (first|(with_reducible first|exact HB.out|apply bdA|apply bdN|apply bd1|refine bdS ?_ GE237.out)|exact HB.out)) hb);clear HO0;clear BK237;clear HK;clear HB;have HO0:=n0_;have HO240:=n1_;have BK237:=n2_;have HK:=n3_;have HB:=n4_;clear n0_ n1_ n2_ n3_ n4_;clear hb ho10;obtain ⟨Ao12,co12,eo12⟩:=Kd.R_slice HO240.out;subst eo12)|((with_reducible refine gate_builtin (b:=.append) (xs:=#[.tmp 5,.tmp 23]) rfl ?_);at_builtin;refine Kd.R_append_rows (Kd.int .u8) (w0:=w0) w0.heap.size rfl (.tmp 5) (.tmp 23) 33 5 (.int .u8 0) 1 rfl Try.underlying33 info5 rfl (by decide) (by omega) u9000_ l0 y238 _ _ _ (fun k_=>(P0_ k_∨w.heap.size≤k_)∧some k_≠(.slice Ao12 y238.length co12:Value).ownBlock) (fun _=>False) rfl rfl ?aO ?aR (fun _ _ h=>h) (fun _ h=>h.elim) ?aF ?aB ?aS ?aL ?_;(case aR=>repeat (first|exact (Kd.R_reads' HO240.out).2.2|(with_reducible refine Kd.C_alloc ?_ _)|(with_reducible refine Kd.C_drewN ?_ _)|(with_reducible refine Kd.C_drew ?_)));(case aB=>exact (by repeat (first|(with_reducible first|exact HB.out|apply bdA|apply bdN|apply bd1|refine bdS ?_ GE237.out)|exact HB.out)));(case aF=>exact (fun k_ hk=>⟨(.inr (Nat.le_trans (by first|exact HK.out.1|exact (show Kept w _ (fun k_=>P0_ k_) from by repeat (first|(with_reducible first|exact HK.out|apply Kept.alloc|apply Kept.drewN|apply Kept.drew|refine Kept.setCell ?_ (.inr GW237.out) _)|exact HK.out)).1) hk)),Kd.fresh' (Kd.R_lt (by (with_reducible repeat (first|apply Kd.R_alloc|apply Kd.RdN|apply Kd.RdW));exact HO240.out)) k_ hk⟩));(case aO=>exact (by (with_reducible repeat (first|apply Kd.R_alloc|apply Kd.RdN|apply Kd.RdW));exact HO0.out));(case aS=>exact (bdZ (by repeat (first|(with_reducible first|exact HB.out|apply bdA|apply bdN|apply bd1|refine bdS ?_ GE237.out)|exact HB.out))));(case aL=>have:=LMc3.out;omega);intro v242 w11 ho hb hg hat;rw [← Ny241.out] at ho;have n0_:=As0.mk (blk_grown (g:=gb237) (o:=.cells #[.int .i64 a1_0,.int .i64 a1_1,.int .i64 a1_2,.int .i64 a1_3,.int .i64 a1_4] 54 (0,0)) (by (with_reducible repeat (first|refine bkN ?_ _|refine bkD ?_|refine bkA ?_ _));exact BK237.out) hg (Kd.R_ne HO0.out BK237.out (by decide)));have n1_:=As0.mk (Kd.R_after (ok:=(fun k_=>(P0_ k_∨w.heap.size≤k_))) (by (with_reducible repeat (first|apply Kd.R_alloc|apply Kd.RdN|apply Kd.RdW));exact Kd.R_mono HO240.out (fun _ hk=>⟨hk.1.1,hk.2⟩)) hg hat);have n2_:=As0.mk (hb);have n3_:=As0.mk (Kept.of_grown (S:=(fun k_=>P0_ k_)) hg (by repeat (first|(with_reducible first|exact HK.out|apply Kept.alloc|apply Kept.drewN|apply Kept.drew|refine Kept.setCell ?_ (.inr GW237.out) _)|exact HK.out)) (fun k_ e_=>(HO0.out.1 k_ e_).1));have n4_:=As0.mk (ho);clear BK237;clear HO240;clear HB;clear HK;clear HO0;have BK237:=n0_;have HO240:=n1_;have HB:=n2_;have HK:=n3_;have HO243:=n4_;clear n0_ n1_ n2_ n3_ n4_;clear ho hb hg hat;have hcz13_0:w11.cell? ⟨gb237,0,none⟩=some (.int .i64 a1_0):=(bkC BK237.out 0).trans rfl;have hcz13_1:w11.cell? ⟨gb237,1,none⟩=some (.int .i64 a1_1):=(bkC BK237.out 1).trans rfl;have hcz13_2:w11.cell? ⟨gb237,2,none⟩=some (.int .i64 a1_2):=(bkC BK237.out 2).trans rfl;have hcz13_3:w11.cell? ⟨gb237,3,none⟩=some (.int .i64 a1_3):=(bkC BK237.out 3).trans rfl;have hcz13_4:w11.cell? ⟨gb237,4,none⟩=some (.int .i64 a1_4):=(bkC BK237.out 4).trans rfl;have hfz13_0:=bkF BK237.out 0;have hfz13_1:=bkF BK237.out 1;have hfz13_2:=bkF BK237.out 2;have hfz13_3:=bkF BK237.out 3;have hfz13_4:=bkF BK237.out 4)|((with_reducible refine gtD (N:=28) rfl ?_);refine Kd.R_lit (Kd.int .i64) _ 3 ?hg (N:=28) ?hd (xs:=([a1_4]:List Int)) (inner:=[.int .i64 a1_4]) (ok:=fun _=>True) (okp:=fun _=>True) ?hr ?hp (fun _ hk=>hk) trivial (Below.refl _ _) (Nat.le_refl _) (by simp) ?_;(case hd=>rfl);(case hg=>rfl);(case hr=>first|(go_simp;done)|(go_simp;rfl));(case hp=>exact (Reps.one (show Kd.M (Kd.int .i64) _ _ _ a1_4 [.int .i64 a1_4] from rfl) (Reps.none _ _)));intro v245 w14 ho15 hb hg_ hnew_;clear hg_ hnew_;(first|rw [← Ny244.out] at ho15|(simp only [Int.reduceToNat] at ho15;rw [← Ny244.out] at ho15));have n0_:=As0.mk (Kd.RbW (by (with_reducible repeat (first|apply Kd.R_alloc|apply Kd.RdN|apply Kd.RdW));exact HO240.out) hb);have n1_:=As0.mk (Kd.RbW (by (with_reducible repeat (first|apply Kd.R_alloc|apply Kd.RdN|apply Kd.RdW));exact HO243.out) hb);have n2_:=As0.mk (Kd.R_lower (Kd.R_newM (M:=fun k_=>(P0_ k_∨w.heap.size≤k_)) ho15 (by first|exact HK.out.1|exact (show Kept w _ (fun k_=>P0_ k_) from by repeat (first|(with_reducible first|exact HK.out|apply Kept.alloc|apply Kept.drewN|apply Kept.drew|refine Kept.setCell ?_ (.inr GW237.out) _)|exact HK.out)).1) (fun k_ h_=>.inr h_)) (bdZ (by repeat (first|(with_reducible first|exact HB.out|apply bdA|apply bdN|apply bd1|refine bdS ?_ GE237.out)|exact HB.out))));have n3_:=As0.mk (bkB (g:=gb237) (o:=.cells #[.int .i64 a1_0,.int .i64 a1_1,.int .i64 a1_2,.int .i64 a1_3,.int .i64 a1_4] 54 (0,0)) (by (with_reducible repeat (first|refine bkN ?_ _|refine bkD ?_|refine bkA ?_ _));exact BK237.out) hb);have n4_:=As0.mk (Kept.below (S:=(fun k_=>P0_ k_)) (by repeat (first|(with_reducible first|exact HK.out|apply Kept.alloc|apply Kept.drewN|apply Kept.drew|refine Kept.setCell ?_ (.inr GW237.out) _)|exact HK.out)) hb);have n5_:=As0.mk (bdT (by repeat (first|(with_reducible first|exact HB.out|apply bdA|apply bdN|apply bd1|refine bdS ?_ GE237.out)|exact HB.out)) hb);clear HO240;clear HO243;clear BK237;clear HK;clear HB;have HO240:=n0_;have HO243:=n1_;have HO246:=n2_;have BK237:=n3_;have HK:=n4_;have HB:=n5_;clear n0_ n1_ n2_ n3_ n4_ n5_;clear hb ho15;obtain ⟨Ao16,co16,eo16⟩:=Kd.R_slice HO243.out;subst eo16;obtain ⟨Ao17,co17,eo17⟩:=Kd.R_slice HO246.out;subst eo17)|((with_reducible refine gate_callee (f:=39) rfl ?_);refine goesL_ (some 29) rfl rfl Try.func39 (by kernel_rfl) rfl #[.slice Ao16 y241.length co16,.slice Ao17 y244.length co17] rfl (by (try simp only [List.map_toArray,List.map_cons,List.map_nil]);first|done|rfl|(simp only [List.length_drop,List.length_take];rfl)) ?_;(with_reducible refine (image_laid.calls k (fun k_=>some k_=(.slice Ao16 y241.length co16:Value).ownBlock) (.slice Ao16 y241.length co16) y241 _ _ y244 t247 w0 _ ?side1 ?side2 ?side3 ?side4 A4.out).mono ?_);(case side1=>repeat (first|(with_reducible first|exact HB.out|apply bdA|apply bdN|apply bd1|refine bdS ?_ GE237.out)|exact HB.out));(case side2=>exact Kd.R_tight rfl HO243.out);(case side3=>exact Kd.C_kept_own ((Kd.R_apart' HO246.out (Kd.R_typed HO243.out) (by decide))) (fun k_ hk_ hs_=>(hk_.2) hs_));(case side4=>exact (Kd.R_reads' HO246.out).2.1);rintro e w18 ⟨v248,rfl,ho0,hb,hkp⟩;refine ⟨_,rfl,?_⟩;have n0_:=As0.mk (bkK (by (with_reducible repeat (first|refine bkN ?_ _|refine bkD ?_|refine bkA ?_ _));exact BK237.out) hkp (fun hs_=>(fun e_=>(Kd.R_ne HO243.out BK237.out (by decide)) e_) hs_));have n1_:=As0.mk (Kd.R_mono (ok':=fun k_=>(P0_ k_∨w.heap.size≤k_)∧some k_≠(v248:Value).ownBlock) (Kd.R_keptB (HO240.out) hkp (fun k_ hk_ hs_=>(hk_.2) hs_)) (fun k_ hk_=>⟨hk_.1.1,fun e_=>Or.elim (ho0.1 k_ e_.symm) (fun hs_=>hk_.2.1 hs_) (fun hn_=>Nat.not_le.2 hk_.2.2 hn_)⟩));have n2_:=As0.mk (Kd.R_mono (ok':=fun k_=>(P0_ k_∨w.heap.size≤k_)) (Kd.R_keptB ((Kd.R_apart' HO246.out (Kd.R_typed HO243.out) (by decide))) hkp (fun k_ hk_ hs_=>(hk_.2) hs_)) (fun k_ hk_=>hk_.1.1.1));have n3_:=As0.mk (Kd.R_mono (ok':=fun k_=>(P0_ k_∨w.heap.size≤k_)∧some k_≠(.slice Ao12 y238.length co12:Value).ownBlock) ho0 (fun k_ hk_=>⟨Or.elim hk_ (fun hs_=>(HO243.out.1 k_ (hs_).symm).1) (fun hn_=>(.inr (Nat.le_trans (by first|exact HK.out.1|exact (show Kept w _ (fun k_=>P0_ k_) from by repeat (first|(with_reducible first|exact HK.out|apply Kept.alloc|apply Kept.drewN|apply Kept.drew|refine Kept.setCell ?_ (.inr GW237.out) _)|exact HK.out)).1) hn_))),Or.elim hk_ (fun hs_=>fun e_=>(((HO240.out).1 k_ e_.symm).2) hs_) (fun hn_=>(Kd.fresh' (Kd.R_lt (by (with_reducible repeat (first|apply Kd.R_alloc|apply Kd.RdN|apply Kd.RdW));exact HO240.out)) k_ hn_))⟩));have n4_:=As0.mk (Kept.then_ (S:=(fun k_=>P0_ k_)) (by repeat (first|(with_reducible first|exact HK.out|apply Kept.alloc|apply Kept.drewN|apply Kept.drew|refine Kept.setCell ?_ (.inr GW237.out) _)|exact HK.out)) hkp (fun k_ hs_=>(fun e_=>(HO243.out.1 k_ e_.symm).1) hs_));have n5_:=As0.mk (hb);clear BK237;clear HO240;clear HO246;clear HK;clear HB;clear HO243;have BK237:=n0_;have HO240:=n1_;have HO246:=n2_;have HO249:=n3_;have HK:=n4_;have HB:=n5_;clear n0_ n1_ n2_ n3_ n4_ n5_;(try clear hb);(try clear hkp);(try clear ho0);have hcz19_0:w18.cell? ⟨gb237,0,none⟩=some (.int .i64 a1_0):=(bkC BK237.out 0).trans rfl;have hcz19_1:w18.cell? ⟨gb237,1,none⟩=some (.int .i64 a1_1):=(bkC BK237.out 1).trans rfl;have hcz19_2:w18.cell? ⟨gb237,2,none⟩=some (.int .i64 a1_2):=(bkC BK237.out 2).trans rfl;have hcz19_3:w18.cell? ⟨gb237,3,none⟩=some (.int .i64 a1_3):=(bkC BK237.out 3).trans rfl;have hcz19_4:w18.cell? ⟨gb237,4,none⟩=some (.int .i64 a1_4):=(bkC BK237.out 4).trans rfl;have hfz19_0:=bkF BK237.out 0;have hfz19_1:=bkF BK237.out 1;have hfz19_2:=bkF BK237.out 2;have hfz19_3:=bkF BK237.out 3;have hfz19_4:=bkF BK237.out 4)|((with_reducible refine gtD (N:=37) rfl ?_);refine Kd.R_lit (Kd.int .i64) _ 3 ?hg (N:=37) ?hd (xs:=([0,a1_4 / 4294967296]:List Int)) (inner:=[.int .i64 0,.int .i64 (a1_4 / 4294967296)]) (ok:=fun _=>True) (okp:=fun _=>True) ?hr ?hp (fun _ hk=>hk) trivial (Below.refl _ _) (Nat.le_refl _) (by simp) ?_;(case hd=>rfl);(case hg=>rfl);(case hr=>first|(go_simp;done)|(go_simp;rfl));(case hp=>exact (Reps.one (show Kd.M (Kd.int .i64) _ _ _ 0 [.int .i64 0] from rfl) (Reps.one (show Kd.M (Kd.int .i64) _ _ _ (a1_4 / 4294967296) [.int .i64 (a1_4 / 4294967296)] from rfl) (Reps.none _ _))));intro v251 w20 ho21 hb hg_ hnew_;clear hg_ hnew_;(first|rw [← Ny250.out] at ho21|(simp only [Int.reduceToNat] at ho21;rw [← Ny250.out] at ho21));have n0_:=As0.mk (Kd.RbW (by (with_reducible repeat (first|apply Kd.R_alloc|apply Kd.RdN|apply Kd.RdW));exact HO240.out) hb);have n1_:=As0.mk (Kd.R_elder' (by (with_reducible repeat (first|apply Kd.R_alloc|apply Kd.RdN|apply Kd.RdW));exact HO246.out) (Kd.R_base ho21) hb);have n2_:=As0.mk (Kd.RbW (by (with_reducible repeat (first|apply Kd.R_alloc|apply Kd.RdN|apply Kd.RdW));exact HO249.out) hb);have n3_:=As0.mk (Kd.R_lower (Kd.R_new' (Kd.R_newM (M:=fun k_=>(P0_ k_∨w.heap.size≤k_)) ho21 (by first|exact HK.out.1|exact (show Kept w _ (fun k_=>P0_ k_) from by repeat (first|(with_reducible first|exact HK.out|apply Kept.alloc|apply Kept.drewN|apply Kept.drew|refine Kept.setCell ?_ (.inr GW237.out) _)|exact HK.out)).1) (fun k_ h_=>.inr h_)) (Kd.R_lt (by (with_reducible repeat (first|apply Kd.R_alloc|apply Kd.RdN|apply Kd.RdW));exact HO246.out))) (bdZ (by repeat (first|(with_reducible first|exact HB.out|apply bdA|apply bdN|apply bd1|refine bdS ?_ GE237.out)|exact HB.out))));have n4_:=As0.mk (bkB (g:=gb237) (o:=.cells #[.int .i64 a1_0,.int .i64 a1_1,.int .i64 a1_2,.int .i64 a1_3,.int .i64 a1_4] 54 (0,0)) (by (with_reducible repeat (first|refine bkN ?_ _|refine bkD ?_|refine bkA ?_ _));exact BK237.out) hb);have n5_:=As0.mk (Kept.below (S:=(fun k_=>P0_ k_)) (by repeat (first|(with_reducible first|exact HK.out|apply Kept.alloc|apply Kept.drewN|apply Kept.drew|refine Kept.setCell ?_ (.inr GW237.out) _)|exact HK.out)) hb);have n6_:=As0.mk (bdT (by repeat (first|(with_reducible first|exact HB.out|apply bdA|apply bdN|apply bd1|refine bdS ?_ GE237.out)|exact HB.out)) hb);clear HO240;clear HO246;clear HO249;clear BK237;clear HK;clear HB;have HO240:=n0_;have HO246:=n1_;have HO249:=n2_;have HO252:=n3_;have BK237:=n4_;have HK:=n5_;have HB:=n6_;clear n0_ n1_ n2_ n3_ n4_ n5_ n6_;clear hb ho21;obtain ⟨Ao22,co22,eo22⟩:=Kd.R_slice HO249.out;subst eo22;obtain ⟨Ao23,co23,eo23⟩:=Kd.R_slice HO252.out;subst eo23)|((with_reducible refine gate_callee (f:=39) rfl ?_);refine goesL_ (some 38) rfl rfl Try.func39 (by kernel_rfl) rfl #[.slice Ao22 t247.length co22,.slice Ao23 y250.length co23] rfl (by (try simp only [List.map_toArray,List.map_cons,List.map_nil]);first|done|rfl|(simp only [List.length_drop,List.length_take];rfl)) ?_;(with_reducible refine (image_laid.calls k (fun k_=>some k_=(.slice Ao22 t247.length co22:Value).ownBlock) (.slice Ao22 t247.length co22) t247 _ _ y250 t253 w0 _ ?side1 ?side2 ?side3 ?side4 A6.out).mono ?_);(case side1=>repeat (first|(with_reducible first|exact HB.out|apply bdA|apply bdN|apply bd1|refine bdS ?_ GE237.out)|exact HB.out));(case side2=>exact Kd.R_tight rfl HO249.out);(case side3=>exact Kd.C_kept_own ((Kd.R_apart' HO252.out (Kd.R_typed HO249.out) (by decide))) (fun k_ hk_ hs_=>(hk_.2) hs_));(case side4=>exact (Kd.R_reads' HO252.out).2.1);rintro e w24 ⟨v254,rfl,ho0,hb,hkp⟩;refine ⟨_,rfl,?_⟩;have n0_:=As0.mk (bkK (by (with_reducible repeat (first|refine bkN ?_ _|refine bkD ?_|refine bkA ?_ _));exact BK237.out) hkp (fun hs_=>(fun e_=>(Kd.R_ne HO249.out BK237.out (by decide)) e_) hs_));have n1_:=As0.mk (Kd.R_mono (ok':=fun k_=>(P0_ k_∨w.heap.size≤k_)∧some k_≠(v254:Value).ownBlock) (Kd.R_keptB (HO240.out) hkp (fun k_ hk_ hs_=>(hk_.2) hs_)) (fun k_ hk_=>⟨hk_.1.1,fun e_=>Or.elim (ho0.1 k_ e_.symm) (fun hs_=>hk_.2.1 hs_) (fun hn_=>Nat.not_le.2 hk_.2.2 hn_)⟩));have n2_:=As0.mk (Kd.R_mono (ok':=fun k_=>(P0_ k_∨w.heap.size≤k_)∧some k_≠(.slice Ao23 y250.length co23:Value).ownBlock) (Kd.R_keptB ((Kd.R_apart' HO246.out (Kd.R_typed HO249.out) (by decide))) hkp (fun k_ hk_ hs_=>(hk_.2) hs_)) (fun k_ hk_=>⟨hk_.1.1.1,hk_.1.1.2⟩));have n3_:=As0.mk (Kd.R_mono (ok':=fun k_=>(P0_ k_∨w.heap.size≤k_)∧some k_≠(.slice Ao17 y244.length co17:Value).ownBlock) (Kd.R_keptB ((Kd.R_apart' HO252.out (Kd.R_typed HO249.out) (by decide))) hkp (fun k_ hk_ hs_=>(hk_.2) hs_)) (fun k_ hk_=>⟨hk_.1.1.1.1,hk_.1.1.2⟩));have n4_:=As0.mk (Kd.R_mono (ok':=fun k_=>(P0_ k_∨w.heap.size≤k_)∧some k_≠(.slice Ao12 y238.length co12:Value).ownBlock) ho0 (fun k_ hk_=>⟨Or.elim hk_ (fun hs_=>(HO249.out.1 k_ (hs_).symm).1) (fun hn_=>(.inr (Nat.le_trans (by first|exact HK.out.1|exact (show Kept w _ (fun k_=>P0_ k_) from by repeat (first|(with_reducible first|exact HK.out|apply Kept.alloc|apply Kept.drewN|apply Kept.drew|refine Kept.setCell ?_ (.inr GW237.out) _)|exact HK.out)).1) hn_))),Or.elim hk_ (fun hs_=>fun e_=>(((HO240.out).1 k_ e_.symm).2) hs_) (fun hn_=>(Kd.fresh' (Kd.R_lt (by (with_reducible repeat (first|apply Kd.R_alloc|apply Kd.RdN|apply Kd.RdW));exact HO240.out)) k_ hn_))⟩));have n5_:=As0.mk (Kept.then_ (S:=(fun k_=>P0_ k_)) (by repeat (first|(with_reducible first|exact HK.out|apply Kept.alloc|apply Kept.drewN|apply Kept.drew|refine Kept.setCell ?_ (.inr GW237.out) _)|exact HK.out)) hkp (fun k_ hs_=>(fun e_=>(HO249.out.1 k_ e_.symm).1) hs_));have n6_:=As0.mk (hb);clear BK237;clear HO240;clear HO246;clear HO252;clear HK;clear HB;clear HO249;have BK237:=n0_;have HO240:=n1_;have HO246:=n2_;have HO252:=n3_;have HO255:=n4_;have HK:=n5_;have HB:=n6_;clear n0_ n1_ n2_ n3_ n4_ n5_ n6_;(try clear hb);(try clear hkp);(try clear ho0)))
   go_ret
   exact ⟨_,by first|rfl|(simp [errW_none,errW_some] <;> rfl)|(simp [*,errW_none,errW_some] <;> rfl),by (with_reducible repeat (first|apply Kd.R_alloc|apply Kd.RdN|apply Kd.RdW));exact Kd.R_mono HO255.out (fun _ hk=>hk.1),by repeat (first|(with_reducible first|exact HB.out|apply bdA|apply bdN|apply bd1|refine bdS ?_ GE237.out)|exact HB.out),by repeat (first|(with_reducible first|exact HK.out|apply Kept.alloc|apply Kept.drewN|apply Kept.drew|refine Kept.setCell ?_ (.inr GW237.out) _)|exact HK.out)⟩
  ·rw [if_neg c5] at H
   have c5b0:(a1_0 == 24)=false:=beq_eq_false_iff_ne.mpr c5
   have c5b1:(a1_0 != 24)=true:=bne_iff_ne.mpr c5
   obtain rfl:=Option.some.inj H
   go_enter Try.func36,Try.ntmps36
   go_wp2_with (first|((with_reducible refine gtD (N:=3) rfl ?_);refine bxE ?hg (N:=3) ?hd (cs:=#[.int .i64 a1_0,.int .i64 a1_1,.int .i64 a1_2,.int .i64 a1_3,.int .i64 a1_4]) (t:=54) ?hr ?_;(case hd=>rfl);(case hg=>rfl);(case hr=>first|(go_simp;done)|(go_simp;rfl));intro gb237 hg w25 hbox hb;have n0_:=As0.mk (Kd.RbW (by (with_reducible repeat (first|apply Kd.R_alloc|apply Kd.RdN|apply Kd.RdW));exact HO0.out) hb);have n1_:=As0.mk (Kept.below (S:=(fun k_=>P0_ k_)) (by repeat (first|(with_reducible first|exact HK.out|apply Kept.alloc|apply Kept.drewN|apply Kept.drew)|exact HK.out)) hb);have n2_:=As0.mk (bdT (by repeat (first|(with_reducible first|exact HB.out|apply bdA|apply bdN|apply bd1)|exact HB.out)) hb);have n3_:=As0.mk (hbox);have n4_:=As0.mk ((by rw [hg];exact (by first|exact HK.out.1|exact (show Kept w _ (fun k_=>P0_ k_) from by repeat (first|(with_reducible first|exact HK.out|apply Kept.alloc|apply Kept.drewN|apply Kept.drew)|exact HK.out)).1):w.heap.size≤gb237));have n5_:=As0.mk ((by rw [hg];exact (bdZ (by repeat (first|(with_reducible first|exact HB.out|apply bdA|apply bdN|apply bd1)|exact HB.out))):w0.heap.size≤gb237));clear HO0;clear HK;clear HB;have HO0:=n0_;have HK:=n1_;have HB:=n2_;have BK237:=n3_;have GW237:=n4_;have GE237:=n5_;clear n0_ n1_ n2_ n3_ n4_ n5_;clear hb hbox hg;have hcz26_0:w25.cell? ⟨gb237,0,none⟩=some (.int .i64 a1_0):=(bkC BK237.out 0).trans rfl;have hcz26_1:w25.cell? ⟨gb237,1,none⟩=some (.int .i64 a1_1):=(bkC BK237.out 1).trans rfl;have hcz26_2:w25.cell? ⟨gb237,2,none⟩=some (.int .i64 a1_2):=(bkC BK237.out 2).trans rfl;have hcz26_3:w25.cell? ⟨gb237,3,none⟩=some (.int .i64 a1_3):=(bkC BK237.out 3).trans rfl;have hcz26_4:w25.cell? ⟨gb237,4,none⟩=some (.int .i64 a1_4):=(bkC BK237.out 4).trans rfl;have hfz26_0:=bkF BK237.out 0;have hfz26_1:=bkF BK237.out 1;have hfz26_2:=bkF BK237.out 2;have hfz26_3:=bkF BK237.out 3;have hfz26_4:=bkF BK237.out 4)|((with_reducible refine gtD (N:=23) rfl ?_);refine Kd.R_lit (Kd.int .u8) _ 5 ?hg (N:=23) ?hd (xs:=([(a1_0) % 256,(Go.bits .or .i64 a1_1 (wrap64 (a1_2*16))) % 256,(a1_3) % 256,(a1_3 / 256) % 256]:List Int)) (inner:=[.int .u8 ((a1_0) % 256),.int .u8 ((Go.bits .or .i64 a1_1 (wrap64 (a1_2*16))) % 256),.int .u8 ((a1_3) % 256),.int .u8 ((a1_3 / 256) % 256)]) (ok:=fun _=>True) (okp:=fun _=>True) ?hr ?hp (fun _ hk=>hk) trivial (Below.refl _ _) (Nat.le_refl _) (by simp) ?_;(case hd=>rfl);(case hg=>rfl);(case hr=>first|(go_simp;done)|(go_simp;rfl));(case hp=>exact (Reps.one (show Kd.M (Kd.int .u8) _ _ _ ((a1_0) % 256) [.int .u8 ((a1_0) % 256)] from rfl) (Reps.one (show Kd.M (Kd.int .u8) _ _ _ ((Go.bits .or .i64 a1_1 (wrap64 (a1_2*16))) % 256) [.int .u8 ((Go.bits .or .i64 a1_1 (wrap64 (a1_2*16))) % 256)] from rfl) (Reps.one (show Kd.M (Kd.int .u8) _ _ _ ((a1_3) % 256) [.int .u8 ((a1_3) % 256)] from rfl) (Reps.one (show Kd.M (Kd.int .u8) _ _ _ ((a1_3 / 256) % 256) [.int .u8 ((a1_3 / 256) % 256)] from rfl) (Reps.none _ _))))));intro v239 w27 ho28 hb hg_ hnew_;clear hg_ hnew_;(first|rw [← Ny238.out] at ho28|(simp only [Int.reduceToNat] at ho28;rw [← Ny238.out] at ho28));have n0_:=As0.mk (Kd.R_elder' (by (with_reducible repeat (first|apply Kd.R_alloc|apply Kd.RdN|apply Kd.RdW));exact HO0.out) (Kd.R_base ho28) hb);have n1_:=As0.mk (Kd.R_lower (Kd.R_new' (Kd.R_newM (M:=fun k_=>(P0_ k_∨w.heap.size≤k_)) ho28 (by first|exact HK.out.1|exact (show Kept w _ (fun k_=>P0_ k_) from by repeat (first|(with_reducible first|exact HK.out|apply Kept.alloc|apply Kept.drewN|apply Kept.drew|refine Kept.setCell ?_ (.inr GW237.out) _)|exact HK.out)).1) (fun k_ h_=>.inr h_)) (Kd.R_lt (by (with_reducible repeat (first|apply Kd.R_alloc|apply Kd.RdN|apply Kd.RdW));exact HO0.out))) (bdZ (by repeat (first|(with_reducible first|exact HB.out|apply bdA|apply bdN|apply bd1|refine bdS ?_ GE237.out)|exact HB.out))));have n2_:=As0.mk (bkB (g:=gb237) (o:=.cells #[.int .i64 a1_0,.int .i64 a1_1,.int .i64 a1_2,.int .i64 a1_3,.int .i64 a1_4] 54 (0,0)) (by (with_reducible repeat (first|refine bkN ?_ _|refine bkD ?_|refine bkA ?_ _));exact BK237.out) hb);have n3_:=As0.mk (Kept.below (S:=(fun k_=>P0_ k_)) (by repeat (first|(with_reducible first|exact HK.out|apply Kept.alloc|apply Kept.drewN|apply Kept.drew|refine Kept.setCell ?_ (.inr GW237.out) _)|exact HK.out)) hb);have n4_:=As0.mk (bdT (by repeat (first|(with_reducible first|exact HB.out|apply bdA|apply bdN|apply bd1|refine bdS ?_ GE237.out)|exact HB.out)) hb);clear HO0;clear BK237;clear HK;clear HB;have HO0:=n0_;have HO240:=n1_;have BK237:=n2_;have HK:=n3_;have HB:=n4_;clear n0_ n1_ n2_ n3_ n4_;clear hb ho28;obtain ⟨Ao30,co30,eo30⟩:=Kd.R_slice HO240.out;subst eo30)|((with_reducible refine gate_builtin (b:=.append) (xs:=#[.tmp 5,.tmp 23]) rfl ?_);at_builtin;refine Kd.R_append_rows (Kd.int .u8) (w0:=w0) w0.heap.size rfl (.tmp 5) (.tmp 23) 33 5 (.int .u8 0) 1 rfl Try.underlying33 info5 rfl (by decide) (by omega) u9000_ l0 y238 _ _ _ (fun k_=>(P0_ k_∨w.heap.size≤k_)∧some k_≠(.slice Ao30 y238.length co30:Value).ownBlock) (fun _=>False) rfl rfl ?aO ?aR (fun _ _ h=>h) (fun _ h=>h.elim) ?aF ?aB ?aS ?aL ?_;(case aR=>repeat (first|exact (Kd.R_reads' HO240.out).2.2|(with_reducible refine Kd.C_alloc ?_ _)|(with_reducible refine Kd.C_drewN ?_ _)|(with_reducible refine Kd.C_drew ?_)));(case aB=>exact (by repeat (first|(with_reducible first|exact HB.out|apply bdA|apply bdN|apply bd1|refine bdS ?_ GE237.out)|exact HB.out)));(case aF=>exact (fun k_ hk=>⟨(.inr (Nat.le_trans (by first|exact HK.out.1|exact (show Kept w _ (fun k_=>P0_ k_) from by repeat (first|(with_reducible first|exact HK.out|apply Kept.alloc|apply Kept.drewN|apply Kept.drew|refine Kept.setCell ?_ (.inr GW237.out) _)|exact HK.out)).1) hk)),Kd.fresh' (Kd.R_lt (by (with_reducible repeat (first|apply Kd.R_alloc|apply Kd.RdN|apply Kd.RdW));exact HO240.out)) k_ hk⟩));(case aO=>exact (by (with_reducible repeat (first|apply Kd.R_alloc|apply Kd.RdN|apply Kd.RdW));exact HO0.out));(case aS=>exact (bdZ (by repeat (first|(with_reducible first|exact HB.out|apply bdA|apply bdN|apply bd1|refine bdS ?_ GE237.out)|exact HB.out))));(case aL=>have:=LMc3.out;omega);intro v242 w29 ho hb hg hat;rw [← Ny241.out] at ho;have n0_:=As0.mk (blk_grown (g:=gb237) (o:=.cells #[.int .i64 a1_0,.int .i64 a1_1,.int .i64 a1_2,.int .i64 a1_3,.int .i64 a1_4] 54 (0,0)) (by (with_reducible repeat (first|refine bkN ?_ _|refine bkD ?_|refine bkA ?_ _));exact BK237.out) hg (Kd.R_ne HO0.out BK237.out (by decide)));have n1_:=As0.mk (Kd.R_after (ok:=(fun k_=>(P0_ k_∨w.heap.size≤k_))) (by (with_reducible repeat (first|apply Kd.R_alloc|apply Kd.RdN|apply Kd.RdW));exact Kd.R_mono HO240.out (fun _ hk=>⟨hk.1.1,hk.2⟩)) hg hat);have n2_:=As0.mk (hb);have n3_:=As0.mk (Kept.of_grown (S:=(fun k_=>P0_ k_)) hg (by repeat (first|(with_reducible first|exact HK.out|apply Kept.alloc|apply Kept.drewN|apply Kept.drew|refine Kept.setCell ?_ (.inr GW237.out) _)|exact HK.out)) (fun k_ e_=>(HO0.out.1 k_ e_).1));have n4_:=As0.mk (ho);clear BK237;clear HO240;clear HB;clear HK;clear HO0;have BK237:=n0_;have HO240:=n1_;have HB:=n2_;have HK:=n3_;have HO243:=n4_;clear n0_ n1_ n2_ n3_ n4_;clear ho hb hg hat;have hcz31_0:w29.cell? ⟨gb237,0,none⟩=some (.int .i64 a1_0):=(bkC BK237.out 0).trans rfl;have hcz31_1:w29.cell? ⟨gb237,1,none⟩=some (.int .i64 a1_1):=(bkC BK237.out 1).trans rfl;have hcz31_2:w29.cell? ⟨gb237,2,none⟩=some (.int .i64 a1_2):=(bkC BK237.out 2).trans rfl;have hcz31_3:w29.cell? ⟨gb237,3,none⟩=some (.int .i64 a1_3):=(bkC BK237.out 3).trans rfl;have hcz31_4:w29.cell? ⟨gb237,4,none⟩=some (.int .i64 a1_4):=(bkC BK237.out 4).trans rfl;have hfz31_0:=bkF BK237.out 0;have hfz31_1:=bkF BK237.out 1;have hfz31_2:=bkF BK237.out 2;have hfz31_3:=bkF BK237.out 3;have hfz31_4:=bkF BK237.out 4)|((with_reducible refine gtD (N:=28) rfl ?_);refine Kd.R_lit (Kd.int .i64) _ 3 ?hg (N:=28) ?hd (xs:=([a1_4]:List Int)) (inner:=[.int .i64 a1_4]) (ok:=fun _=>True) (okp:=fun _=>True) ?hr ?hp (fun _ hk=>hk) trivial (Below.refl _ _) (Nat.le_refl _) (by simp) ?_;(case hd=>rfl);(case hg=>rfl);(case hr=>first|(go_simp;done)|(go_simp;rfl));(case hp=>exact (Reps.one (show Kd.M (Kd.int .i64) _ _ _ a1_4 [.int .i64 a1_4] from rfl) (Reps.none _ _)));intro v245 w32 ho33 hb hg_ hnew_;clear hg_ hnew_;(first|rw [← Ny244.out] at ho33|(simp only [Int.reduceToNat] at ho33;rw [← Ny244.out] at ho33));have n0_:=As0.mk (Kd.RbW (by (with_reducible repeat (first|apply Kd.R_alloc|apply Kd.RdN|apply Kd.RdW));exact HO240.out) hb);have n1_:=As0.mk (Kd.RbW (by (with_reducible repeat (first|apply Kd.R_alloc|apply Kd.RdN|apply Kd.RdW));exact HO243.out) hb);have n2_:=As0.mk (Kd.R_lower (Kd.R_newM (M:=fun k_=>(P0_ k_∨w.heap.size≤k_)) ho33 (by first|exact HK.out.1|exact (show Kept w _ (fun k_=>P0_ k_) from by repeat (first|(with_reducible first|exact HK.out|apply Kept.alloc|apply Kept.drewN|apply Kept.drew|refine Kept.setCell ?_ (.inr GW237.out) _)|exact HK.out)).1) (fun k_ h_=>.inr h_)) (bdZ (by repeat (first|(with_reducible first|exact HB.out|apply bdA|apply bdN|apply bd1|refine bdS ?_ GE237.out)|exact HB.out))));have n3_:=As0.mk (bkB (g:=gb237) (o:=.cells #[.int .i64 a1_0,.int .i64 a1_1,.int .i64 a1_2,.int .i64 a1_3,.int .i64 a1_4] 54 (0,0)) (by (with_reducible repeat (first|refine bkN ?_ _|refine bkD ?_|refine bkA ?_ _));exact BK237.out) hb);have n4_:=As0.mk (Kept.below (S:=(fun k_=>P0_ k_)) (by repeat (first|(with_reducible first|exact HK.out|apply Kept.alloc|apply Kept.drewN|apply Kept.drew|refine Kept.setCell ?_ (.inr GW237.out) _)|exact HK.out)) hb);have n5_:=As0.mk (bdT (by repeat (first|(with_reducible first|exact HB.out|apply bdA|apply bdN|apply bd1|refine bdS ?_ GE237.out)|exact HB.out)) hb);clear HO240;clear HO243;clear BK237;clear HK;clear HB;have HO240:=n0_;have HO243:=n1_;have HO246:=n2_;have BK237:=n3_;have HK:=n4_;have HB:=n5_;clear n0_ n1_ n2_ n3_ n4_ n5_;clear hb ho33;obtain ⟨Ao34,co34,eo34⟩:=Kd.R_slice HO243.out;subst eo34;obtain ⟨Ao35,co35,eo35⟩:=Kd.R_slice HO246.out;subst eo35)|((with_reducible refine gate_callee (f:=39) rfl ?_);refine goesL_ (some 29) rfl rfl Try.func39 (by kernel_rfl) rfl #[.slice Ao34 y241.length co34,.slice Ao35 y244.length co35] rfl (by (try simp only [List.map_toArray,List.map_cons,List.map_nil]);first|done|rfl|(simp only [List.length_drop,List.length_take];rfl)) ?_;(with_reducible refine (image_laid.calls k (fun k_=>some k_=(.slice Ao34 y241.length co34:Value).ownBlock) (.slice Ao34 y241.length co34) y241 _ _ y244 t247 w0 _ ?side1 ?side2 ?side3 ?side4 A4.out).mono ?_);(case side1=>repeat (first|(with_reducible first|exact HB.out|apply bdA|apply bdN|apply bd1|refine bdS ?_ GE237.out)|exact HB.out));(case side2=>exact Kd.R_tight rfl HO243.out);(case side3=>exact Kd.C_kept_own ((Kd.R_apart' HO246.out (Kd.R_typed HO243.out) (by decide))) (fun k_ hk_ hs_=>(hk_.2) hs_));(case side4=>exact (Kd.R_reads' HO246.out).2.1);rintro e w36 ⟨v248,rfl,ho0,hb,hkp⟩;refine ⟨_,rfl,?_⟩;have n0_:=As0.mk (bkK (by (with_reducible repeat (first|refine bkN ?_ _|refine bkD ?_|refine bkA ?_ _));exact BK237.out) hkp (fun hs_=>(fun e_=>(Kd.R_ne HO243.out BK237.out (by decide)) e_) hs_));have n1_:=As0.mk (Kd.R_mono (ok':=fun k_=>(P0_ k_∨w.heap.size≤k_)∧some k_≠(v248:Value).ownBlock) (Kd.R_keptB (HO240.out) hkp (fun k_ hk_ hs_=>(hk_.2) hs_)) (fun k_ hk_=>⟨hk_.1.1,fun e_=>Or.elim (ho0.1 k_ e_.symm) (fun hs_=>hk_.2.1 hs_) (fun hn_=>Nat.not_le.2 hk_.2.2 hn_)⟩));have n2_:=As0.mk (Kd.R_mono (ok':=fun k_=>(P0_ k_∨w.heap.size≤k_)) (Kd.R_keptB ((Kd.R_apart' HO246.out (Kd.R_typed HO243.out) (by decide))) hkp (fun k_ hk_ hs_=>(hk_.2) hs_)) (fun k_ hk_=>hk_.1.1.1));have n3_:=As0.mk (Kd.R_mono (ok':=fun k_=>(P0_ k_∨w.heap.size≤k_)∧some k_≠(.slice Ao30 y238.length co30:Value).ownBlock) ho0 (fun k_ hk_=>⟨Or.elim hk_ (fun hs_=>(HO243.out.1 k_ (hs_).symm).1) (fun hn_=>(.inr (Nat.le_trans (by first|exact HK.out.1|exact (show Kept w _ (fun k_=>P0_ k_) from by repeat (first|(with_reducible first|exact HK.out|apply Kept.alloc|apply Kept.drewN|apply Kept.drew|refine Kept.setCell ?_ (.inr GW237.out) _)|exact HK.out)).1) hn_))),Or.elim hk_ (fun hs_=>fun e_=>(((HO240.out).1 k_ e_.symm).2) hs_) (fun hn_=>(Kd.fresh' (Kd.R_lt (by (with_reducible repeat (first|apply Kd.R_alloc|apply Kd.RdN|apply Kd.RdW));exact HO240.out)) k_ hn_))⟩));have n4_:=As0.mk (Kept.then_ (S:=(fun k_=>P0_ k_)) (by repeat (first|(with_reducible first|exact HK.out|apply Kept.alloc|apply Kept.drewN|apply Kept.drew|refine Kept.setCell ?_ (.inr GW237.out) _)|exact HK.out)) hkp (fun k_ hs_=>(fun e_=>(HO243.out.1 k_ e_.symm).1) hs_));have n5_:=As0.mk (hb);clear BK237;clear HO240;clear HO246;clear HK;clear HB;clear HO243;have BK237:=n0_;have HO240:=n1_;have HO246:=n2_;have HO249:=n3_;have HK:=n4_;have HB:=n5_;clear n0_ n1_ n2_ n3_ n4_ n5_;(try clear hb);(try clear hkp);(try clear ho0);have hcz37_0:w36.cell? ⟨gb237,0,none⟩=some (.int .i64 a1_0):=(bkC BK237.out 0).trans rfl;have hcz37_1:w36.cell? ⟨gb237,1,none⟩=some (.int .i64 a1_1):=(bkC BK237.out 1).trans rfl;have hcz37_2:w36.cell? ⟨gb237,2,none⟩=some (.int .i64 a1_2):=(bkC BK237.out 2).trans rfl;have hcz37_3:w36.cell? ⟨gb237,3,none⟩=some (.int .i64 a1_3):=(bkC BK237.out 3).trans rfl;have hcz37_4:w36.cell? ⟨gb237,4,none⟩=some (.int .i64 a1_4):=(bkC BK237.out 4).trans rfl;have hfz37_0:=bkF BK237.out 0;have hfz37_1:=bkF BK237.out 1;have hfz37_2:=bkF BK237.out 2;have hfz37_3:=bkF BK237.out 3;have hfz37_4:=bkF BK237.out 4))
   go_ret
   exact ⟨_,by first|rfl|(simp [errW_none,errW_some] <;> rfl)|(simp [*,errW_none,errW_some] <;> rfl),by (with_reducible repeat (first|apply Kd.R_alloc|apply Kd.RdN|apply Kd.RdW));exact Kd.R_mono HO249.out (fun _ hk=>hk.1),by repeat (first|(with_reducible first|exact HB.out|apply bdA|apply bdN|apply bd1|refine bdS ?_ GE237.out)|exact HB.out),by repeat (first|(with_reducible first|exact HK.out|apply Kept.alloc|apply Kept.drewN|apply Kept.drew|refine Kept.setCell ?_ (.inr GW237.out) _)|exact HK.out)⟩
 ·rw [if_neg c3] at H
  exact absurd H (by simp)
def spindlelaw17_one.f :Option ((List (S54)) × (List (S68)) × (List (S56)) × Int):=some ((([(⟨149,0,0,0,0⟩:S54)]:List (S54))),(([(⟨(⟨#[102]⟩:ByteArray),0,0,1⟩:S68)]:List (S68))),([]:List (S56)),0)
theorem spindlelaw17_one.calls  (r1:List (S54)) (r2:List (S68)) (r3:List (S56)) (r4:Int) (w:World) (h:spindlelaw17_one.f  = some (r1,r2,r3,r4)) :
  Calls Try.prog 24 #[] w fun e w'=>∃ v0_ v1_ v2_:Value,e=.returned (.agg #[v0_,v1_,v2_,.int .i64 r4])∧Kd.R k54 54 w' w.heap.size (fun _=>True) v0_ r1∧Kd.R k68 68 w' w.heap.size (fun _=>True) v1_ r2∧Kd.R k56 56 w' w.heap.size (fun _=>True) v2_ r3∧Below w.heap.size w w':=by
 have hu26:=Try.underlying26
 have hu54:=Try.underlying54
 have hu68:=Try.underlying68
 have HB:=As0.mk (Below.refl w.heap.size w)
 have H:(some ((([(⟨149,0,0,0,0⟩:S54)]:List (S54))),(([(⟨(⟨#[102]⟩:ByteArray),0,0,1⟩:S68)]:List (S68))),([]:List (S56)),0))=some (r1,r2,r3,r4):=h
 clear h
 obtain ⟨y261,hy261⟩:∃ y_:List (S54),y_=(([(⟨149,0,0,0,0⟩:S54)]:List (S54))):=⟨_,rfl⟩
 replace H:(some (y261,(([(⟨(⟨#[102]⟩:ByteArray),0,0,1⟩:S68)]:List (S68))),([]:List (S56)),0))=some (r1,r2,r3,r4):=by first|(rw [hy261];with_reducible exact H)|(have H2_:=(Option.bind_some _ _).symm.trans H;rw [hy261];with_reducible exact H2_)|(have H2_:=(Option.bind_some _ _).symm.trans H;with_reducible exact H2_)|with_reducible exact H|(rw [hy261];exact H)|exact H
 have Ny261:=As0.mk hy261
 clear hy261
 obtain ⟨y264,hy264⟩:∃ y_:List (S68),y_=(([(⟨(⟨#[102]⟩:ByteArray),0,0,1⟩:S68)]:List (S68))):=⟨_,rfl⟩
 replace H:(some (y261,y264,([]:List (S56)),0))=some (r1,r2,r3,r4):=by first|(rw [hy264];with_reducible exact H)|(have H2_:=(Option.bind_some _ _).symm.trans H;rw [hy264];with_reducible exact H2_)|(have H2_:=(Option.bind_some _ _).symm.trans H;with_reducible exact H2_)|with_reducible exact H|(rw [hy264];exact H)|exact H
 have Ny264:=As0.mk hy264
 clear hy264
 simp only [Option.some.injEq,Prod.mk.injEq] at H
 obtain ⟨rfl,rfl,rfl,rfl⟩:=H
 go_enter Try.func24,Try.ntmps24
 go_wp2_with (first|((with_reducible refine gtD (N:=0) rfl ?_);refine bxE ?hg (N:=0) ?hd (cs:=#[.slice none 0 0,.slice none 0 0,.slice none 0 0,.int .i64 0]) (t:=26) ?hr ?_;(case hd=>rfl);(case hg=>rfl);(case hr=>first|(go_simp;done)|(go_simp;rfl));intro gb260 hg w1 hbox hb;have n0_:=As0.mk (bdT (by repeat (first|(with_reducible first|exact HB.out|apply bdA|apply bdN|apply bd1)|exact HB.out)) hb);have n1_:=As0.mk (hbox);have n2_:=As0.mk ((by rw [hg];exact (bdZ (by repeat (first|(with_reducible first|exact HB.out|apply bdA|apply bdN|apply bd1)|exact HB.out))):w.heap.size≤gb260));have n3_:=As0.mk ((by rw [hg];exact (bdZ (by repeat (first|(with_reducible first|exact HB.out|apply bdA|apply bdN|apply bd1)|exact HB.out))):w.heap.size≤gb260));clear HB;have HB:=n0_;have BK260:=n1_;have GW260:=n2_;have GE260:=n3_;clear n0_ n1_ n2_ n3_;clear hb hbox hg)|((with_reducible refine gtD (N:=2) rfl ?_);refine Kd.R_lit k54 _ 54 ?hg (N:=2) ?hd (xs:=([(⟨149,0,0,0,0⟩:S54)]:List (S54))) (inner:=[.int .i64 149,.int .i64 0,.int .i64 0,.int .i64 0,.int .i64 0]) (ok:=fun _=>True) (okp:=fun _=>True) ?hr ?hp (fun _ hk=>hk) trivial (Below.refl _ _) (Nat.le_refl _) (by simp) ?_;(case hd=>rfl);(case hg=>rfl);(case hr=>first|(go_simp;done)|(go_simp;rfl));(case hp=>exact (Reps.c5 (show Kd.M k54 _ _ _ (⟨149,0,0,0,0⟩:S54) [.int .i64 149,.int .i64 0,.int .i64 0,.int .i64 0,.int .i64 0] from (k54_mkM _ _ _ (⟨149,0,0,0,0⟩:S54) )) (Reps.none _ _)));intro v262 w2 ho3 hb hg_ hnew_;clear hg_ hnew_;(first|rw [← Ny261.out] at ho3|(simp only [Int.reduceToNat] at ho3;rw [← Ny261.out] at ho3));have n0_:=As0.mk (Kd.R_lower ho3 (bdZ (by repeat (first|(with_reducible first|exact HB.out|apply bdA|apply bdN|apply bd1|refine bdS ?_ GE260.out)|exact HB.out))));have n1_:=As0.mk (bkB (g:=gb260) (o:=.cells #[.slice none 0 0,.slice none 0 0,.slice none 0 0,.int .i64 0] 26 (0,0)) (by (with_reducible repeat (first|refine bkN ?_ _|refine bkD ?_|refine bkA ?_ _));exact BK260.out) hb);have n2_:=As0.mk (bdT (by repeat (first|(with_reducible first|exact HB.out|apply bdA|apply bdN|apply bd1|refine bdS ?_ GE260.out)|exact HB.out)) hb);clear BK260;clear HB;have HO263:=n0_;have BK260:=n1_;have HB:=n2_;clear n0_ n1_ n2_;clear hb ho3)|((with_reducible refine gtD (N:=4) rfl ?_);refine Kd.R_lit k68 _ 68 ?hg (N:=4) ?hd (xs:=([(⟨(⟨#[102]⟩:ByteArray),0,0,1⟩:S68)]:List (S68))) (inner:=[.string (⟨#[102]⟩:ByteArray),.int .i64 0,.int .i64 0,.int .i64 1]) (ok:=fun _=>True) (okp:=fun _=>True) ?hr ?hp (fun _ hk=>hk) trivial (Below.refl _ _) (Nat.le_refl _) (by simp) ?_;(case hd=>rfl);(case hg=>rfl);(case hr=>first|(go_simp;done)|(go_simp;rfl));(case hp=>exact (Reps.c4 (show Kd.M k68 _ _ _ (⟨(⟨#[102]⟩:ByteArray),0,0,1⟩:S68) [.string (⟨#[102]⟩:ByteArray),.int .i64 0,.int .i64 0,.int .i64 1] from (k68_mkM _ _ _ (⟨(⟨#[102]⟩:ByteArray),0,0,1⟩:S68) )) (Reps.none _ _)));intro v265 w4 ho5 hb hg_ hnew_;clear hg_ hnew_;(first|rw [← Ny264.out] at ho5|(simp only [Int.reduceToNat] at ho5;rw [← Ny264.out] at ho5));have n0_:=As0.mk (Kd.RbW (by (with_reducible repeat (first|apply Kd.R_alloc|apply Kd.RdN|apply Kd.RdW));exact HO263.out) hb);have n1_:=As0.mk (Kd.R_lower ho5 (bdZ (by repeat (first|(with_reducible first|exact HB.out|apply bdA|apply bdN|apply bd1|refine bdS ?_ GE260.out)|exact HB.out))));have n2_:=As0.mk (bkB (g:=gb260) (o:=.cells #[.slice none 0 0,.slice none 0 0,.slice none 0 0,.int .i64 0] 26 (0,0)) (by (with_reducible repeat (first|refine bkN ?_ _|refine bkD ?_|refine bkA ?_ _));exact BK260.out) hb);have n3_:=As0.mk (bdT (by repeat (first|(with_reducible first|exact HB.out|apply bdA|apply bdN|apply bd1|refine bdS ?_ GE260.out)|exact HB.out)) hb);clear HO263;clear BK260;clear HB;have HO263:=n0_;have HO266:=n1_;have BK260:=n2_;have HB:=n3_;clear n0_ n1_ n2_ n3_;clear hb ho5;obtain ⟨Ao6,co6,eo6⟩:=Kd.R_slice HO266.out;subst eo6;obtain ⟨Ao7,co7,eo7⟩:=Kd.R_slice HO263.out;subst eo7;have hcz8_0:w4.cell? ⟨gb260,0,none⟩=some (.slice none 0 0):=(bkC BK260.out 0).trans rfl;have hcz8_1:w4.cell? ⟨gb260,1,none⟩=some (.slice none 0 0):=(bkC BK260.out 1).trans rfl;have hcz8_2:w4.cell? ⟨gb260,2,none⟩=some (.slice none 0 0):=(bkC BK260.out 2).trans rfl;have hcz8_3:w4.cell? ⟨gb260,3,none⟩=some (.int .i64 0):=(bkC BK260.out 3).trans rfl;have hfz8_0:=bkF BK260.out 0;have hfz8_1:=bkF BK260.out 1;have hfz8_2:=bkF BK260.out 2;have hfz8_3:=bkF BK260.out 3))
 refine bodyPost_ret (results_cell_row rfl _ _ gb260 26 #[.slice Ao7 y261.length co7,.slice Ao6 y264.length co6,.slice none 0 0,.int .i64 0] (0,0) _ rfl (by (with_reducible repeat (first|refine bkN ?_ _|refine bkD ?_|refine bkA ?_ _));refine bkP (cs:=#[.slice Ao7 y261.length co7,.slice Ao6 y264.length co6,.slice none 0 0,.int .i64 0]) ?_ 3 _ rfl;(with_reducible repeat (first|refine bkN ?_ _|refine bkD ?_|refine bkA ?_ _));refine bkP (cs:=#[.slice Ao7 y261.length co7,.slice Ao6 y264.length co6,.slice none 0 0,.int .i64 0]) ?_ 2 _ rfl;(with_reducible repeat (first|refine bkN ?_ _|refine bkD ?_|refine bkA ?_ _));refine bkP (cs:=#[.slice Ao7 y261.length co7,.slice none 0 0,.slice none 0 0,.int .i64 0]) ?_ 1 _ rfl;(with_reducible repeat (first|refine bkN ?_ _|refine bkD ?_|refine bkA ?_ _));refine bkP (cs:=#[.slice none 0 0,.slice none 0 0,.slice none 0 0,.int .i64 0]) ?_ 0 _ rfl;(with_reducible repeat (first|refine bkN ?_ _|refine bkD ?_|refine bkA ?_ _));exact BK260.out) Try.underlying26 rfl (by kernel_rfl)) rfl ?_
 exact ⟨_,_,_,by first|rfl|(simp [errW_none,errW_some] <;> rfl)|(simp [*,errW_none,errW_some] <;> rfl),by (with_reducible repeat (first|apply Kd.R_alloc|apply Kd.RdN|apply Kd.RdW));exact Kd.R_mono (Kd.R_far (p:=⟨gb260,3,none⟩) (Kd.R_far (p:=⟨gb260,2,none⟩) (Kd.R_far (p:=⟨gb260,1,none⟩) (Kd.R_far (p:=⟨gb260,0,none⟩) (Kd.R_types HO263.out BK260.out (by decide)) (fun _ hk=>hk.2) (.slice Ao7 y261.length co7)) (fun _ hk=>hk.2) (.slice Ao6 y264.length co6)) (fun _ hk=>hk.2) (.slice none 0 0)) (fun _ hk=>hk.2) (.int .i64 0)) (fun _ hk=>trivial),by (with_reducible repeat (first|apply Kd.R_alloc|apply Kd.RdN|apply Kd.RdW));exact Kd.R_mono (Kd.R_far (p:=⟨gb260,3,none⟩) (Kd.R_far (p:=⟨gb260,2,none⟩) (Kd.R_far (p:=⟨gb260,1,none⟩) (Kd.R_far (p:=⟨gb260,0,none⟩) (Kd.R_types HO266.out BK260.out (by decide)) (fun _ hk=>hk.2) (.slice Ao7 y261.length co7)) (fun _ hk=>hk.2) (.slice Ao6 y264.length co6)) (fun _ hk=>hk.2) (.slice none 0 0)) (fun _ hk=>hk.2) (.int .i64 0)) (fun _ hk=>trivial),by first|exact Kd.R_nil _ _ _ _ _|exact Kd.N_nil _ _ _ _ _|exact Kd.V_nil _ _ _ _ _|exact Kd.Q_nil _ _ _ _ _|exact Kd.S_nil _ _ _ _ _,by repeat (first|(with_reducible first|exact HB.out|apply bdA|apply bdN|apply bd1|refine bdS ?_ GE260.out)|exact HB.out)⟩
def spindlelaw0_SameBytes.f (l0:List Int) (l1:List Int):Option (Bool):=some ((strOfNums l0).toList == (strOfNums l1).toList)
theorem spindlelaw0_SameBytes.calls (A0:Option Addr) (c0:Nat) (l0:List Int) (A1:Option Addr) (c1:Nat) (l1:List Int) (r:Bool) (w:World) (hr0:Kd.C (Kd.int .u8) w A0 l0.length l0) (hc0:l0.length≤c0) (hr1:Kd.C (Kd.int .u8) w A1 l1.length l1) (hc1:l1.length≤c1) (h:spindlelaw0_SameBytes.f l0 l1=some r) :
  Calls Try.prog 18 #[.slice A0 l0.length c0,.slice A1 l1.length c1] w fun e w'=>e=.returned (.bool r)∧Drawn0 w w':=by
 have HR0:=As0.mk hr0
 have HC0:=As0.mk hc0
 clear hr0 hc0
 have HR1:=As0.mk hr1
 have HC1:=As0.mk hc1
 clear hr1 hc1
 have H:(some ((strOfNums l0).toList == (strOfNums l1).toList))=some r:=h
 clear h
 obtain rfl:=Option.some.inj H
 have hcv3:=Kd.C_string (P:=Try.prog) (A:=A0) (c:=c0) Try.underlying33 Try.underlying5 Try.underlying9 HR0.out
 have hcv4:=Kd.C_string (P:=Try.prog) (A:=A1) (c:=c1) Try.underlying33 Try.underlying5 Try.underlying9 HR1.out
 go_enter Try.func18,Try.ntmps18
 go_wp2
 go_ret
 exact ⟨by first|rfl|(simp;done)|(simp [*];done),by repeat (first|exact Drawn0.refl _|apply Drawn0.step)⟩
end Go.Proofs.Ytbeikcckcjadbaa.PI
end
section
namespace Go.Proofs.Ytbeikcckcjadbaa.PI
open Go.RowKit Go.Proofs.YtbeikcckcjadbaaW.PrintWords Go.Proofs.YtbeikcckcjadbaaW.PrintLast Go.Proofs.YtbeikcckcjadbaaW.PrintMore
attribute [local go_sem] isSome_setCell max2_int min2_int max_two min_two max_three min_three max_four min_four
def spindleref8_Named.l0:Nat→ByteArray→Int→Option (Bool)
 | 0,_,_=>none
 | k+1,x0,x3=>if x3<(x0.size:Int) then (if 0≤x3 then (if (bt x0 x3)=0 then (some false) else (spindleref8_Named.l0 k x0 (wrap64 (x3+1)))) else (none)) else (if (x0.size:Int)≥1 then (some (decide ((x0.size:Int)≤64))) else (some false))
def spindleref8_Named.f (k:Nat) (a0:ByteArray):Option (Bool):=spindleref8_Named.l0 k a0 0
theorem spindleref8_Named.calls (k:Nat) (a0:ByteArray) (r:Bool) (w:World) (h:spindleref8_Named.f k a0=some r) :
  Calls Try.prog 87 #[.string a0] w fun e w'=>e=.returned (.bool r)∧Drawn0 w w':=by
 have H:(spindleref8_Named.l0 k a0 0)=some r:=h
 clear h
 have H':=As0.mk H
 clear H
 go_enter Try.func87,Try.ntmps87
 go_wp2
 go_loopg [3] k (fun kq v3 w'=>∃ (x3_1:Int),v3=.int .i64 x3_1∧As0 (spindleref8_Named.l0 kq a0 x3_1=some r)∧As0 (kq≤k)∧Drawn0 w w')
 case atStart=>exact ⟨(0),(by first|rfl|(simp;done)|(simp [*];done)),H',⟨Nat.le_refl _⟩,by repeat (first|exact Drawn0.refl _|apply Drawn0.step)⟩
 case round =>
  clear H'
  obtain ⟨x3_1,rfl,HA,HK1,⟨m1,rfl⟩⟩:=hrel
  cases gk with
  | zero=>exact absurd HA.out (by simp [spindleref8_Named.l0])
  | succ k1 =>
   have H:=HA.out
   clear HA
   simp only [spindleref8_Named.l0] at H
   by_cases c2:x3_1<(a0.size:Int)
   ·rw [if_pos c2] at H
    have c2b0:decide (x3_1<(a0.size:Int))=true:=decide_eq_true c2
    clear c2
    by_cases c3:0≤x3_1
    ·rw [if_pos c3] at H
     have c3b0:decide (0≤x3_1)=true:=decide_eq_true c3
     clear c3
     by_cases c5:(bt a0 x3_1)=0
     ·rw [if_pos c5] at H
      have c5b0:((bt a0 x3_1) == 0)=true:=beq_iff_eq.mpr c5
      have c5b1:((bt a0 x3_1) != 0)=false:=bne_eq_false_iff_eq.mpr c5
      clear c5
      obtain rfl:=Option.some.inj H
      have p4:0≤(x3_1:Int):=of_decide_eq_true (by first|(with_reducible assumption)|assumption)
      have q4:x3_1<(a0.size:Int):=of_decide_eq_true (by first|(with_reducible assumption)|assumption)
      have hx4:=bt_at a0 x3_1
      replace p4:=eq_true p4
      replace q4:=eq_true q4
      go_wp2
      go_ret
      exact ⟨by first|rfl|(simp;done)|(simp [*];done),by repeat (first|exact Drawn0.refl _|apply Drawn0.step)⟩
     ·rw [if_neg c5] at H
      have c5b0:((bt a0 x3_1) == 0)=false:=beq_eq_false_iff_ne.mpr c5
      have c5b1:((bt a0 x3_1) != 0)=true:=bne_iff_ne.mpr c5
      have H':=As0.mk H
      clear H
      have p4:0≤(x3_1:Int):=of_decide_eq_true (by first|(with_reducible assumption)|assumption)
      have q4:x3_1<(a0.size:Int):=of_decide_eq_true (by first|(with_reducible assumption)|assumption)
      have hx4:=bt_at a0 x3_1
      replace p4:=eq_true p4
      replace q4:=eq_true q4
      go_wp2
      go_roundg k1
      case measure=>have:=HK1.out;omega
      case rel=>exact ⟨(wrap64 (x3_1+1)),(by first|rfl|(simp;done)|(simp [*];done)),H',⟨by have:=HK1.out;omega⟩,by repeat (first|exact Drawn0.refl _|apply Drawn0.step)⟩
    ·rw [if_neg c3] at H
     exact absurd H (by simp)
   ·rw [if_neg c2] at H
    have c2b0:decide (x3_1<(a0.size:Int))=false:=decide_eq_false c2
    clear c2
    by_cases c6:(a0.size:Int)≥1
    ·rw [if_pos c6] at H
     have c6b0:decide (1≤(a0.size:Int))=true:=decide_eq_true c6
     have c6b1:decide (1≤a0.size)=true:=decide_eq_true (by omega)
     clear c6
     obtain rfl:=Option.some.inj H
     go_wp2
     go_ret
     exact ⟨by first|rfl|(simp;done)|(simp [*];done),by repeat (first|exact Drawn0.refl _|apply Drawn0.step)⟩
    ·rw [if_neg c6] at H
     have c6b0:decide (1≤(a0.size:Int))=false:=decide_eq_false c6
     have c6b1:decide (1≤a0.size)=false:=decide_eq_false (by omega)
     clear c6
     obtain rfl:=Option.some.inj H
     go_wp2
     go_ret
     exact ⟨by first|rfl|(simp;done)|(simp [*];done),by repeat (first|exact Drawn0.refl _|apply Drawn0.step)⟩
def sr8p.l0:Nat→ByteArray→Int→Int→List ByteArray→Option (Int)
 | 0,_,_,_,_=>none
 | k+1,x1,x5,x6,x290000=>if x6<(x290000.length:Int) then (if 0≤x6 then (if (rdOf ByteArray.empty x290000 x6).toList=x1.toList then (some x5) else (sr8p.l0 k x1 (wrap64 ((wrap64 (x5+((rdOf ByteArray.empty x290000 x6).size:Int)))+1)) (wrap64 (x6+1)) x290000)) else (none)) else (some 0)
def sr8p.f (k:Nat) (l0_0:List ByteArray) (a1:ByteArray):Option (Int):=sr8p.l0 k a1 1 0 l0_0
theorem sr8p.calls (k:Nat) (A0_0:Option Addr) (c0_0:Nat) (l0_0:List ByteArray) (a1:ByteArray) (r:Int) (w:World) (hr0_0:Kd.C Kd.string w A0_0 l0_0.length l0_0) (hc0_0:l0_0.length≤c0_0) (h:sr8p.f k l0_0 a1=some r) :
  Calls Try.prog 88 #[.agg #[.slice A0_0 l0_0.length c0_0],.string a1] w fun e w'=>e=.returned (.int .i64 r)∧Below w.heap.size w w':=by
 have hu90:=Try.underlying90
 have HR0_0:=As0.mk hr0_0
 have HC0_0:=As0.mk hc0_0
 clear hr0_0 hc0_0
 have HB:=As0.mk (Below.refl w.heap.size w)
 have H:(sr8p.l0 k a1 1 0 l0_0)=some r:=h
 clear h
 have H':=As0.mk H
 clear H
 go_enter Try.func88,Try.ntmps88
 go_wp2_with (first|((with_reducible refine gtD (N:=2) rfl ?_);refine bxE ?hg (N:=2) ?hd (cs:=#[.slice A0_0 l0_0.length c0_0]) (t:=90) ?hr ?_;(case hd=>rfl);(case hg=>rfl);(case hr=>first|(go_simp;done)|(go_simp;rfl));intro gb289 hg w3 hbox hb;have n0_:=As0.mk (bdT (by repeat (first|(with_reducible first|exact HB.out|apply bdA|apply bdN|apply bd1)|exact HB.out)) hb);have n1_:=As0.mk (hbox);have n2_:=As0.mk ((by rw [hg];exact (bdZ (by repeat (first|(with_reducible first|exact HB.out|apply bdA|apply bdN|apply bd1)|exact HB.out))):w.heap.size≤gb289));have n3_:=As0.mk ((by rw [hg];exact (bdZ (by repeat (first|(with_reducible first|exact HB.out|apply bdA|apply bdN|apply bd1)|exact HB.out))):w.heap.size≤gb289));clear HB;have HB:=n0_;have BK289:=n1_;have GW289:=n2_;have GE289:=n3_;clear n0_ n1_ n2_ n3_;clear hb hbox hg))
 go_loopg [5,6] k (fun kq v5 v6 w'=>∃ (x5_1:Int) (x6_1:Int),v5=.int .i64 x5_1∧v6=.int .i64 x6_1∧As0 (sr8p.l0 kq a1 x5_1 x6_1 l0_0=some r)∧As0 (kq≤k)∧As0 (w'.heap[gb289]?=some (.cells #[(.slice A0_0 l0_0.length c0_0)] 90 (0,0)))∧As0 (Below w.heap.size w w'))
 case atStart=>exact ⟨(1),(0),(by first|rfl|(simp;done)|(simp [*];done)),(by first|rfl|(simp;done)|(simp [*];done)),H',⟨Nat.le_refl _⟩,⟨by (with_reducible repeat (first|refine bkN ?_ _|refine bkD ?_|refine bkA ?_ _));exact BK289.out⟩,⟨by repeat (first|(with_reducible first|exact HB.out|apply bdA|apply bdN|apply bd1|refine bdS ?_ GE289.out)|exact HB.out)⟩⟩
 case round =>
  clear H'
  try clear p2
  obtain ⟨x5_1,x6_1,rfl,rfl,HA,HK1,BK289,HB⟩:=hrel
  cases gk with
  | zero=>exact absurd HA.out (by simp [sr8p.l0])
  | succ k1 =>
   have H:=HA.out
   clear HA
   simp only [sr8p.l0] at H
   by_cases c4:x6_1<(l0_0.length:Int)
   ·rw [if_pos c4] at H
    have c4b0:decide (x6_1<(l0_0.length:Int))=true:=decide_eq_true c4
    clear c4
    by_cases c5:0≤x6_1
    ·rw [if_pos c5] at H
     have c5b0:decide (0≤x6_1)=true:=decide_eq_true c5
     clear c5
     by_cases c6:(rdOf ByteArray.empty l0_0 x6_1).toList=a1.toList
     ·rw [if_pos c6] at H
      have c6b0:((rdOf ByteArray.empty l0_0 x6_1).toList == a1.toList)=true:=beq_iff_eq.mpr c6
      have c6b1:((rdOf ByteArray.empty l0_0 x6_1).toList != a1.toList)=false:=bne_eq_false_iff_eq.mpr c6
      clear c6
      obtain rfl:=Option.some.inj H
      have hcz7_0:wr.cell? ⟨gb289,0,none⟩=some (.slice A0_0 l0_0.length c0_0):=(bkC BK289.out 0).trans rfl
      have hfz7_0:=bkF BK289.out 0
      have p290:0≤(x6_1:Int):=of_decide_eq_true (by first|(with_reducible assumption)|assumption)
      have q290:x6_1<(l0_0.length:Int):=of_decide_eq_true (by first|(with_reducible assumption)|assumption)
      obtain ⟨ad290,e290,hx290_0⟩:=Kd.at_string HR0_0.out x6_1 p290 q290
      cases e290
      replace hx290_0:=(HB.out.cell (World.block_lt_of_cell? w _ hx290_0)).trans hx290_0
      replace p290:=eq_true p290
      replace q290:=eq_true q290
      go_wp2
      go_ret
      exact ⟨by first|rfl|(simp [errW_none,errW_some] <;> rfl)|(simp [*,errW_none,errW_some] <;> rfl),by repeat (first|(with_reducible first|exact HB.out|apply bdA|apply bdN|apply bd1|refine bdS ?_ GE289.out)|exact HB.out)⟩
     ·rw [if_neg c6] at H
      have c6b0:((rdOf ByteArray.empty l0_0 x6_1).toList == a1.toList)=false:=beq_eq_false_iff_ne.mpr c6
      have c6b1:((rdOf ByteArray.empty l0_0 x6_1).toList != a1.toList)=true:=bne_iff_ne.mpr c6
      have H':=As0.mk H
      clear H
      have hcz8_0:wr.cell? ⟨gb289,0,none⟩=some (.slice A0_0 l0_0.length c0_0):=(bkC BK289.out 0).trans rfl
      have hfz8_0:=bkF BK289.out 0
      have p290:0≤(x6_1:Int):=of_decide_eq_true (by first|(with_reducible assumption)|assumption)
      have q290:x6_1<(l0_0.length:Int):=of_decide_eq_true (by first|(with_reducible assumption)|assumption)
      obtain ⟨ad290,e290,hx290_0⟩:=Kd.at_string HR0_0.out x6_1 p290 q290
      cases e290
      replace hx290_0:=(HB.out.cell (World.block_lt_of_cell? w _ hx290_0)).trans hx290_0
      replace p290:=eq_true p290
      replace q290:=eq_true q290
      have p291:0≤(x6_1:Int):=of_decide_eq_true (by first|(with_reducible assumption)|assumption)
      have q291:x6_1<(l0_0.length:Int):=of_decide_eq_true (by first|(with_reducible assumption)|assumption)
      obtain ⟨ad291,e291,hx291_0⟩:=Kd.at_string HR0_0.out x6_1 p291 q291
      obtain rfl:ad290=ad291:=(by injection e291)
      replace hx291_0:=(HB.out.cell (World.block_lt_of_cell? w _ hx291_0)).trans hx291_0
      replace p291:=eq_true p291
      replace q291:=eq_true q291
      go_wp2
      go_roundg k1
      case measure=>have:=HK1.out;omega
      case rel=>exact ⟨(wrap64 ((wrap64 (x5_1+((rdOf ByteArray.empty l0_0 x6_1).size:Int)))+1)),(wrap64 (x6_1+1)),(by first|rfl|(simp;done)|(simp [*];done)),(by first|rfl|(simp;done)|(simp [*];done)),H',⟨by have:=HK1.out;omega⟩,⟨by (with_reducible repeat (first|refine bkN ?_ _|refine bkD ?_|refine bkA ?_ _));exact BK289.out⟩,⟨by repeat (first|(with_reducible first|exact HB.out|apply bdA|apply bdN|apply bd1|refine bdS ?_ GE289.out)|exact HB.out)⟩⟩
    ·rw [if_neg c5] at H
     exact absurd H (by simp)
   ·rw [if_neg c4] at H
    have c4b0:decide (x6_1<(l0_0.length:Int))=false:=decide_eq_false c4
    clear c4
    obtain rfl:=Option.some.inj H
    have hcz9_0:wr.cell? ⟨gb289,0,none⟩=some (.slice A0_0 l0_0.length c0_0):=(bkC BK289.out 0).trans rfl
    have hfz9_0:=bkF BK289.out 0
    go_wp2
    go_ret
    exact ⟨by first|rfl|(simp [errW_none,errW_some] <;> rfl)|(simp [*,errW_none,errW_some] <;> rfl),by repeat (first|(with_reducible first|exact HB.out|apply bdA|apply bdN|apply bd1|refine bdS ?_ GE289.out)|exact HB.out)⟩
def sr8a.f (k:Nat) (l0_0:List ByteArray) (a1:ByteArray):Option (List ByteArray × Int × Int):=(spindleref8_Named.f k a1).bind fun t294=>(if t294=true then ((sr8p.f k l0_0 a1).bind fun t295=>(if t295 > 0 then (some (l0_0,t295,0)) else (if ([]:List ByteArray).length+l0_0.length<8796093022208 then ((some (([]:List ByteArray) ++ l0_0:List ByteArray)).bind fun y297=>(if y297.length<8796093022208 then ((some (y297 ++ [a1]:List ByteArray)).bind fun y300=>((sr8p.f k y300 a1).bind fun t303=>(some (y300,t303,0)))) else (none))) else (none)))) else (some (l0_0,0,81)))
theorem sr8a.calls (k:Nat) (P0_0_:Nat→Prop) (u9000_:Value) (l0_0:List ByteArray) (a1:ByteArray) (r1:List ByteArray) (r2:Int) (r3:Int) (w0 w:World) (hB:Below w0.heap.size w0 w) (ho0_0:Kd.R Kd.string 9 w w0.heap.size P0_0_ u9000_ l0_0) (h:sr8a.f k l0_0 a1=some (r1,r2,r3)) :
  Calls Try.prog 85 #[.agg #[u9000_],.string a1] w fun e w'=>∃ v0_:Value,e=.returned (.tuple #[.agg #[v0_],.int .i64 r2,.int .i64 r3])∧Kd.R Kd.string 9 w' w0.heap.size (fun k_=>(P0_0_ k_∨w.heap.size≤k_)) v0_ r1∧Below w0.heap.size w0 w'∧Kept w w' (fun k_=>P0_0_ k_):=by
 have hu90:=Try.underlying90
 have HO0_0:=As0.mk (show Kd.R Kd.string 9 w w0.heap.size (fun k_=>(P0_0_ k_∨w.heap.size≤k_)) u9000_ l0_0 from Kd.R_mono ho0_0 (fun k_ hk=>(.inl hk)))
 have HK:=As0.mk (Kept.refl w (fun k_=>P0_0_ k_))
 have HW0:=As0.mk hB.size
 have HB:=As0.mk hB
 clear hB
 have H:((spindleref8_Named.f k a1).bind fun t294=>(if t294=true then ((sr8p.f k l0_0 a1).bind fun t295=>(if t295 > 0 then (some (l0_0,t295,0)) else (if ([]:List ByteArray).length+l0_0.length<8796093022208 then ((some (([]:List ByteArray) ++ l0_0:List ByteArray)).bind fun y297=>(if y297.length<8796093022208 then ((some (y297 ++ [a1]:List ByteArray)).bind fun y300=>((sr8p.f k y300 a1).bind fun t303=>(some (y300,t303,0)))) else (none))) else (none)))) else (some (l0_0,0,81))))=some (r1,r2,r3):=h
 clear h
 replace H:=Option.bind_eq_some_iff.mp H
 obtain ⟨t294,A30,H⟩:=H
 replace H:(if t294=true then ((sr8p.f k l0_0 a1).bind fun t295=>(if t295 > 0 then (some (l0_0,t295,0)) else (if ([]:List ByteArray).length+l0_0.length<8796093022208 then ((some (([]:List ByteArray) ++ l0_0:List ByteArray)).bind fun y297=>(if y297.length<8796093022208 then ((some (y297 ++ [a1]:List ByteArray)).bind fun y300=>((sr8p.f k y300 a1).bind fun t303=>(some (y300,t303,0)))) else (none))) else (none)))) else (some (l0_0,0,81)))=some (r1,r2,r3):=H
 have A3:=As0.mk A30
 clear A30
 by_cases c4:t294=true
 ·subst c4
  have H1:((sr8p.f k l0_0 a1).bind fun t295=>(if t295 > 0 then (some (l0_0,t295,0)) else (if ([]:List ByteArray).length+l0_0.length<8796093022208 then ((some (([]:List ByteArray) ++ l0_0:List ByteArray)).bind fun y297=>(if y297.length<8796093022208 then ((some (y297 ++ [a1]:List ByteArray)).bind fun y300=>((sr8p.f k y300 a1).bind fun t303=>(some (y300,t303,0)))) else (none))) else (none))))=some (r1,r2,r3):=by rw [if_pos rfl] at H;exact H
  clear H
  have H:=H1
  clear H1
  replace H:=Option.bind_eq_some_iff.mp H
  obtain ⟨t295,A50,H⟩:=H
  replace H:(if t295 > 0 then (some (l0_0,t295,0)) else (if ([]:List ByteArray).length+l0_0.length<8796093022208 then ((some (([]:List ByteArray) ++ l0_0:List ByteArray)).bind fun y297=>(if y297.length<8796093022208 then ((some (y297 ++ [a1]:List ByteArray)).bind fun y300=>((sr8p.f k y300 a1).bind fun t303=>(some (y300,t303,0)))) else (none))) else (none)))=some (r1,r2,r3):=H
  have A5:=As0.mk A50
  clear A50
  by_cases c6:t295 > 0
  ·rw [if_pos c6] at H
   have c6b0:decide (0<t295)=true:=decide_eq_true c6
   clear c6
   simp only [Option.some.injEq,Prod.mk.injEq] at H
   obtain ⟨rfl,rfl,rfl⟩:=H
   obtain ⟨Ao7,co7,eo7⟩:=Kd.R_slice HO0_0.out
   subst eo7
   go_enter Try.func85,Try.ntmps85
   go_wp2_with (first|((with_reducible refine gtD (N:=2) rfl ?_);refine bxE ?hg (N:=2) ?hd (cs:=#[.slice Ao7 l0_0.length co7]) (t:=90) ?hr ?_;(case hd=>rfl);(case hg=>rfl);(case hr=>first|(go_simp;done)|(go_simp;rfl));intro gb292 hg w8 hbox hb;have n0_:=As0.mk (Kd.RbW (by (with_reducible repeat (first|apply Kd.R_alloc|apply Kd.RdN|apply Kd.RdW));exact HO0_0.out) hb);have n1_:=As0.mk (Kept.below (S:=(fun k_=>P0_0_ k_)) (by repeat (first|(with_reducible first|exact HK.out|apply Kept.alloc|apply Kept.drewN|apply Kept.drew)|exact HK.out)) hb);have n2_:=As0.mk (bdT (by repeat (first|(with_reducible first|exact HB.out|apply bdA|apply bdN|apply bd1)|exact HB.out)) hb);have n3_:=As0.mk (hbox);have n4_:=As0.mk ((by rw [hg];exact (by first|exact HK.out.1|exact (show Kept w _ (fun k_=>P0_0_ k_) from by repeat (first|(with_reducible first|exact HK.out|apply Kept.alloc|apply Kept.drewN|apply Kept.drew)|exact HK.out)).1):w.heap.size≤gb292));have n5_:=As0.mk ((by rw [hg];exact (bdZ (by repeat (first|(with_reducible first|exact HB.out|apply bdA|apply bdN|apply bd1)|exact HB.out))):w0.heap.size≤gb292));clear HO0_0;clear HK;clear HB;have HO0_0:=n0_;have HK:=n1_;have HB:=n2_;have BK292:=n3_;have GW292:=n4_;have GE292:=n5_;clear n0_ n1_ n2_ n3_ n4_ n5_;clear hb hbox hg)|((with_reducible refine gtD (N:=4) rfl ?_);refine bxE ?hg (N:=4) ?hd (cs:=#[.slice none 0 0]) (t:=90) ?hr ?_;(case hd=>rfl);(case hg=>rfl);(case hr=>first|(go_simp;done)|(go_simp;rfl));intro gb293 hg w9 hbox hb;have n0_:=As0.mk (Kd.RbW (by (with_reducible repeat (first|apply Kd.R_alloc|apply Kd.RdN|apply Kd.RdW));exact HO0_0.out) hb);have n1_:=As0.mk (bkB (g:=gb292) (o:=.cells #[.slice Ao7 l0_0.length co7] 90 (0,0)) (by (with_reducible repeat (first|refine bkN ?_ _|refine bkD ?_|refine bkA ?_ _));exact BK292.out) hb);have n2_:=As0.mk (Kept.below (S:=(fun k_=>P0_0_ k_)) (by repeat (first|(with_reducible first|exact HK.out|apply Kept.alloc|apply Kept.drewN|apply Kept.drew|refine Kept.setCell ?_ (.inr GW292.out) _)|exact HK.out)) hb);have n3_:=As0.mk (bdT (by repeat (first|(with_reducible first|exact HB.out|apply bdA|apply bdN|apply bd1|refine bdS ?_ GE292.out)|exact HB.out)) hb);have n4_:=As0.mk (hbox);have n5_:=As0.mk ((by rw [hg];exact (by first|exact HK.out.1|exact (show Kept w _ (fun k_=>P0_0_ k_) from by repeat (first|(with_reducible first|exact HK.out|apply Kept.alloc|apply Kept.drewN|apply Kept.drew|refine Kept.setCell ?_ (.inr GW292.out) _)|exact HK.out)).1):w.heap.size≤gb293));have n6_:=As0.mk ((by rw [hg];exact (bdZ (by repeat (first|(with_reducible first|exact HB.out|apply bdA|apply bdN|apply bd1|refine bdS ?_ GE292.out)|exact HB.out))):w0.heap.size≤gb293));have n7_:=As0.mk ((by rw [hg];exact Nat.ne_of_lt (blk_lt (g:=gb292) (o:=.cells #[.slice Ao7 l0_0.length co7] 90 (0,0)) (by (with_reducible repeat (first|refine bkN ?_ _|refine bkD ?_|refine bkA ?_ _));exact BK292.out)):gb292≠gb293));have n8_:=As0.mk ((by rw [hg];exact Nat.ne_of_gt (blk_lt (g:=gb292) (o:=.cells #[.slice Ao7 l0_0.length co7] 90 (0,0)) (by (with_reducible repeat (first|refine bkN ?_ _|refine bkD ?_|refine bkA ?_ _));exact BK292.out)):gb293≠gb292));clear HO0_0;clear BK292;clear HK;clear HB;have HO0_0:=n0_;have BK292:=n1_;have HK:=n2_;have HB:=n3_;have BK293:=n4_;have GW293:=n5_;have GE293:=n6_;have NB292_293:=n7_;have NB293_292:=n8_;clear n0_ n1_ n2_ n3_ n4_ n5_ n6_ n7_ n8_;clear hb hbox hg)|((with_reducible refine gate_callee (f:=87) rfl ?_);refine goesL_ (some 11) rfl rfl Try.func87 (by kernel_rfl) rfl #[.string a1] rfl (by (try simp only [List.map_toArray,List.map_cons,List.map_nil]);first|done|rfl|(simp only [List.length_drop,List.length_take];rfl)) ?_;(with_reducible refine (spindleref8_Named.calls k a1 true _ A3.out).mono ?_);rintro e w' ⟨rfl,⟨nd,rfl⟩⟩;refine ⟨_,rfl,?_⟩;(try (rw [drewN_self w9];generalize hq_:World.drewN w9 _=w9;have n0_:As0 (Kd.R Kd.string 9 w9 w0.heap.size (fun k_=>(P0_0_ k_∨w.heap.size≤k_)) (.slice Ao7 l0_0.length co7) l0_0):=⟨by rw [← hq_];exact (by (with_reducible repeat (first|apply Kd.R_alloc|apply Kd.RdN|apply Kd.RdW));exact HO0_0.out)⟩;have n1_:As0 (w9.heap[gb292]?=some (.cells #[.slice Ao7 l0_0.length co7] 90 (0,0))):=⟨by rw [← hq_];exact (by (with_reducible repeat (first|refine bkN ?_ _|refine bkD ?_|refine bkA ?_ _));exact BK292.out)⟩;have n2_:As0 (w9.heap[gb293]?=some (.cells #[.slice none 0 0] 90 (0,0))):=⟨by rw [← hq_];exact (by (with_reducible repeat (first|refine bkN ?_ _|refine bkD ?_|refine bkA ?_ _));exact BK293.out)⟩;have n3_:As0 (Kept w w9 (fun k_=>P0_0_ k_)):=⟨by rw [← hq_];exact (by repeat (first|(with_reducible first|exact HK.out|apply Kept.alloc|apply Kept.drewN|apply Kept.drew|refine Kept.setCell ?_ (.inr GW292.out) _|refine Kept.setCell ?_ (.inr GW293.out) _)|exact HK.out))⟩;have n4_:As0 (Below w0.heap.size w0 w9):=⟨by rw [← hq_];exact (by repeat (first|(with_reducible first|exact HB.out|apply bdA|apply bdN|apply bd1|refine bdS ?_ GE292.out|refine bdS ?_ GE293.out)|exact HB.out))⟩;clear HO0_0 BK292 BK293 HK HB hq_;have HO0_0:=n0_;have BK292:=n1_;have BK293:=n2_;have HK:=n3_;have HB:=n4_;clear n0_ n1_ n2_ n3_ n4_));have hnb10:=NB292_293.out;have hnc10:=NB293_292.out;have hcz11_0:w9.cell? ⟨gb292,0,none⟩=some (.slice Ao7 l0_0.length co7):=(bkC BK292.out 0).trans rfl;have hfz11_0:=bkF BK292.out 0)|((with_reducible refine gate_callee (f:=88) rfl ?_);refine goesL_ (some 17) rfl rfl Try.func88 (by kernel_rfl) rfl #[.agg #[.slice Ao7 l0_0.length co7],.string a1] rfl (by (try simp only [List.map_toArray,List.map_cons,List.map_nil]);first|done|rfl|(simp only [List.length_drop,List.length_take];rfl)) ?_;(with_reducible refine (sr8p.calls k _ _ l0_0 a1 t295 _ ?side1 ?side2 A5.out).mono ?_);(case side1=>repeat (first|exact (Kd.R_reads' HO0_0.out).2.2|(with_reducible refine Kd.C_alloc ?_ _)|(with_reducible refine Kd.C_drewN ?_ _)|(with_reducible refine Kd.C_drew ?_)));(case side2=>exact (Kd.R_reads' HO0_0.out).2.1);rintro e w12 ⟨rfl,hb⟩;refine ⟨_,rfl,?_⟩;have n0_:=As0.mk (Kd.RbW (by (with_reducible repeat (first|apply Kd.R_alloc|apply Kd.RdN|apply Kd.RdW));exact HO0_0.out) hb);have n1_:=As0.mk (bkB (g:=gb292) (o:=.cells #[.slice Ao7 l0_0.length co7] 90 (0,0)) (by (with_reducible repeat (first|refine bkN ?_ _|refine bkD ?_|refine bkA ?_ _));exact BK292.out) hb);have n2_:=As0.mk (bkB (g:=gb293) (o:=.cells #[.slice none 0 0] 90 (0,0)) (by (with_reducible repeat (first|refine bkN ?_ _|refine bkD ?_|refine bkA ?_ _));exact BK293.out) hb);have n3_:=As0.mk (Kept.below (S:=(fun k_=>P0_0_ k_)) (by repeat (first|(with_reducible first|exact HK.out|apply Kept.alloc|apply Kept.drewN|apply Kept.drew|refine Kept.setCell ?_ (.inr GW292.out) _|refine Kept.setCell ?_ (.inr GW293.out) _)|exact HK.out)) hb);have n4_:=As0.mk (bdT (by repeat (first|(with_reducible first|exact HB.out|apply bdA|apply bdN|apply bd1|refine bdS ?_ GE292.out|refine bdS ?_ GE293.out)|exact HB.out)) hb);clear HO0_0;clear BK292;clear BK293;clear HK;clear HB;have HO0_0:=n0_;have BK292:=n1_;have BK293:=n2_;have HK:=n3_;have HB:=n4_;clear n0_ n1_ n2_ n3_ n4_;(try clear hb);(try clear hb2);(try clear hk);(try clear hi);have hcz13_0:w12.cell? ⟨gb292,0,none⟩=some (.slice Ao7 l0_0.length co7):=(bkC BK292.out 0).trans rfl;have hfz13_0:=bkF BK292.out 0;have hcz14_0:w12.cell? ⟨gb293,0,none⟩=some (.slice none 0 0):=(bkC BK293.out 0).trans rfl;have hfz14_0:=bkF BK293.out 0))
   refine bodyPost_ret (results_ctt rfl _ _ gb293 90 #[.slice Ao7 l0_0.length co7] (0,0) _ rfl (by (with_reducible repeat (first|refine bkN ?_ _|refine bkD ?_|refine bkA ?_ _));refine bkP (cs:=#[.slice none 0 0]) ?_ 0 _ rfl;(with_reducible repeat (first|refine bkN ?_ _|refine bkD ?_|refine bkA ?_ _));exact BK293.out) Try.underlying90 rfl (by kernel_rfl)) rfl ?_
   exact ⟨_,by first|rfl|(simp [errW_none,errW_some] <;> rfl)|(simp [*,errW_none,errW_some] <;> rfl),by (with_reducible repeat (first|apply Kd.R_alloc|apply Kd.RdN|apply Kd.RdW));exact Kd.R_mono (Kd.R_far (p:=⟨gb293,0,none⟩) (Kd.R_types HO0_0.out BK293.out (by decide)) (fun _ hk=>hk.2) (.slice Ao7 l0_0.length co7)) (fun _ hk=>hk.1),by repeat (first|(with_reducible first|exact HB.out|apply bdA|apply bdN|apply bd1|refine bdS ?_ GE292.out|refine bdS ?_ GE293.out)|exact HB.out),by repeat (first|(with_reducible first|exact HK.out|apply Kept.alloc|apply Kept.drewN|apply Kept.drew|refine Kept.setCell ?_ (.inr GW292.out) _|refine Kept.setCell ?_ (.inr GW293.out) _)|exact HK.out)⟩
  ·rw [if_neg c6] at H
   have c6b0:decide (0<t295)=false:=decide_eq_false c6
   clear c6
   by_cases c15:([]:List ByteArray).length+l0_0.length<8796093022208
   ·rw [if_pos c15] at H
    have LMc15:=As0.mk c15
    clear c15
    obtain ⟨y297,hy297⟩:∃ y_:List ByteArray,y_=(([]:List ByteArray) ++ l0_0):=⟨_,rfl⟩
    replace H:(if y297.length<8796093022208 then ((some (y297 ++ [a1]:List ByteArray)).bind fun y300=>((sr8p.f k y300 a1).bind fun t303=>(some (y300,t303,0)))) else (none))=some (r1,r2,r3):=by first|(rw [hy297];with_reducible exact H)|(have H2_:=(Option.bind_some _ _).symm.trans H;rw [hy297];with_reducible exact H2_)|(have H2_:=(Option.bind_some _ _).symm.trans H;with_reducible exact H2_)|with_reducible exact H|(rw [hy297];exact H)|exact H
    have Ny297:=As0.mk hy297
    clear hy297
    by_cases c16:y297.length<8796093022208
    ·rw [if_pos c16] at H
     have LMc16:=As0.mk c16
     clear c16
     obtain ⟨y300,hy300⟩:∃ y_:List ByteArray,y_=(y297 ++ [a1]):=⟨_,rfl⟩
     replace H:((sr8p.f k y300 a1).bind fun t303=>(some (y300,t303,0)))=some (r1,r2,r3):=by first|(rw [hy300];with_reducible exact H)|(have H2_:=(Option.bind_some _ _).symm.trans H;rw [hy300];with_reducible exact H2_)|(have H2_:=(Option.bind_some _ _).symm.trans H;with_reducible exact H2_)|with_reducible exact H|(rw [hy300];exact H)|exact H
     have Ny300:=As0.mk hy300
     clear hy300
     replace H:=Option.bind_eq_some_iff.mp H
     obtain ⟨t303,A170,H⟩:=H
     replace H:(some (y300,t303,0))=some (r1,r2,r3):=H
     have A17:=As0.mk A170
     clear A170
     simp only [Option.some.injEq,Prod.mk.injEq] at H
     obtain ⟨rfl,rfl,rfl⟩:=H
     obtain ⟨Ao18,co18,eo18⟩:=Kd.R_slice HO0_0.out
     subst eo18
     go_enter Try.func85,Try.ntmps85
     try go_wp2_with (first|((with_reducible refine gtD (N:=2) rfl ?_);refine bxE ?hg (N:=2) ?hd (cs:=#[.slice Ao18 l0_0.length co18]) (t:=90) ?hr ?_;(case hd=>rfl);(case hg=>rfl);(case hr=>first|(go_simp;done)|(go_simp;rfl));intro gb292 hg w19 hbox hb;have n0_:=As0.mk (Kd.RbW (by (with_reducible repeat (first|apply Kd.R_alloc|apply Kd.RdN|apply Kd.RdW));exact HO0_0.out) hb);have n1_:=As0.mk (Kept.below (S:=(fun k_=>P0_0_ k_)) (by repeat (first|(with_reducible first|exact HK.out|apply Kept.alloc|apply Kept.drewN|apply Kept.drew)|exact HK.out)) hb);have n2_:=As0.mk (bdT (by repeat (first|(with_reducible first|exact HB.out|apply bdA|apply bdN|apply bd1)|exact HB.out)) hb);have n3_:=As0.mk (hbox);have n4_:=As0.mk ((by rw [hg];exact (by first|exact HK.out.1|exact (show Kept w _ (fun k_=>P0_0_ k_) from by repeat (first|(with_reducible first|exact HK.out|apply Kept.alloc|apply Kept.drewN|apply Kept.drew)|exact HK.out)).1):w.heap.size≤gb292));have n5_:=As0.mk ((by rw [hg];exact (bdZ (by repeat (first|(with_reducible first|exact HB.out|apply bdA|apply bdN|apply bd1)|exact HB.out))):w0.heap.size≤gb292));clear HO0_0;clear HK;clear HB;have HO0_0:=n0_;have HK:=n1_;have HB:=n2_;have BK292:=n3_;have GW292:=n4_;have GE292:=n5_;clear n0_ n1_ n2_ n3_ n4_ n5_;clear hb hbox hg)|((with_reducible refine gtD (N:=4) rfl ?_);refine bxE ?hg (N:=4) ?hd (cs:=#[.slice none 0 0]) (t:=90) ?hr ?_;(case hd=>rfl);(case hg=>rfl);(case hr=>first|(go_simp;done)|(go_simp;rfl));intro gb293 hg w20 hbox hb;have n0_:=As0.mk (Kd.RbW (by (with_reducible repeat (first|apply Kd.R_alloc|apply Kd.RdN|apply Kd.RdW));exact HO0_0.out) hb);have n1_:=As0.mk (bkB (g:=gb292) (o:=.cells #[.slice Ao18 l0_0.length co18] 90 (0,0)) (by (with_reducible repeat (first|refine bkN ?_ _|refine bkD ?_|refine bkA ?_ _));exact BK292.out) hb);have n2_:=As0.mk (Kept.below (S:=(fun k_=>P0_0_ k_)) (by repeat (first|(with_reducible first|exact HK.out|apply Kept.alloc|apply Kept.drewN|apply Kept.drew|refine Kept.setCell ?_ (.inr GW292.out) _)|exact HK.out)) hb);have n3_:=As0.mk (bdT (by repeat (first|(with_reducible first|exact HB.out|apply bdA|apply bdN|apply bd1|refine bdS ?_ GE292.out)|exact HB.out)) hb);have n4_:=As0.mk (hbox);have n5_:=As0.mk ((by rw [hg];exact (by first|exact HK.out.1|exact (show Kept w _ (fun k_=>P0_0_ k_) from by repeat (first|(with_reducible first|exact HK.out|apply Kept.alloc|apply Kept.drewN|apply Kept.drew|refine Kept.setCell ?_ (.inr GW292.out) _)|exact HK.out)).1):w.heap.size≤gb293));have n6_:=As0.mk ((by rw [hg];exact (bdZ (by repeat (first|(with_reducible first|exact HB.out|apply bdA|apply bdN|apply bd1|refine bdS ?_ GE292.out)|exact HB.out))):w0.heap.size≤gb293));have n7_:=As0.mk ((by rw [hg];exact Nat.ne_of_lt (blk_lt (g:=gb292) (o:=.cells #[.slice Ao18 l0_0.length co18] 90 (0,0)) (by (with_reducible repeat (first|refine bkN ?_ _|refine bkD ?_|refine bkA ?_ _));exact BK292.out)):gb292≠gb293));have n8_:=As0.mk ((by rw [hg];exact Nat.ne_of_gt (blk_lt (g:=gb292) (o:=.cells #[.slice Ao18 l0_0.length co18] 90 (0,0)) (by (with_reducible repeat (first|refine bkN ?_ _|refine bkD ?_|refine bkA ?_ _));exact BK292.out)):gb293≠gb292));clear HO0_0;clear BK292;clear HK;clear HB;have HO0_0:=n0_;have BK292:=n1_;have HK:=n2_;have HB:=n3_;have BK293:=n4_;have GW293:=n5_;have GE293:=n6_;have NB292_293:=n7_;have NB293_292:=n8_;clear n0_ n1_ n2_ n3_ n4_ n5_ n6_ n7_ n8_;clear hb hbox hg)|((with_reducible refine gate_callee (f:=87) rfl ?_);refine goesL_ (some 11) rfl rfl Try.func87 (by kernel_rfl) rfl #[.string a1] rfl (by (try simp only [List.map_toArray,List.map_cons,List.map_nil]);first|done|rfl|(simp only [List.length_drop,List.length_take];rfl)) ?_;(with_reducible refine (spindleref8_Named.calls k a1 true _ A3.out).mono ?_);rintro e w' ⟨rfl,⟨nd,rfl⟩⟩;refine ⟨_,rfl,?_⟩;(try (rw [drewN_self w20];generalize hq_:World.drewN w20 _=w20;have n0_:As0 (Kd.R Kd.string 9 w20 w0.heap.size (fun k_=>(P0_0_ k_∨w.heap.size≤k_)) (.slice Ao18 l0_0.length co18) l0_0):=⟨by rw [← hq_];exact (by (with_reducible repeat (first|apply Kd.R_alloc|apply Kd.RdN|apply Kd.RdW));exact HO0_0.out)⟩;have n1_:As0 (w20.heap[gb292]?=some (.cells #[.slice Ao18 l0_0.length co18] 90 (0,0))):=⟨by rw [← hq_];exact (by (with_reducible repeat (first|refine bkN ?_ _|refine bkD ?_|refine bkA ?_ _));exact BK292.out)⟩;have n2_:As0 (w20.heap[gb293]?=some (.cells #[.slice none 0 0] 90 (0,0))):=⟨by rw [← hq_];exact (by (with_reducible repeat (first|refine bkN ?_ _|refine bkD ?_|refine bkA ?_ _));exact BK293.out)⟩;have n3_:As0 (Kept w w20 (fun k_=>P0_0_ k_)):=⟨by rw [← hq_];exact (by repeat (first|(with_reducible first|exact HK.out|apply Kept.alloc|apply Kept.drewN|apply Kept.drew|refine Kept.setCell ?_ (.inr GW292.out) _|refine Kept.setCell ?_ (.inr GW293.out) _)|exact HK.out))⟩;have n4_:As0 (Below w0.heap.size w0 w20):=⟨by rw [← hq_];exact (by repeat (first|(with_reducible first|exact HB.out|apply bdA|apply bdN|apply bd1|refine bdS ?_ GE292.out|refine bdS ?_ GE293.out)|exact HB.out))⟩;clear HO0_0 BK292 BK293 HK HB hq_;have HO0_0:=n0_;have BK292:=n1_;have BK293:=n2_;have HK:=n3_;have HB:=n4_;clear n0_ n1_ n2_ n3_ n4_));have hnb21:=NB292_293.out;have hnc21:=NB293_292.out;have hcz22_0:w20.cell? ⟨gb292,0,none⟩=some (.slice Ao18 l0_0.length co18):=(bkC BK292.out 0).trans rfl;have hfz22_0:=bkF BK292.out 0)|((with_reducible refine gate_callee (f:=88) rfl ?_);refine goesL_ (some 17) rfl rfl Try.func88 (by kernel_rfl) rfl #[.agg #[.slice Ao18 l0_0.length co18],.string a1] rfl (by (try simp only [List.map_toArray,List.map_cons,List.map_nil]);first|done|rfl|(simp only [List.length_drop,List.length_take];rfl)) ?_;(with_reducible refine (sr8p.calls k _ _ l0_0 a1 t295 _ ?side1 ?side2 A5.out).mono ?_);(case side1=>repeat (first|exact (Kd.R_reads' HO0_0.out).2.2|(with_reducible refine Kd.C_alloc ?_ _)|(with_reducible refine Kd.C_drewN ?_ _)|(with_reducible refine Kd.C_drew ?_)));(case side2=>exact (Kd.R_reads' HO0_0.out).2.1);rintro e w23 ⟨rfl,hb⟩;refine ⟨_,rfl,?_⟩;have n0_:=As0.mk (Kd.RbW (by (with_reducible repeat (first|apply Kd.R_alloc|apply Kd.RdN|apply Kd.RdW));exact HO0_0.out) hb);have n1_:=As0.mk (bkB (g:=gb292) (o:=.cells #[.slice Ao18 l0_0.length co18] 90 (0,0)) (by (with_reducible repeat (first|refine bkN ?_ _|refine bkD ?_|refine bkA ?_ _));exact BK292.out) hb);have n2_:=As0.mk (bkB (g:=gb293) (o:=.cells #[.slice none 0 0] 90 (0,0)) (by (with_reducible repeat (first|refine bkN ?_ _|refine bkD ?_|refine bkA ?_ _));exact BK293.out) hb);have n3_:=As0.mk (Kept.below (S:=(fun k_=>P0_0_ k_)) (by repeat (first|(with_reducible first|exact HK.out|apply Kept.alloc|apply Kept.drewN|apply Kept.drew|refine Kept.setCell ?_ (.inr GW292.out) _|refine Kept.setCell ?_ (.inr GW293.out) _)|exact HK.out)) hb);have n4_:=As0.mk (bdT (by repeat (first|(with_reducible first|exact HB.out|apply bdA|apply bdN|apply bd1|refine bdS ?_ GE292.out|refine bdS ?_ GE293.out)|exact HB.out)) hb);clear HO0_0;clear BK292;clear BK293;clear HK;clear HB;have HO0_0:=n0_;have BK292:=n1_;have BK293:=n2_;have HK:=n3_;have HB:=n4_;clear n0_ n1_ n2_ n3_ n4_;(try clear hb);(try clear hb2);(try clear hk);(try clear hi))|((with_reducible refine gtD (N:=9) rfl ?_);refine bxE ?hg (N:=9) ?hd (cs:=#[.slice none 0 0]) (t:=90) ?hr ?_;(case hd=>rfl);(case hg=>rfl);(case hr=>first|(go_simp;done)|(go_simp;rfl));intro gb296 hg w24 hbox hb;have n0_:=As0.mk (Kd.RbW (by (with_reducible repeat (first|apply Kd.R_alloc|apply Kd.RdN|apply Kd.RdW));exact HO0_0.out) hb);have n1_:=As0.mk (bkB (g:=gb292) (o:=.cells #[.slice Ao18 l0_0.length co18] 90 (0,0)) (by (with_reducible repeat (first|refine bkN ?_ _|refine bkD ?_|refine bkA ?_ _));exact BK292.out) hb);have n2_:=As0.mk (bkB (g:=gb293) (o:=.cells #[.slice none 0 0] 90 (0,0)) (by (with_reducible repeat (first|refine bkN ?_ _|refine bkD ?_|refine bkA ?_ _));exact BK293.out) hb);have n3_:=As0.mk (Kept.below (S:=(fun k_=>P0_0_ k_)) (by repeat (first|(with_reducible first|exact HK.out|apply Kept.alloc|apply Kept.drewN|apply Kept.drew|refine Kept.setCell ?_ (.inr GW292.out) _|refine Kept.setCell ?_ (.inr GW293.out) _)|exact HK.out)) hb);have n4_:=As0.mk (bdT (by repeat (first|(with_reducible first|exact HB.out|apply bdA|apply bdN|apply bd1|refine bdS ?_ GE292.out|refine bdS ?_ GE293.out)|exact HB.out)) hb);have n5_:=As0.mk (hbox);have n6_:=As0.mk ((by rw [hg];exact (by first|exact HK.out.1|exact (show Kept w _ (fun k_=>P0_0_ k_) from by repeat (first|(with_reducible first|exact HK.out|apply Kept.alloc|apply Kept.drewN|apply Kept.drew|refine Kept.setCell ?_ (.inr GW292.out) _|refine Kept.setCell ?_ (.inr GW293.out) _)|exact HK.out)).1):w.heap.size≤gb296));have n7_:=As0.mk ((by rw [hg];exact (bdZ (by repeat (first|(with_reducible first|exact HB.out|apply bdA|apply bdN|apply bd1|refine bdS ?_ GE292.out|refine bdS ?_ GE293.out)|exact HB.out))):w0.heap.size≤gb296));have n8_:=As0.mk ((by rw [hg];exact Nat.ne_of_lt (blk_lt (g:=gb292) (o:=.cells #[.slice Ao18 l0_0.length co18] 90 (0,0)) (by (with_reducible repeat (first|refine bkN ?_ _|refine bkD ?_|refine bkA ?_ _));exact BK292.out)):gb292≠gb296));have n9_:=As0.mk ((by rw [hg];exact Nat.ne_of_gt (blk_lt (g:=gb292) (o:=.cells #[.slice Ao18 l0_0.length co18] 90 (0,0)) (by (with_reducible repeat (first|refine bkN ?_ _|refine bkD ?_|refine bkA ?_ _));exact BK292.out)):gb296≠gb292));have n10_:=As0.mk ((by rw [hg];exact Nat.ne_of_lt (blk_lt (g:=gb293) (o:=.cells #[.slice none 0 0] 90 (0,0)) (by (with_reducible repeat (first|refine bkN ?_ _|refine bkD ?_|refine bkA ?_ _));exact BK293.out)):gb293≠gb296));have n11_:=As0.mk ((by rw [hg];exact Nat.ne_of_gt (blk_lt (g:=gb293) (o:=.cells #[.slice none 0 0] 90 (0,0)) (by (with_reducible repeat (first|refine bkN ?_ _|refine bkD ?_|refine bkA ?_ _));exact BK293.out)):gb296≠gb293));clear HO0_0;clear BK292;clear BK293;clear HK;clear HB;have HO0_0:=n0_;have BK292:=n1_;have BK293:=n2_;have HK:=n3_;have HB:=n4_;have BK296:=n5_;have GW296:=n6_;have GE296:=n7_;have NB292_296:=n8_;have NB296_292:=n9_;have NB293_296:=n10_;have NB296_293:=n11_;clear n0_ n1_ n2_ n3_ n4_ n5_ n6_ n7_ n8_ n9_ n10_ n11_;clear hb hbox hg;have hnb25:=NB296_292.out;have hnc25:=NB292_296.out;have hnb26:=NB296_293.out;have hnc26:=NB293_296.out;have hcz27_0:w24.cell? ⟨gb296,0,none⟩=some (.slice none 0 0):=(bkC BK296.out 0).trans rfl;have hfz27_0:=bkF BK296.out 0;have hcz28_0:w24.cell? ⟨gb292,0,none⟩=some (.slice Ao18 l0_0.length co18):=(bkC BK292.out 0).trans rfl;have hfz28_0:=bkF BK292.out 0)|((with_reducible refine gate_builtin (b:=.append) (xs:=#[.tmp 23,.tmp 25]) rfl ?_);at_builtin;refine Kd.R_append_rows Kd.string (w0:=w0) w0.heap.size rfl (.tmp 23) (.tmp 25) 88 9 (.string ⟨#[]⟩) 16 rfl Try.underlying88 info9 rfl (by decide) (by omega) (.slice none 0 0) ([]:List ByteArray) l0_0 _ _ _ (fun k_=>(P0_0_ k_∨w.heap.size≤k_)∧some k_≠(.slice Ao18 l0_0.length co18:Value).ownBlock) (fun _=>False) rfl rfl ?aO ?aR (fun _ _ h=>h) (fun _ h=>h.elim) ?aF ?aB ?aS ?aL ?_;(case aR=>repeat (first|exact (Kd.R_reads' HO0_0.out).2.2|(with_reducible refine Kd.C_alloc ?_ _)|(with_reducible refine Kd.C_drewN ?_ _)|(with_reducible refine Kd.C_drew ?_)));(case aB=>exact (by repeat (first|(with_reducible first|exact HB.out|apply bdA|apply bdN|apply bd1|refine bdS ?_ GE292.out|refine bdS ?_ GE293.out|refine bdS ?_ GE296.out)|exact HB.out)));(case aF=>exact (fun k_ hk=>⟨(.inr (Nat.le_trans (by first|exact HK.out.1|exact (show Kept w _ (fun k_=>P0_0_ k_) from by repeat (first|(with_reducible first|exact HK.out|apply Kept.alloc|apply Kept.drewN|apply Kept.drew|refine Kept.setCell ?_ (.inr GW292.out) _|refine Kept.setCell ?_ (.inr GW293.out) _|refine Kept.setCell ?_ (.inr GW296.out) _)|exact HK.out)).1) hk)),Kd.fresh' (Kd.R_lt (by (with_reducible repeat (first|apply Kd.R_alloc|apply Kd.RdN|apply Kd.RdW));exact HO0_0.out)) k_ hk⟩));(case aO=>exact ((Kd.R_nil _ _ _ _ (fun k_=>(P0_0_ k_∨w.heap.size≤k_)∧some k_≠(.slice Ao18 l0_0.length co18:Value).ownBlock))));(case aS=>exact (bdZ (by repeat (first|(with_reducible first|exact HB.out|apply bdA|apply bdN|apply bd1|refine bdS ?_ GE292.out|refine bdS ?_ GE293.out|refine bdS ?_ GE296.out)|exact HB.out))));(case aL=>have:=LMc15.out;omega);intro v298 w29 ho hb hg hat;rw [← Ny297.out] at ho;have n0_:=As0.mk (Kd.R_after (Kd.R_apart_nil (by (with_reducible repeat (first|apply Kd.R_alloc|apply Kd.RdN|apply Kd.RdW));exact HO0_0.out)) hg hat);have n1_:=As0.mk (blk_grown (g:=gb292) (o:=.cells #[.slice Ao18 l0_0.length co18] 90 (0,0)) (by (with_reducible repeat (first|refine bkN ?_ _|refine bkD ?_|refine bkA ?_ _));exact BK292.out) hg (by simp [Value.ownBlock]));have n2_:=As0.mk (blk_grown (g:=gb293) (o:=.cells #[.slice none 0 0] 90 (0,0)) (by (with_reducible repeat (first|refine bkN ?_ _|refine bkD ?_|refine bkA ?_ _));exact BK293.out) hg (by simp [Value.ownBlock]));have n3_:=As0.mk (blk_grown (g:=gb296) (o:=.cells #[.slice none 0 0] 90 (0,0)) (by (with_reducible repeat (first|refine bkN ?_ _|refine bkD ?_|refine bkA ?_ _));exact BK296.out) hg (by simp [Value.ownBlock]));have n4_:=As0.mk (hb);have n5_:=As0.mk (Kept.of_grown (S:=(fun k_=>P0_0_ k_)) hg (by repeat (first|(with_reducible first|exact HK.out|apply Kept.alloc|apply Kept.drewN|apply Kept.drew|refine Kept.setCell ?_ (.inr GW292.out) _|refine Kept.setCell ?_ (.inr GW293.out) _|refine Kept.setCell ?_ (.inr GW296.out) _)|exact HK.out)) (fun k_ e_=>by simp [Value.ownBlock] at e_));have n6_:=As0.mk (ho);clear HO0_0;clear BK292;clear BK293;clear BK296;clear HB;clear HK;have HO0_0:=n0_;have BK292:=n1_;have BK293:=n2_;have BK296:=n3_;have HB:=n4_;have HK:=n5_;have HO299:=n6_;clear n0_ n1_ n2_ n3_ n4_ n5_ n6_;clear ho hb hg hat;obtain ⟨Ao30,co30,eo30⟩:=Kd.R_slice HO299.out;subst eo30;have hcz31_0:w29.cell? ⟨gb296,0,none⟩=some (.slice none 0 0):=(bkC BK296.out 0).trans rfl;have hfz31_0:=bkF BK296.out 0)|((with_reducible refine gate_builtin (b:=.append) (xs:=#[.tmp 29,.tmp 31]) rfl ?_);at_builtin;refine Kd.R_append Kd.string (w0:=w0) w0.heap.size rfl (.tmp 29) (.tmp 31) 88 9 (.string ⟨#[]⟩) 16 rfl Try.underlying88 info9 rfl (by decide) (by omega) (.slice Ao30 y297.length co30) y297 a1 [.string a1] (fun k_=>(P0_0_ k_∨w.heap.size≤k_)∧some k_≠(.slice Ao18 l0_0.length co18:Value).ownBlock) (fun _=>False) rfl (by first|(go_simp;done)|(go_simp;rfl)) ?aP (fun _ hk=>hk.elim) ?aF ?aO ?aB ?aS ?aL ?_;(case aP=>exact rfl);(case aB=>exact (by repeat (first|(with_reducible first|exact HB.out|apply bdA|apply bdN|apply bd1|refine bdS ?_ GE292.out|refine bdS ?_ GE293.out|refine bdS ?_ GE296.out)|exact HB.out)));(case aF=>exact (fun k_ hk=>⟨(.inr (Nat.le_trans (show Kept w _ (fun k_=>P0_0_ k_) from by repeat (first|(with_reducible first|exact HK.out|apply Kept.alloc|apply Kept.drewN|apply Kept.drew|refine Kept.setCell ?_ (.inr GW292.out) _|refine Kept.setCell ?_ (.inr GW293.out) _|refine Kept.setCell ?_ (.inr GW296.out) _)|exact HK.out)).1 hk)),Kd.fresh' (Kd.R_lt (by (with_reducible repeat (first|apply Kd.R_alloc|apply Kd.RdN|apply Kd.RdW));exact (Kd.R_mono (Kd.R_far (p:=⟨gb296,0,none⟩) (Kd.R_types HO0_0.out BK296.out (by decide)) (fun _ hk=>hk.2) (.slice Ao30 y297.length co30)) (fun _ h_=>h_.1)))) k_ hk⟩));(case aO=>exact (by (with_reducible repeat (first|apply Kd.R_alloc|apply Kd.RdN|apply Kd.RdW));exact Kd.R_mono (Kd.R_far (p:=⟨gb296,0,none⟩) (Kd.R_types HO299.out BK296.out (by decide)) (fun _ hk=>hk.2) (.slice Ao30 y297.length co30)) (fun _ hk=>⟨hk.1.1,hk.1.2⟩)));(case aS=>exact (bdZ (by repeat (first|(with_reducible first|exact HB.out|apply bdA|apply bdN|apply bd1|refine bdS ?_ GE292.out|refine bdS ?_ GE293.out|refine bdS ?_ GE296.out)|exact HB.out))));(case aL=>have:=LMc16.out;omega);intro v301 w32 ho hb hg hat;rw [← Ny300.out] at ho;have n0_:=As0.mk (Kd.R_after (ok:=(fun k_=>(P0_0_ k_∨w.heap.size≤k_))) (by (with_reducible repeat (first|apply Kd.R_alloc|apply Kd.RdN|apply Kd.RdW));exact Kd.R_mono (Kd.R_far (p:=⟨gb296,0,none⟩) (Kd.R_types HO0_0.out BK296.out (by decide)) (fun _ hk=>hk.2) (.slice Ao30 y297.length co30)) (fun _ hk=>⟨hk.1.1,hk.1.2⟩)) hg hat);have n1_:=As0.mk (blk_grown (g:=gb292) (o:=.cells #[.slice Ao18 l0_0.length co18] 90 (0,0)) (by (with_reducible repeat (first|refine bkN ?_ _|refine bkD ?_|refine bkA ?_ _));refine bkR ?_ NB292_296.out _;(with_reducible repeat (first|refine bkN ?_ _|refine bkD ?_|refine bkA ?_ _));exact BK292.out) hg (Kd.R_ne HO299.out BK292.out (by decide)));have n2_:=As0.mk (blk_grown (g:=gb293) (o:=.cells #[.slice none 0 0] 90 (0,0)) (by (with_reducible repeat (first|refine bkN ?_ _|refine bkD ?_|refine bkA ?_ _));refine bkR ?_ NB293_296.out _;(with_reducible repeat (first|refine bkN ?_ _|refine bkD ?_|refine bkA ?_ _));exact BK293.out) hg (Kd.R_ne HO299.out BK293.out (by decide)));have n3_:=As0.mk (blk_grown (g:=gb296) (o:=.cells #[.slice Ao30 y297.length co30] 90 (0,0)) (by (with_reducible repeat (first|refine bkN ?_ _|refine bkD ?_|refine bkA ?_ _));refine bkP (cs:=#[.slice none 0 0]) ?_ 0 _ rfl;(with_reducible repeat (first|refine bkN ?_ _|refine bkD ?_|refine bkA ?_ _));exact BK296.out) hg (Kd.R_ne HO299.out BK296.out (by decide)));have n4_:=As0.mk (hb);have n5_:=As0.mk (Kept.of_grown (S:=(fun k_=>P0_0_ k_)) hg (by repeat (first|(with_reducible first|exact HK.out|apply Kept.alloc|apply Kept.drewN|apply Kept.drew|refine Kept.setCell ?_ (.inr GW292.out) _|refine Kept.setCell ?_ (.inr GW293.out) _|refine Kept.setCell ?_ (.inr GW296.out) _)|exact HK.out)) (fun k_ e_=>(HO299.out.1 k_ e_).1));have n6_:=As0.mk (ho);clear HO0_0;clear BK292;clear BK293;clear BK296;clear HB;clear HK;clear HO299;have HO0_0:=n0_;have BK292:=n1_;have BK293:=n2_;have BK296:=n3_;have HB:=n4_;have HK:=n5_;have HO302:=n6_;clear n0_ n1_ n2_ n3_ n4_ n5_ n6_;clear ho hb hg hat;obtain ⟨Ao33,co33,eo33⟩:=Kd.R_slice HO302.out;subst eo33;have hcz34_0:w32.cell? ⟨gb296,0,none⟩=some (.slice Ao30 y297.length co30):=(bkC BK296.out 0).trans rfl;have hfz34_0:=bkF BK296.out 0))
     have n0_:As0 (Kd.R Kd.string 9 (w32.setCell ⟨gb296,0,none⟩ (.slice Ao33 y300.length co33)) w0.heap.size (fun k_=>(P0_0_ k_∨w.heap.size≤k_)∧some k_≠(.slice Ao33 y300.length co33:Value).ownBlock) (.slice Ao18 l0_0.length co18) l0_0):=⟨by (with_reducible repeat (first|apply Kd.R_alloc|apply Kd.RdN|apply Kd.RdW));exact Kd.R_mono (Kd.R_far (p:=⟨gb296,0,none⟩) (Kd.R_types HO0_0.out BK296.out (by decide)) (fun _ hk=>hk.2) (.slice Ao33 y300.length co33)) (fun _ hk=>⟨hk.1.1,hk.1.2⟩)⟩
     have n1_:As0 (Kd.R Kd.string 9 (w32.setCell ⟨gb296,0,none⟩ (.slice Ao33 y300.length co33)) w0.heap.size (fun k_=>(P0_0_ k_∨w.heap.size≤k_)∧some k_≠(.slice Ao18 l0_0.length co18:Value).ownBlock) (.slice Ao33 y300.length co33) y300):=⟨by (with_reducible repeat (first|apply Kd.R_alloc|apply Kd.RdN|apply Kd.RdW));exact Kd.R_mono (Kd.R_far (p:=⟨gb296,0,none⟩) (Kd.R_types HO302.out BK296.out (by decide)) (fun _ hk=>hk.2) (.slice Ao33 y300.length co33)) (fun _ hk=>⟨hk.1.1,hk.1.2⟩)⟩
     have n2_:As0 ((w32.setCell ⟨gb296,0,none⟩ (.slice Ao33 y300.length co33)).heap[gb292]?=some (.cells #[.slice Ao18 l0_0.length co18] 90 (0,0))):=⟨by (with_reducible repeat (first|refine bkN ?_ _|refine bkD ?_|refine bkA ?_ _));refine bkR ?_ NB292_296.out _;(with_reducible repeat (first|refine bkN ?_ _|refine bkD ?_|refine bkA ?_ _));exact BK292.out⟩
     have n3_:As0 ((w32.setCell ⟨gb296,0,none⟩ (.slice Ao33 y300.length co33)).heap[gb293]?=some (.cells #[.slice none 0 0] 90 (0,0))):=⟨by (with_reducible repeat (first|refine bkN ?_ _|refine bkD ?_|refine bkA ?_ _));refine bkR ?_ NB293_296.out _;(with_reducible repeat (first|refine bkN ?_ _|refine bkD ?_|refine bkA ?_ _));exact BK293.out⟩
     have n4_:As0 ((w32.setCell ⟨gb296,0,none⟩ (.slice Ao33 y300.length co33)).heap[gb296]?=some (.cells #[.slice Ao33 y300.length co33] 90 (0,0))):=⟨by (with_reducible repeat (first|refine bkN ?_ _|refine bkD ?_|refine bkA ?_ _));refine bkP (cs:=#[.slice Ao30 y297.length co30]) ?_ 0 _ rfl;(with_reducible repeat (first|refine bkN ?_ _|refine bkD ?_|refine bkA ?_ _));exact BK296.out⟩
     have n5_:As0 (Kept w (w32.setCell ⟨gb296,0,none⟩ (.slice Ao33 y300.length co33)) (fun k_=>P0_0_ k_)):=⟨by repeat (first|(with_reducible first|exact HK.out|apply Kept.alloc|apply Kept.drewN|apply Kept.drew|refine Kept.setCell ?_ (.inr GW292.out) _|refine Kept.setCell ?_ (.inr GW293.out) _|refine Kept.setCell ?_ (.inr GW296.out) _)|exact HK.out)⟩
     have n6_:As0 (Below w0.heap.size w0 (w32.setCell ⟨gb296,0,none⟩ (.slice Ao33 y300.length co33))):=⟨by repeat (first|(with_reducible first|exact HB.out|apply bdA|apply bdN|apply bd1|refine bdS ?_ GE292.out|refine bdS ?_ GE293.out|refine bdS ?_ GE296.out)|exact HB.out)⟩
     (try clear HO0_0)
     (try clear HO302)
     (try clear BK292)
     (try clear BK293)
     (try clear BK296)
     (try clear HK)
     (try clear HB)
     generalize (w32.setCell ⟨gb296,0,none⟩ (.slice Ao33 y300.length co33))=w35 at n0_ n1_ n2_ n3_ n4_ n5_ n6_ ⊢
     have HO0_0:=n0_
     have HO302:=n1_
     have BK292:=n2_
     have BK293:=n3_
     have BK296:=n4_
     have HK:=n5_
     have HB:=n6_
     clear n0_ n1_ n2_ n3_ n4_ n5_ n6_
     have n0_:=As0.mk (Kd.RdW HO0_0.out)
     have n1_:=As0.mk (Kd.RdW HO302.out)
     have n2_:=As0.mk (bkD BK292.out)
     have n3_:=As0.mk (bkD BK293.out)
     have n4_:=As0.mk (bkD BK296.out)
     have n5_:=As0.mk (Kept.drew HK.out)
     have n6_:=As0.mk (bd1 HB.out)
     clear HO0_0 HO302 BK292 BK293 BK296 HK HB
     have HO0_0:=n0_
     have HO302:=n1_
     have BK292:=n2_
     have BK293:=n3_
     have BK296:=n4_
     have HK:=n5_
     have HB:=n6_
     clear n0_ n1_ n2_ n3_ n4_ n5_ n6_
     refine start_ (n:=7) (S:=fun w'=>w'.cell? ⟨gb296,0,none⟩=some (.slice Ao33 y300.length co33)) (ds:=[]) #[false,false,false,false,false,false,false] (by kernel_rfl) rfl rfl ((bkC BK296.out 0).trans rfl) (fun hHeld=>?_)
     generalize w35.drew=w36 at HO0_0 HO302 BK292 BK293 BK296 HK HB hHeld ⊢
     refine pure_ (i:=2) (N:=some 36) (v:=?_) (a':=?_) #[false,false,true,false,false,false,false] rfl rfl (by kernel_rfl) (fun _ _ _ h=>h) (Or.inl ⟨by rfl,?_⟩) ?_ ?_
     rotate_left
     ·intro w'
      go_simp
      with_reducible rfl
     rotate_left
     ·simp only [Act.put,List.setIfInBounds_toArray,List.set_cons_zero,List.set_cons_succ,i64_w,i32_w]
      rfl
     refine take_ (i:=0) (N:=some 34) (v:=?_) (a':=?_) #[true,false,true,false,false,false,false] rfl rfl (by kernel_rfl) (fun _ _ _ h=>h) (Or.inl ⟨by rfl,?_⟩) hHeld ?_ ?_
     rotate_left
     ·intro w' s0
      go_simp
      with_reducible rfl
     rotate_left
     ·simp only [Act.put,List.setIfInBounds_toArray,List.set_cons_zero,List.set_cons_succ,i64_w,i32_w]
      rfl
     refine take_ (i:=1) (N:=some 35) (v:=?_) (a':=?_) #[true,true,true,false,false,false,false] rfl rfl (by kernel_rfl) (fun _ _ _ h=>h) (Or.inl ⟨by rfl,?_⟩) hHeld ?_ ?_
     rotate_left
     ·intro w' s0
      go_simp
      with_reducible rfl
     rotate_left
     ·simp only [Act.put,List.setIfInBounds_toArray,List.set_cons_zero,List.set_cons_succ,i64_w,i32_w]
      rfl
     refine one_ (i:=3) (N:=some 37) #[true,true,true,true,false,false,false] rfl rfl (by kernel_rfl) (by decide) (fun K hK=>?_)
     refine goes_ Try.func88 (by kernel_rfl) rfl #[.agg #[.slice Ao33 y300.length co33],.string a1] (by rfl) rfl rfl (by (try simp only [List.map_toArray,List.map_cons,List.map_nil]);first|done|rfl|(simp only [List.length_drop,List.length_take];rfl)) ?_
     with_reducible refine (sr8p.calls k _ _ y300 a1 t303 _ ?side1 ?side2 A17.out).mono ?_
     (case side1=>repeat (first|exact (Kd.R_reads' HO302.out).2.2|(with_reducible refine Kd.C_alloc ?_ _)|(with_reducible refine Kd.C_drewN ?_ _)|(with_reducible refine Kd.C_drew ?_)))
     (case side2=>exact (Kd.R_reads' HO302.out).2.1)
     rintro e w37 ⟨rfl,hb⟩
     refine ⟨_,rfl,?_⟩
     have n0_:=As0.mk (Kd.RbW (by (with_reducible repeat (first|apply Kd.R_alloc|apply Kd.RdN|apply Kd.RdW));exact HO0_0.out) hb)
     have n1_:=As0.mk (Kd.RbW (by (with_reducible repeat (first|apply Kd.R_alloc|apply Kd.RdN|apply Kd.RdW));exact HO302.out) hb)
     have n2_:=As0.mk (bkB (g:=gb292) (o:=.cells #[.slice Ao18 l0_0.length co18] 90 (0,0)) (by (with_reducible repeat (first|refine bkN ?_ _|refine bkD ?_|refine bkA ?_ _));exact BK292.out) hb)
     have n3_:=As0.mk (bkB (g:=gb293) (o:=.cells #[.slice none 0 0] 90 (0,0)) (by (with_reducible repeat (first|refine bkN ?_ _|refine bkD ?_|refine bkA ?_ _));exact BK293.out) hb)
     have n4_:=As0.mk (bkB (g:=gb296) (o:=.cells #[.slice Ao33 y300.length co33] 90 (0,0)) (by (with_reducible repeat (first|refine bkN ?_ _|refine bkD ?_|refine bkA ?_ _));exact BK296.out) hb)
     have n5_:=As0.mk (Kept.below (S:=(fun k_=>P0_0_ k_)) (by repeat (first|(with_reducible first|exact HK.out|apply Kept.alloc|apply Kept.drewN|apply Kept.drew|refine Kept.setCell ?_ (.inr GW292.out) _|refine Kept.setCell ?_ (.inr GW293.out) _|refine Kept.setCell ?_ (.inr GW296.out) _)|exact HK.out)) hb)
     have n6_:=As0.mk (bdT (by repeat (first|(with_reducible first|exact HB.out|apply bdA|apply bdN|apply bd1|refine bdS ?_ GE292.out|refine bdS ?_ GE293.out|refine bdS ?_ GE296.out)|exact HB.out)) hb)
     clear HO0_0 HO302 BK292 BK293 BK296 HK HB
     have HO0_0:=n0_
     have HO302:=n1_
     have BK292:=n2_
     have BK293:=n3_
     have BK296:=n4_
     have HK:=n5_
     have HB:=n6_
     clear n0_ n1_ n2_ n3_ n4_ n5_ n6_
     (try clear hb)
     (try clear hb2)
     (try clear hk)
     (try clear hi)
     refine hK.out _ _ ((bkC BK296.out 0).trans rfl) (fun hHeld=>?_)
     clear hK K
     refine norm_ (a':=?_) ?_ ?_
     rotate_left
     ·show Act.put _ (some 37) _=_
      simp only [Act.put,List.setIfInBounds_toArray,List.set_cons_zero,List.set_cons_succ,i64_w,i32_w]
      rfl
     refine one_ (i:=4) (N:=none) #[true,true,true,true,true,false,false] rfl rfl (by kernel_rfl) (by decide) (fun K hK=>?_)
     have hs38:w37.cell? ⟨gb293,0,none⟩=some (.slice none 0 0):=(bkC BK293.out 0).trans rfl
     have hfs38:=bkF BK293.out 0
     have hns38_0:=NB292_293.out
     have hns38_2:=NB296_293.out
     have hms38_0:=NB293_292.out
     have hms38_2:=NB293_296.out
     refine skip_ (w1:=?_) (by rfl) rfl ?_ ?_
     rotate_left
     ·go_simp
      rfl
     refine hK.out _ _ (((cell_far (p:=⟨gb293,_,none⟩) NB296_293.out _).trans (hHeld))) (fun hHeld=>?_)
     clear hK K
     refine pure_ (i:=5) (N:=some 5) (v:=?_) (a':=?_) #[true,true,true,true,true,true,false] rfl rfl (by kernel_rfl) (fun _ _ _ h=>h) (Or.inl ⟨by rfl,?_⟩) ?_ ?_
     rotate_left
     ·intro w'
      go_simp
      with_reducible rfl
     rotate_left
     ·simp only [Act.put,List.setIfInBounds_toArray,List.set_cons_zero,List.set_cons_succ,i64_w,i32_w]
      rfl
     refine pure_ (i:=6) (N:=some 6) (v:=?_) (a':=?_) #[true,true,true,true,true,true,true] rfl rfl (by kernel_rfl) (fun _ _ _ h=>h) (Or.inl ⟨by rfl,?_⟩) ?_ ?_
     rotate_left
     ·intro w'
      go_simp
      with_reducible rfl
     rotate_left
     ·simp only [Act.put,List.setIfInBounds_toArray,List.set_cons_zero,List.set_cons_succ,i64_w,i32_w]
      rfl
     refine done_ (by kernel_rfl) ?_
     try go_wp2
     refine bodyPost_ret (results_ctt rfl _ _ gb293 90 #[.slice Ao33 y300.length co33] (0,0) _ rfl (by (with_reducible repeat (first|refine bkN ?_ _|refine bkD ?_|refine bkA ?_ _));refine bkP (cs:=#[.slice none 0 0]) ?_ 0 _ rfl;(with_reducible repeat (first|refine bkN ?_ _|refine bkD ?_|refine bkA ?_ _));exact BK293.out) Try.underlying90 rfl (by kernel_rfl)) rfl ?_
     exact ⟨_,by first|rfl|(simp [errW_none,errW_some] <;> rfl)|(simp [*,errW_none,errW_some] <;> rfl),by (with_reducible repeat (first|apply Kd.R_alloc|apply Kd.RdN|apply Kd.RdW));exact Kd.R_mono (Kd.R_far (p:=⟨gb293,0,none⟩) (Kd.R_types HO302.out BK293.out (by decide)) (fun _ hk=>hk.2) (.slice Ao33 y300.length co33)) (fun _ hk=>hk.1.1),by repeat (first|(with_reducible first|exact HB.out|apply bdA|apply bdN|apply bd1|refine bdS ?_ GE292.out|refine bdS ?_ GE293.out|refine bdS ?_ GE296.out)|exact HB.out),by repeat (first|(with_reducible first|exact HK.out|apply Kept.alloc|apply Kept.drewN|apply Kept.drew|refine Kept.setCell ?_ (.inr GW292.out) _|refine Kept.setCell ?_ (.inr GW293.out) _|refine Kept.setCell ?_ (.inr GW296.out) _)|exact HK.out)⟩
    ·rw [if_neg c16] at H
     exact absurd H (by simp)
   ·rw [if_neg c15] at H
    exact absurd H (by simp)
 ·replace c4:=Bool.eq_false_iff.mpr c4
  subst c4
  have H1:(some (l0_0,0,81))=some (r1,r2,r3):=by rw [if_neg (show ¬ (false=true) by decide)] at H;exact H
  clear H
  have H:=H1
  clear H1
  simp only [Option.some.injEq,Prod.mk.injEq] at H
  obtain ⟨rfl,rfl,rfl⟩:=H
  obtain ⟨Ao39,co39,eo39⟩:=Kd.R_slice HO0_0.out
  subst eo39
  go_enter Try.func85,Try.ntmps85
  go_wp2_with (first|((with_reducible refine gtD (N:=2) rfl ?_);refine bxE ?hg (N:=2) ?hd (cs:=#[.slice Ao39 l0_0.length co39]) (t:=90) ?hr ?_;(case hd=>rfl);(case hg=>rfl);(case hr=>first|(go_simp;done)|(go_simp;rfl));intro gb292 hg w40 hbox hb;have n0_:=As0.mk (Kd.RbW (by (with_reducible repeat (first|apply Kd.R_alloc|apply Kd.RdN|apply Kd.RdW));exact HO0_0.out) hb);have n1_:=As0.mk (Kept.below (S:=(fun k_=>P0_0_ k_)) (by repeat (first|(with_reducible first|exact HK.out|apply Kept.alloc|apply Kept.drewN|apply Kept.drew)|exact HK.out)) hb);have n2_:=As0.mk (bdT (by repeat (first|(with_reducible first|exact HB.out|apply bdA|apply bdN|apply bd1)|exact HB.out)) hb);have n3_:=As0.mk (hbox);have n4_:=As0.mk ((by rw [hg];exact (by first|exact HK.out.1|exact (show Kept w _ (fun k_=>P0_0_ k_) from by repeat (first|(with_reducible first|exact HK.out|apply Kept.alloc|apply Kept.drewN|apply Kept.drew)|exact HK.out)).1):w.heap.size≤gb292));have n5_:=As0.mk ((by rw [hg];exact (bdZ (by repeat (first|(with_reducible first|exact HB.out|apply bdA|apply bdN|apply bd1)|exact HB.out))):w0.heap.size≤gb292));clear HO0_0;clear HK;clear HB;have HO0_0:=n0_;have HK:=n1_;have HB:=n2_;have BK292:=n3_;have GW292:=n4_;have GE292:=n5_;clear n0_ n1_ n2_ n3_ n4_ n5_;clear hb hbox hg)|((with_reducible refine gtD (N:=4) rfl ?_);refine bxE ?hg (N:=4) ?hd (cs:=#[.slice none 0 0]) (t:=90) ?hr ?_;(case hd=>rfl);(case hg=>rfl);(case hr=>first|(go_simp;done)|(go_simp;rfl));intro gb293 hg w41 hbox hb;have n0_:=As0.mk (Kd.RbW (by (with_reducible repeat (first|apply Kd.R_alloc|apply Kd.RdN|apply Kd.RdW));exact HO0_0.out) hb);have n1_:=As0.mk (bkB (g:=gb292) (o:=.cells #[.slice Ao39 l0_0.length co39] 90 (0,0)) (by (with_reducible repeat (first|refine bkN ?_ _|refine bkD ?_|refine bkA ?_ _));exact BK292.out) hb);have n2_:=As0.mk (Kept.below (S:=(fun k_=>P0_0_ k_)) (by repeat (first|(with_reducible first|exact HK.out|apply Kept.alloc|apply Kept.drewN|apply Kept.drew|refine Kept.setCell ?_ (.inr GW292.out) _)|exact HK.out)) hb);have n3_:=As0.mk (bdT (by repeat (first|(with_reducible first|exact HB.out|apply bdA|apply bdN|apply bd1|refine bdS ?_ GE292.out)|exact HB.out)) hb);have n4_:=As0.mk (hbox);have n5_:=As0.mk ((by rw [hg];exact (by first|exact HK.out.1|exact (show Kept w _ (fun k_=>P0_0_ k_) from by repeat (first|(with_reducible first|exact HK.out|apply Kept.alloc|apply Kept.drewN|apply Kept.drew|refine Kept.setCell ?_ (.inr GW292.out) _)|exact HK.out)).1):w.heap.size≤gb293));have n6_:=As0.mk ((by rw [hg];exact (bdZ (by repeat (first|(with_reducible first|exact HB.out|apply bdA|apply bdN|apply bd1|refine bdS ?_ GE292.out)|exact HB.out))):w0.heap.size≤gb293));have n7_:=As0.mk ((by rw [hg];exact Nat.ne_of_lt (blk_lt (g:=gb292) (o:=.cells #[.slice Ao39 l0_0.length co39] 90 (0,0)) (by (with_reducible repeat (first|refine bkN ?_ _|refine bkD ?_|refine bkA ?_ _));exact BK292.out)):gb292≠gb293));have n8_:=As0.mk ((by rw [hg];exact Nat.ne_of_gt (blk_lt (g:=gb292) (o:=.cells #[.slice Ao39 l0_0.length co39] 90 (0,0)) (by (with_reducible repeat (first|refine bkN ?_ _|refine bkD ?_|refine bkA ?_ _));exact BK292.out)):gb293≠gb292));clear HO0_0;clear BK292;clear HK;clear HB;have HO0_0:=n0_;have BK292:=n1_;have HK:=n2_;have HB:=n3_;have BK293:=n4_;have GW293:=n5_;have GE293:=n6_;have NB292_293:=n7_;have NB293_292:=n8_;clear n0_ n1_ n2_ n3_ n4_ n5_ n6_ n7_ n8_;clear hb hbox hg)|((with_reducible refine gate_callee (f:=87) rfl ?_);refine goesL_ (some 11) rfl rfl Try.func87 (by kernel_rfl) rfl #[.string a1] rfl (by (try simp only [List.map_toArray,List.map_cons,List.map_nil]);first|done|rfl|(simp only [List.length_drop,List.length_take];rfl)) ?_;(with_reducible refine (spindleref8_Named.calls k a1 false _ A3.out).mono ?_);rintro e w' ⟨rfl,⟨nd,rfl⟩⟩;refine ⟨_,rfl,?_⟩;(try (rw [drewN_self w41];generalize hq_:World.drewN w41 _=w41;have n0_:As0 (Kd.R Kd.string 9 w41 w0.heap.size (fun k_=>(P0_0_ k_∨w.heap.size≤k_)) (.slice Ao39 l0_0.length co39) l0_0):=⟨by rw [← hq_];exact (by (with_reducible repeat (first|apply Kd.R_alloc|apply Kd.RdN|apply Kd.RdW));exact HO0_0.out)⟩;have n1_:As0 (w41.heap[gb292]?=some (.cells #[.slice Ao39 l0_0.length co39] 90 (0,0))):=⟨by rw [← hq_];exact (by (with_reducible repeat (first|refine bkN ?_ _|refine bkD ?_|refine bkA ?_ _));exact BK292.out)⟩;have n2_:As0 (w41.heap[gb293]?=some (.cells #[.slice none 0 0] 90 (0,0))):=⟨by rw [← hq_];exact (by (with_reducible repeat (first|refine bkN ?_ _|refine bkD ?_|refine bkA ?_ _));exact BK293.out)⟩;have n3_:As0 (Kept w w41 (fun k_=>P0_0_ k_)):=⟨by rw [← hq_];exact (by repeat (first|(with_reducible first|exact HK.out|apply Kept.alloc|apply Kept.drewN|apply Kept.drew|refine Kept.setCell ?_ (.inr GW292.out) _|refine Kept.setCell ?_ (.inr GW293.out) _)|exact HK.out))⟩;have n4_:As0 (Below w0.heap.size w0 w41):=⟨by rw [← hq_];exact (by repeat (first|(with_reducible first|exact HB.out|apply bdA|apply bdN|apply bd1|refine bdS ?_ GE292.out|refine bdS ?_ GE293.out)|exact HB.out))⟩;clear HO0_0 BK292 BK293 HK HB hq_;have HO0_0:=n0_;have BK292:=n1_;have BK293:=n2_;have HK:=n3_;have HB:=n4_;clear n0_ n1_ n2_ n3_ n4_));have hnb42:=NB292_293.out;have hnc42:=NB293_292.out;have hcz43_0:w41.cell? ⟨gb292,0,none⟩=some (.slice Ao39 l0_0.length co39):=(bkC BK292.out 0).trans rfl;have hfz43_0:=bkF BK292.out 0;have hcz44_0:w41.cell? ⟨gb293,0,none⟩=some (.slice none 0 0):=(bkC BK293.out 0).trans rfl;have hfz44_0:=bkF BK293.out 0))
  refine bodyPost_ret (results_ctt rfl _ _ gb293 90 #[.slice Ao39 l0_0.length co39] (0,0) _ rfl (by (with_reducible repeat (first|refine bkN ?_ _|refine bkD ?_|refine bkA ?_ _));refine bkP (cs:=#[.slice none 0 0]) ?_ 0 _ rfl;(with_reducible repeat (first|refine bkN ?_ _|refine bkD ?_|refine bkA ?_ _));exact BK293.out) Try.underlying90 rfl (by kernel_rfl)) rfl ?_
  exact ⟨_,by first|rfl|(simp [errW_none,errW_some] <;> rfl)|(simp [*,errW_none,errW_some] <;> rfl),by (with_reducible repeat (first|apply Kd.R_alloc|apply Kd.RdN|apply Kd.RdW));exact Kd.R_mono (Kd.R_far (p:=⟨gb293,0,none⟩) (Kd.R_types HO0_0.out BK293.out (by decide)) (fun _ hk=>hk.2) (.slice Ao39 l0_0.length co39)) (fun _ hk=>hk.1),by repeat (first|(with_reducible first|exact HB.out|apply bdA|apply bdN|apply bd1|refine bdS ?_ GE292.out|refine bdS ?_ GE293.out)|exact HB.out),by repeat (first|(with_reducible first|exact HK.out|apply Kept.alloc|apply Kept.drewN|apply Kept.drew|refine Kept.setCell ?_ (.inr GW292.out) _|refine Kept.setCell ?_ (.inr GW293.out) _)|exact HK.out)⟩
end Go.Proofs.Ytbeikcckcjadbaa.PI
end
