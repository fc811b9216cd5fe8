/- Parts of the proof, laid together by a program of this session (pack.py): PIx14, PIx13. Of the kit's print what the claim does not use is left out. -/
import Derived.Test.YtbeikcckcjadbaaZL4
set_option linter.unusedVariables false
set_option linter.unusedSimpArgs false
set_option maxRecDepth 100000
set_option maxHeartbeats 16000000
section
namespace Go.Proofs.Ytbeikcckcjadbaa.PI
open Go.RowKit Go.Proofs.YtbeikcckcjadbaaW.PrintWords Go.Proofs.YtbeikcckcjadbaaW.PrintLast Go.Proofs.YtbeikcckcjadbaaW.PrintMore
attribute [local go_sem] isSome_setCell max2_int min2_int max_two min_two max_three min_three max_four min_four
def sr8b.l0:Nat→List Int→Int→List ByteArray→Option (List Int)
 | 0,_,_,_=>none
 | k+1,x3,x4,x328000=>if x4<(x328000.length:Int) then (if 0≤x4 then (if x3.length+(rdOf ByteArray.empty x328000 x4).size<140737488355328 then ((some (x3 ++ bytesOf (rdOf ByteArray.empty x328000 x4):List Int)).bind fun y332=>(if y332.length<140737488355328 then (sr8b.l0 k (y332 ++ [0]) (wrap64 (x4+1)) x328000) else (none))) else (none)) else (none)) else (some x3)
def sr8b.f (k:Nat) (l0_0:List ByteArray):Option (List Int):=sr8b.l0 k (([0]:List Int)) 0 l0_0
theorem sr8b.calls (k:Nat) (A0_0:Option Addr) (c0_0:Nat) (l0_0:List ByteArray) (r:List Int) (w:World) (hr0_0:Kd.C Kd.string w A0_0 l0_0.length l0_0) (hc0_0:l0_0.length≤c0_0) (h:sr8b.f k l0_0=some r) :
  Calls Try.prog 58 #[.agg #[.slice A0_0 l0_0.length c0_0]] w fun e w'=>∃ v0_:Value,e=.returned (v0_)∧Kd.R (Kd.int .u8) 5 w' w.heap.size (fun _=>True) v0_ r∧Below w.heap.size w w':=by
 have hu90:=Try.underlying90
 have HR0_0:=As0.mk hr0_0
 have HC0_0:=As0.mk hc0_0
 clear hr0_0 hc0_0
 have HB:=As0.mk (Below.refl w.heap.size w)
 have H:(sr8b.l0 k (([0]:List Int)) 0 l0_0)=some r:=h
 clear h
 obtain ⟨y328,hy328⟩:∃ y_:List Int,y_=(([0]:List Int)):=⟨_,rfl⟩
 replace H:(sr8b.l0 k y328 0 l0_0)=some r:=by first|(rw [hy328];with_reducible exact H)|(have H2_:=(Option.bind_some _ _).symm.trans H;rw [hy328];with_reducible exact H2_)|(have H2_:=(Option.bind_some _ _).symm.trans H;with_reducible exact H2_)|with_reducible exact H|(rw [hy328];exact H)|exact H
 have Ny328:=As0.mk hy328
 clear hy328
 have H':=As0.mk H
 clear H
 go_enter Try.func58,Try.ntmps58
 go_wp2_with (first|((with_reducible refine gtD (N:=1) rfl ?_);refine bxE ?hg (N:=1) ?hd (cs:=#[.slice A0_0 l0_0.length c0_0]) (t:=90) ?hr ?_;(case hd=>rfl);(case hg=>rfl);(case hr=>first|(go_simp;done)|(go_simp;rfl));intro gb327 hg w2 hbox hb;have n0_:=As0.mk (bdT (by repeat (first|(with_reducible first|exact HB.out|apply bdA|apply bdN|apply bd1)|exact HB.out)) hb);have n1_:=As0.mk (hbox);have n2_:=As0.mk ((by rw [hg];exact (bdZ (by repeat (first|(with_reducible first|exact HB.out|apply bdA|apply bdN|apply bd1)|exact HB.out))):w.heap.size≤gb327));have n3_:=As0.mk ((by rw [hg];exact (bdZ (by repeat (first|(with_reducible first|exact HB.out|apply bdA|apply bdN|apply bd1)|exact HB.out))):w.heap.size≤gb327));clear HB;have HB:=n0_;have BK327:=n1_;have GW327:=n2_;have GE327:=n3_;clear n0_ n1_ n2_ n3_;clear hb hbox hg)|((with_reducible refine gtD (N:=5) rfl ?_);refine Kd.R_lit (Kd.int .u8) _ 5 ?hg (N:=5) ?hd (xs:=([0]:List Int)) (inner:=[.int .u8 0]) (ok:=fun _=>True) (okp:=fun _=>True) ?hr ?hp (fun _ hk=>hk) trivial (Below.refl _ _) (Nat.le_refl _) (by simp) ?_;(case hd=>rfl);(case hg=>rfl);(case hr=>first|(go_simp;done)|(go_simp;rfl));(case hp=>exact (Reps.one (show Kd.M (Kd.int .u8) _ _ _ 0 [.int .u8 0] from rfl) (Reps.none _ _)));intro v329 w3 ho4 hb hg_ hnew_;clear hg_ hnew_;(first|rw [← Ny328.out] at ho4|(simp only [Int.reduceToNat] at ho4;rw [← Ny328.out] at ho4));have n0_:=As0.mk (Kd.R_lower ho4 (bdZ (by repeat (first|(with_reducible first|exact HB.out|apply bdA|apply bdN|apply bd1|refine bdS ?_ GE327.out)|exact HB.out))));have n1_:=As0.mk (bkB (g:=gb327) (o:=.cells #[.slice A0_0 l0_0.length c0_0] 90 (0,0)) (by (with_reducible repeat (first|refine bkN ?_ _|refine bkD ?_|refine bkA ?_ _));exact BK327.out) hb);have n2_:=As0.mk (bdT (by repeat (first|(with_reducible first|exact HB.out|apply bdA|apply bdN|apply bd1|refine bdS ?_ GE327.out)|exact HB.out)) hb);clear BK327;clear HB;have HO330:=n0_;have BK327:=n1_;have HB:=n2_;clear n0_ n1_ n2_;clear hb ho4))
 go_loopg [3,4] k (fun kq v3 v4 w'=>∃ (x3_1:List Int) (x4_1:Int),v4=.int .i64 x4_1∧As0 (sr8b.l0 kq x3_1 x4_1 l0_0=some r)∧As0 (kq≤k)∧As0 (Kd.R (Kd.int .u8) 5 w' w.heap.size (fun _=>True) v3 x3_1)∧As0 (w'.heap[gb327]?=some (.cells #[(.slice A0_0 l0_0.length c0_0)] 90 (0,0)))∧As0 (Below w.heap.size w w'))
 case atStart=>exact ⟨(y328),(0),(by first|rfl|(simp;done)|(simp [*];done)),H',⟨Nat.le_refl _⟩,⟨by (with_reducible repeat (first|apply Kd.R_alloc|apply Kd.RdN|apply Kd.RdW));exact HO330.out⟩,⟨by (with_reducible repeat (first|refine bkN ?_ _|refine bkD ?_|refine bkA ?_ _));exact BK327.out⟩,⟨by repeat (first|(with_reducible first|exact HB.out|apply bdA|apply bdN|apply bd1|refine bdS ?_ GE327.out)|exact HB.out)⟩⟩
 case round =>
  clear H'
  try clear p2
  obtain ⟨x3_1,x4_1,rfl,HA,HK1,HO_3,BK327,HB⟩:=hrel
  cases gk with
  | zero=>exact absurd HA.out (by simp [sr8b.l0])
  | succ k1 =>
   have H:=HA.out
   clear HA
   simp only [sr8b.l0] at H
   by_cases c5:x4_1<(l0_0.length:Int)
   ·rw [if_pos c5] at H
    have c5b0:decide (x4_1<(l0_0.length:Int))=true:=decide_eq_true c5
    clear c5
    by_cases c6:0≤x4_1
    ·rw [if_pos c6] at H
     have c6b0:decide (0≤x4_1)=true:=decide_eq_true c6
     clear c6
     by_cases c7:x3_1.length+(rdOf ByteArray.empty l0_0 x4_1).size<140737488355328
     ·rw [if_pos c7] at H
      have LMc7:=As0.mk c7
      clear c7
      obtain ⟨y332,hy332⟩:∃ y_:List Int,y_=(x3_1 ++ bytesOf (rdOf ByteArray.empty l0_0 x4_1)):=⟨_,rfl⟩
      replace H:(if y332.length<140737488355328 then (sr8b.l0 k1 (y332 ++ [0]) (wrap64 (x4_1+1)) l0_0) else (none))=some r:=by first|(rw [hy332];with_reducible exact H)|(have H2_:=(Option.bind_some _ _).symm.trans H;rw [hy332];with_reducible exact H2_)|(have H2_:=(Option.bind_some _ _).symm.trans H;with_reducible exact H2_)|with_reducible exact H|(rw [hy332];exact H)|exact H
      have Ny332:=As0.mk hy332
      clear hy332
      by_cases c8:y332.length<140737488355328
      ·rw [if_pos c8] at H
       have LMc8:=As0.mk c8
       clear c8
       obtain ⟨y335,hy335⟩:∃ y_:List Int,y_=(y332 ++ [0]):=⟨_,rfl⟩
       replace H:(sr8b.l0 k1 y335 (wrap64 (x4_1+1)) l0_0)=some r:=by first|(rw [hy335];with_reducible exact H)|(have H2_:=(Option.bind_some _ _).symm.trans H;rw [hy335];with_reducible exact H2_)|(have H2_:=(Option.bind_some _ _).symm.trans H;with_reducible exact H2_)|with_reducible exact H|(rw [hy335];exact H)|exact H
       have Ny335:=As0.mk hy335
       clear hy335
       have H':=As0.mk H
       clear H
       have hcz9_0:wr.cell? ⟨gb327,0,none⟩=some (.slice A0_0 l0_0.length c0_0):=(bkC BK327.out 0).trans rfl
       have hfz9_0:=bkF BK327.out 0
       have p331:0≤(x4_1:Int):=of_decide_eq_true (by first|(with_reducible assumption)|assumption)
       have q331:x4_1<(l0_0.length:Int):=of_decide_eq_true (by first|(with_reducible assumption)|assumption)
       obtain ⟨ad331,e331,hx331_0⟩:=Kd.at_string HR0_0.out x4_1 p331 q331
       cases e331
       replace hx331_0:=(HB.out.cell (World.block_lt_of_cell? w _ hx331_0)).trans hx331_0
       replace p331:=eq_true p331
       replace q331:=eq_true q331
       go_wp2_with (first|(at_builtin;refine print_append_str (w0:=w) w.heap.size rfl (.tmp 13) _ 33 9 5 rfl Try.underlying33 Try.underlying9 info5 u3 x3_1 (rdOf ByteArray.empty l0_0 x4_1) rfl rfl ?aO ?aB ?aS ?aL ?_;(case aB=>exact (by repeat (first|(with_reducible first|exact HB.out|apply bdA|apply bdN|apply bd1|refine bdS ?_ GE327.out)|exact HB.out)));(case aO=>exact (Kd.own_of_R (by (with_reducible repeat (first|apply Kd.R_alloc|apply Kd.RdN|apply Kd.RdW));exact HO_3.out)));(case aS=>exact (bdZ (by repeat (first|(with_reducible first|exact HB.out|apply bdA|apply bdN|apply bd1|refine bdS ?_ GE327.out)|exact HB.out))));(case aL=>have:=LMc7.out;omega);intro v333 w10 ho0 hb hg;have ho:=Kd.R_of_own (h1:=fun _=>rfl) (ok:=fun _=>True) ho0 (fun _ _=>trivial);clear ho0;have hat:=True.intro;rw [← Ny332.out] at ho;change Kd.R (Kd.int .u8) 5 w10 w.heap.size (fun _=>True) v333 y332 at ho;have n0_:=As0.mk (blk_grown (g:=gb327) (o:=.cells #[.slice (some ad331) l0_0.length c0_0] 90 (0,0)) (by (with_reducible repeat (first|refine bkN ?_ _|refine bkD ?_|refine bkA ?_ _));exact BK327.out) hg (Kd.R_ne HO_3.out BK327.out (by decide)));have n1_:=As0.mk (hb);have n2_:=As0.mk (ho);clear BK327;clear HB;clear HO_3;have BK327:=n0_;have HB:=n1_;have HO334:=n2_;clear n0_ n1_ n2_;clear ho hb hg hat)|((with_reducible refine gate_builtin (b:=.append) (xs:=#[.tmp 20,.tmp 21]) rfl ?_);at_builtin;refine Kd.R_append (Kd.int .u8) (w0:=w) w.heap.size rfl (.tmp 20) (.tmp 21) 33 5 (.int .u8 0) 1 rfl Try.underlying33 info5 rfl (by decide) (by omega) v333 y332 0 [.int .u8 0] (fun _=>True) (fun _=>False) rfl rfl ?aP (fun _ hk=>hk.elim) ?aF ?aO ?aB ?aS ?aL ?_;(case aP=>exact rfl);(case aB=>exact (by repeat (first|(with_reducible first|exact HB.out|apply bdA|apply bdN|apply bd1|refine bdS ?_ GE327.out)|exact HB.out)));(case aF=>exact (fun _ _=>trivial));(case aO=>exact (by (with_reducible repeat (first|apply Kd.R_alloc|apply Kd.RdN|apply Kd.RdW));exact HO334.out));(case aS=>exact (bdZ (by repeat (first|(with_reducible first|exact HB.out|apply bdA|apply bdN|apply bd1|refine bdS ?_ GE327.out)|exact HB.out))));(case aL=>have:=LMc8.out;omega);intro v336 w11 ho hb hg hat;rw [← Ny335.out] at ho;have n0_:=As0.mk (blk_grown (g:=gb327) (o:=.cells #[.slice (some ad331) l0_0.length c0_0] 90 (0,0)) (by (with_reducible repeat (first|refine bkN ?_ _|refine bkD ?_|refine bkA ?_ _));exact BK327.out) hg (Kd.R_ne HO334.out BK327.out (by decide)));have n1_:=As0.mk (hb);have n2_:=As0.mk (ho);clear BK327;clear HB;clear HO334;have BK327:=n0_;have HB:=n1_;have HO337:=n2_;clear n0_ n1_ n2_;clear ho hb hg hat))
       go_roundg k1
       case measure=>have:=HK1.out;omega
       case rel=>exact ⟨(y335),(wrap64 (x4_1+1)),(by first|rfl|(simp;done)|(simp [*];done)),H',⟨by have:=HK1.out;omega⟩,⟨by (with_reducible repeat (first|apply Kd.R_alloc|apply Kd.RdN|apply Kd.RdW));exact HO337.out⟩,⟨by (with_reducible repeat (first|refine bkN ?_ _|refine bkD ?_|refine bkA ?_ _));exact BK327.out⟩,⟨by repeat (first|(with_reducible first|exact HB.out|apply bdA|apply bdN|apply bd1|refine bdS ?_ GE327.out)|exact HB.out)⟩⟩
      ·rw [if_neg c8] at H
       exact absurd H (by simp)
     ·rw [if_neg c7] at H
      exact absurd H (by simp)
    ·rw [if_neg c6] at H
     exact absurd H (by simp)
   ·rw [if_neg c5] at H
    have c5b0:decide (x4_1<(l0_0.length:Int))=false:=decide_eq_false c5
    clear c5
    obtain rfl:=Option.some.inj H
    have hcz12_0:wr.cell? ⟨gb327,0,none⟩=some (.slice A0_0 l0_0.length c0_0):=(bkC BK327.out 0).trans rfl
    have hfz12_0:=bkF BK327.out 0
    go_wp2
    go_ret
    exact ⟨_,by first|rfl|(simp [errW_none,errW_some] <;> rfl)|(simp [*,errW_none,errW_some] <;> rfl),by (with_reducible repeat (first|apply Kd.R_alloc|apply Kd.RdN|apply Kd.RdW));exact HO_3.out,by repeat (first|(with_reducible first|exact HB.out|apply bdA|apply bdN|apply bd1|refine bdS ?_ GE327.out)|exact HB.out)⟩
def spindleref17_laid.l0:Nat→Int→Int→List Int→Int→Option (List Int)
 | 0,_,_,_,_=>none
 | k+1,x0,x1,x5,x6=>if x6<x1 then (if 0≤(wrap64 (8*x6)) then (if x5.length<140737488355328 then (spindleref17_laid.l0 k x0 x1 (x5 ++ [(shr .i64 x0 (wrap64 (8*x6))) % 256]) (wrap64 (x6+1))) else (none)) else (none)) else (some x5)
def spindleref17_laid.f (k:Nat) (a0:Int) (a1:Int):Option (List Int):=spindleref17_laid.l0 k a0 a1 ([]:List Int) 0
theorem spindleref17_laid.calls (k:Nat) (a0:Int) (a1:Int) (r:List Int) (w:World) (h:spindleref17_laid.f k a0 a1=some r) :
  Calls Try.prog 60 #[.int .i64 a0,.int .i64 a1] w fun e w'=>∃ v0_:Value,e=.returned (v0_)∧Kd.R (Kd.int .u8) 5 w' w.heap.size (fun _=>True) v0_ r∧Below w.heap.size w w':=by
 have HB:=As0.mk (Below.refl w.heap.size w)
 have H:(spindleref17_laid.l0 k a0 a1 ([]:List Int) 0)=some r:=h
 clear h
 have H':=As0.mk H
 clear H
 go_enter Try.func60,Try.ntmps60
 go_wp2
 go_loopg [5,6] k (fun kq v5 v6 w'=>∃ (x5_1:List Int) (x6_1:Int),v6=.int .i64 x6_1∧As0 (spindleref17_laid.l0 kq a0 a1 x5_1 x6_1=some r)∧As0 (kq≤k)∧As0 (Kd.R (Kd.int .u8) 5 w' w.heap.size (fun _=>True) v5 x5_1)∧As0 (Below w.heap.size w w'))
 case atStart=>exact ⟨(([]:List Int)),(0),(by first|rfl|(simp;done)|(simp [*];done)),H',⟨Nat.le_refl _⟩,⟨by first|exact Kd.R_nil _ _ _ _ _|exact Kd.N_nil _ _ _ _ _|exact Kd.V_nil _ _ _ _ _|exact Kd.Q_nil _ _ _ _ _|exact Kd.S_nil _ _ _ _ _⟩,⟨by repeat (first|(with_reducible first|exact HB.out|apply bdA|apply bdN|apply bd1)|exact HB.out)⟩⟩
 case round =>
  clear H'
  try clear p2
  obtain ⟨x5_1,x6_1,rfl,HA,HK1,HO_5,HB⟩:=hrel
  cases gk with
  | zero=>exact absurd HA.out (by simp [spindleref17_laid.l0])
  | succ k1 =>
   have H:=HA.out
   clear HA
   simp only [spindleref17_laid.l0] at H
   by_cases c3:x6_1<a1
   ·rw [if_pos c3] at H
    have c3b0:decide (x6_1<a1)=true:=decide_eq_true c3
    clear c3
    obtain ⟨ji4,hji4⟩:∃ j_:Int,(wrap64 (8*x6_1))=j_:=⟨_,rfl⟩
    replace H:(if 0≤(ji4) then (if x5_1.length<140737488355328 then (spindleref17_laid.l0 k1 a0 a1 (x5_1 ++ [(shr .i64 a0 (ji4)) % 256]) (wrap64 (x6_1+1))) else (none)) else (none))=some r:=by first|(rw [hji4] at H;exact H)|(simp only [hji4] at H ⊢;exact H)
    have hji4w:(IntKind.i64.wrap (8*x6_1))=ji4:=(i64_w _).trans hji4
    by_cases c5:0≤(ji4)
    ·rw [if_pos c5] at H
     have c5b0:=eq_true c5
     have c5b1:decide (0≤(ji4))=true:=decide_eq_true c5
     clear c5
     obtain ⟨ji6,hji6⟩:∃ j_:Int,(shr .i64 a0 (ji4))=j_:=⟨_,rfl⟩
     replace H:(if x5_1.length<140737488355328 then (spindleref17_laid.l0 k1 a0 a1 (x5_1 ++ [(ji6) % 256]) (wrap64 (x6_1+1))) else (none))=some r:=by first|(rw [hji6] at H;exact H)|(simp only [hji6] at H ⊢;exact H)
     have hji6_:(a0 / 2 ^ min (ji4).toNat 64)=ji6:=hji6
     have hji6z:(ji4)≤64→(a0 / 2 ^ (ji4).toNat)=ji6:=shr_small hji6
     by_cases c7:x5_1.length<140737488355328
     ·rw [if_pos c7] at H
      have LMc7:=As0.mk c7
      clear c7
      obtain ⟨y338,hy338⟩:∃ y_:List Int,y_=(x5_1 ++ [(ji6) % 256]):=⟨_,rfl⟩
      replace H:(spindleref17_laid.l0 k1 a0 a1 y338 (wrap64 (x6_1+1)))=some r:=by first|(rw [hy338];with_reducible exact H)|(have H2_:=(Option.bind_some _ _).symm.trans H;rw [hy338];with_reducible exact H2_)|(have H2_:=(Option.bind_some _ _).symm.trans H;with_reducible exact H2_)|with_reducible exact H|(rw [hy338];exact H)|exact H
      have Ny338:=As0.mk hy338
      clear hy338
      have H':=As0.mk H
      clear H
      go_wp2_with (first|((with_reducible refine gate_builtin (b:=.append) (xs:=#[.tmp 12,.tmp 18]) rfl ?_);at_builtin;refine Kd.R_append (Kd.int .u8) (w0:=w) w.heap.size rfl (.tmp 12) (.tmp 18) 33 5 (.int .u8 0) 1 rfl Try.underlying33 info5 rfl (by decide) (by omega) u5 x5_1 ((ji6) % 256) [.int .u8 ((ji6) % 256)] (fun _=>True) (fun _=>False) rfl rfl ?aP (fun _ hk=>hk.elim) ?aF ?aO ?aB ?aS ?aL ?_;(case aP=>exact rfl);(case aB=>exact (by repeat (first|(with_reducible first|exact HB.out|apply bdA|apply bdN|apply bd1)|exact HB.out)));(case aF=>exact (fun _ _=>trivial));(case aO=>exact (by (with_reducible repeat (first|apply Kd.R_alloc|apply Kd.RdN|apply Kd.RdW));exact HO_5.out));(case aS=>exact (bdZ (by repeat (first|(with_reducible first|exact HB.out|apply bdA|apply bdN|apply bd1)|exact HB.out))));(case aL=>have:=LMc7.out;omega);intro v339 w8 ho hb hg hat;rw [← Ny338.out] at ho;have n0_:=As0.mk (hb);have n1_:=As0.mk (ho);clear HB;clear HO_5;have HB:=n0_;have HO340:=n1_;clear n0_ n1_;clear ho hb hg hat))
      go_roundg k1
      case measure=>have:=HK1.out;omega
      case rel=>exact ⟨(y338),(wrap64 (x6_1+1)),(by first|rfl|(simp;done)|(simp [*];done)),H',⟨by have:=HK1.out;omega⟩,⟨by (with_reducible repeat (first|apply Kd.R_alloc|apply Kd.RdN|apply Kd.RdW));exact HO340.out⟩,⟨by repeat (first|(with_reducible first|exact HB.out|apply bdA|apply bdN|apply bd1)|exact HB.out)⟩⟩
     ·rw [if_neg c7] at H
      exact absurd H (by simp)
    ·rw [if_neg c5] at H
     exact absurd H (by simp)
   ·rw [if_neg c3] at H
    have c3b0:decide (x6_1<a1)=false:=decide_eq_false c3
    clear c3
    obtain rfl:=Option.some.inj H
    go_wp2
    go_ret
    exact ⟨_,by first|rfl|(simp [errW_none,errW_some] <;> rfl)|(simp [*,errW_none,errW_some] <;> rfl),by (with_reducible repeat (first|apply Kd.R_alloc|apply Kd.RdN|apply Kd.RdW));exact HO_5.out,by repeat (first|(with_reducible first|exact HB.out|apply bdA|apply bdN|apply bd1)|exact HB.out)⟩
def spindleref17_slot.f (k:Nat) (a0_0:Int) (a0_1:Int) (a0_2:Int) (a0_3:Int) (a0_4:Int):Option (List Int):=(some (([(a0_0) % 256,(wrap64 (a0_1+(wrap64 (16*a0_2)))) % 256]:List Int):List Int)).bind fun y342=>((spindleref17_laid.f k a0_3 2).bind fun t345=>(if y342.length+t345.length<140737488355328 then ((some (y342 ++ t345:List Int)).bind fun y348=>((spindleref17_laid.f k a0_4 4).bind fun t351=>(if y348.length+t351.length<140737488355328 then ((some (y348 ++ t351:List Int)).bind fun y354=>((spindleref17_wide.f a0_0 a0_1 a0_2 a0_3 a0_4).bind fun t357=>(if t357=true then ((some (([0,0,0,0]:List Int):List Int)).bind fun y358=>(if y354.length+y358.length<140737488355328 then ((some (y354 ++ y358:List Int)).bind fun y361=>((spindleref17_laid.f k (a0_4 / 4294967296) 4).bind fun t364=>(if y361.length+t364.length<140737488355328 then (some (y361 ++ t364)) else (none)))) else (none))) else (some y354)))) else (none)))) else (none)))
def spindlelaw0_CopyBytes.f (l0:List Int):Option (List Int):=(some (([]:List Int):List Int)).bind fun y400=>(if y400.length+l0.length<140737488355328 then (some (y400 ++ l0)) else (none))
def cmp_isNaN_int.f (a0:Int):Option (Bool):=some (a0 != a0)
def cmp_Less_int.f (a0:Int) (a1:Int):Option (Bool):=(cmp_isNaN_int.f a0).bind fun t414=>(if t414=true then ((cmp_isNaN_int.f a1).bind fun t415=>(if t415=true then (some (decide (a0<a1))) else (some true))) else (some (decide (a0<a1))))
def slices_isNaN_int.f (a0:Int):Option (Bool):=some (a0 != a0)
end Go.Proofs.Ytbeikcckcjadbaa.PI
end
section
namespace Go.Proofs.Ytbeikcckcjadbaa.PI
open Go.RowKit Go.Proofs.YtbeikcckcjadbaaW.PrintWords Go.Proofs.YtbeikcckcjadbaaW.PrintLast Go.Proofs.YtbeikcckcjadbaaW.PrintMore
attribute [local go_sem] isSome_setCell max2_int min2_int max_two min_two max_three min_three max_four min_four
mutual
def sr17s.l0:Nat→List Int→Int→List (S54)→List (S68)→List (S56)→Int→List ByteArray→Option (List ByteArray × List Int)
 | 0,_,_,_,_,_,_,_=>none
 | k+1,x5,x6,x305000,x305001,x305002,x305003,x307000=>if x6<(x305001.length:Int) then (if 0≤x6 then ((sr8a.f k x307000 ((rd_T68 x305001 x6).f0)).bind fun bt308=>(if x5.length<17592186044416 then (sr17s.l0 k (x5 ++ [bt308.2.1]) (wrap64 (x6+1)) x305000 x305001 x305002 x305003 bt308.1) else (none))) else (none)) else (sr17s.l1 k x5 0 x305000 x305001 x305002 x305003 x307000)
def sr17s.l1:Nat→List Int→Int→List (S54)→List (S68)→List (S56)→Int→List ByteArray→Option (List ByteArray × List Int)
 | 0,_,_,_,_,_,_,_=>none
 | k+1,x5,x10,x305000,x305001,x305002,x305003,x307000=>if x10<(x305002.length:Int) then (if 0≤x10 then ((sr8a.f k x307000 ((rd_T56 x305002 x10).f0)).bind fun bt318=>(if x5.length<17592186044416 then (sr17s.l1 k (x5 ++ [bt318.2.1]) (wrap64 (x10+1)) x305000 x305001 x305002 x305003 bt318.1) else (none))) else (none)) else (some (x307000,x5))
end
def sr17s.f (k:Nat) (l0_0:List (S54)) (l0_1:List (S68)) (l0_2:List (S56)) (a0_3:Int):Option (List ByteArray × List Int):=sr17s.l0 k ([]:List Int) 0 l0_0 l0_1 l0_2 a0_3 ([]:List ByteArray)
def sr17s.T6:Bool × List (List Nat × List Nat):=(true,[([],[]),([],[]),([1],[1]),([],[]),([2,3],[2,3]),([4],[4]),([5],[5]),([0,6],[0,6]),([7],[7]),([8],[8]),([8],[8]),([8],[8]),([],[]),([12,9,7,0,1,2,3,4,5,6,7,8,9,12],[9,12]),([10,13,0,1,2,3,4,5,6,7,8,9,10,12,13],[10]),([11,14,0,1,2,3,4,5,6,7,8,9,10,11,12,13,14],[11])])
def sr17s.B6:List Nat:=[0,0,2,0,14,30,62,127,255,511,511,511,0,5119,14335,32767]
theorem sr17s.tab6:rtab .any (opsOf Try.f57 6)=sr17s.T6:=by kernel_rfl
theorem sr17s.bits6:waitsOk sr17s.T6.2 sr17s.B6=true:=by kernel_rfl
def sr17s.T12:Bool × List (List Nat × List Nat):=(true,[([],[]),([],[]),([1],[1]),([],[]),([2,3],[2,3]),([4],[4]),([5],[5]),([0,6],[0,6]),([7],[7]),([8],[8]),([8],[8]),([8],[8]),([],[]),([12,9,7,0,1,2,3,4,5,6,7,8,9,12],[9,12]),([10,13,0,1,2,3,4,5,6,7,8,9,10,12,13],[10]),([11,14,0,1,2,3,4,5,6,7,8,9,10,11,12,13,14],[11])])
def sr17s.B12:List Nat:=[0,0,2,0,14,30,62,127,255,511,511,511,0,5119,14335,32767]
theorem sr17s.tab12:rtab .any (opsOf Try.f57 12)=sr17s.T12:=by kernel_rfl
theorem sr17s.bits12:waitsOk sr17s.T12.2 sr17s.B12=true:=by kernel_rfl
theorem sr17s.calls (k:Nat) (A0_0:Option Addr) (c0_0:Nat) (l0_0:List (S54)) (A0_1:Option Addr) (c0_1:Nat) (l0_1:List (S68)) (A0_2:Option Addr) (c0_2:Nat) (l0_2:List (S56)) (a0_3:Int) (r1:List ByteArray) (r2:List Int) (w:World) (hr0_0:Kd.C k54 w A0_0 l0_0.length l0_0) (hc0_0:l0_0.length≤c0_0) (hr0_1:Kd.C k68 w A0_1 l0_1.length l0_1) (hc0_1:l0_1.length≤c0_1) (hr0_2:Kd.C k56 w A0_2 l0_2.length l0_2) (hc0_2:l0_2.length≤c0_2) (h:sr17s.f k l0_0 l0_1 l0_2 a0_3=some (r1,r2)) :
  Calls Try.prog 57 #[.agg #[.slice A0_0 l0_0.length c0_0,.slice A0_1 l0_1.length c0_1,.slice A0_2 l0_2.length c0_2,.int .i64 a0_3]] w fun e w'=>∃ v0_ v1_:Value,e=.returned (.tuple #[.agg #[v0_],v1_])∧Kd.R Kd.string 9 w' w.heap.size (fun _=>True) v0_ r1∧Kd.R (Kd.int .i64) 3 w' w.heap.size (fun _=>True) v1_ r2∧Below w.heap.size w w':=by
 have hu26:=Try.underlying26
 have hu90:=Try.underlying90
 have HR0_0:=As0.mk hr0_0
 have HC0_0:=As0.mk hc0_0
 clear hr0_0 hc0_0
 have HR0_1:=As0.mk hr0_1
 have HC0_1:=As0.mk hc0_1
 clear hr0_1 hc0_1
 have HR0_2:=As0.mk hr0_2
 have HC0_2:=As0.mk hc0_2
 clear hr0_2 hc0_2
 have HB:=As0.mk (Below.refl w.heap.size w)
 have H:(sr17s.l0 k ([]:List Int) 0 l0_0 l0_1 l0_2 a0_3 ([]:List ByteArray))=some (r1,r2):=h
 clear h
 have H':=As0.mk H
 clear H
 go_enter Try.func57,Try.ntmps57
 go_wp2_with (first|((with_reducible refine gtD (N:=1) rfl ?_);refine bxE ?hg (N:=1) ?hd (cs:=#[.slice A0_0 l0_0.length c0_0,.slice A0_1 l0_1.length c0_1,.slice A0_2 l0_2.length c0_2,.int .i64 a0_3]) (t:=26) ?hr ?_;(case hd=>rfl);(case hg=>rfl);(case hr=>first|(go_simp;done)|(go_simp;rfl));intro gb304 hg w2 hbox hb;have n0_:=As0.mk (bdT (by repeat (first|(with_reducible first|exact HB.out|apply bdA|apply bdN|apply bd1)|exact HB.out)) hb);have n1_:=As0.mk (hbox);have n2_:=As0.mk ((by rw [hg];exact (bdZ (by repeat (first|(with_reducible first|exact HB.out|apply bdA|apply bdN|apply bd1)|exact HB.out))):w.heap.size≤gb304));have n3_:=As0.mk ((by rw [hg];exact (bdZ (by repeat (first|(with_reducible first|exact HB.out|apply bdA|apply bdN|apply bd1)|exact HB.out))):w.heap.size≤gb304));clear HB;have HB:=n0_;have BK304:=n1_;have GW304:=n2_;have GE304:=n3_;clear n0_ n1_ n2_ n3_;clear hb hbox hg)|((with_reducible refine gtD (N:=2) rfl ?_);refine bxE ?hg (N:=2) ?hd (cs:=#[.slice none 0 0]) (t:=90) ?hr ?_;(case hd=>rfl);(case hg=>rfl);(case hr=>first|(go_simp;done)|(go_simp;rfl));intro gb305 hg w3 hbox hb;have n0_:=As0.mk (bkB (g:=gb304) (o:=.cells #[.slice A0_0 l0_0.length c0_0,.slice A0_1 l0_1.length c0_1,.slice A0_2 l0_2.length c0_2,.int .i64 a0_3] 26 (0,0)) (by (with_reducible repeat (first|refine bkN ?_ _|refine bkD ?_|refine bkA ?_ _));exact BK304.out) hb);have n1_:=As0.mk (bdT (by repeat (first|(with_reducible first|exact HB.out|apply bdA|apply bdN|apply bd1|refine bdS ?_ GE304.out)|exact HB.out)) hb);have n2_:=As0.mk (hbox);have n3_:=As0.mk ((by rw [hg];exact (bdZ (by repeat (first|(with_reducible first|exact HB.out|apply bdA|apply bdN|apply bd1|refine bdS ?_ GE304.out)|exact HB.out))):w.heap.size≤gb305));have n4_:=As0.mk ((by rw [hg];exact (bdZ (by repeat (first|(with_reducible first|exact HB.out|apply bdA|apply bdN|apply bd1|refine bdS ?_ GE304.out)|exact HB.out))):w.heap.size≤gb305));have n5_:=As0.mk ((by rw [hg];exact Nat.ne_of_lt (blk_lt (g:=gb304) (o:=.cells #[.slice A0_0 l0_0.length c0_0,.slice A0_1 l0_1.length c0_1,.slice A0_2 l0_2.length c0_2,.int .i64 a0_3] 26 (0,0)) (by (with_reducible repeat (first|refine bkN ?_ _|refine bkD ?_|refine bkA ?_ _));exact BK304.out)):gb304≠gb305));have n6_:=As0.mk ((by rw [hg];exact Nat.ne_of_gt (blk_lt (g:=gb304) (o:=.cells #[.slice A0_0 l0_0.length c0_0,.slice A0_1 l0_1.length c0_1,.slice A0_2 l0_2.length c0_2,.int .i64 a0_3] 26 (0,0)) (by (with_reducible repeat (first|refine bkN ?_ _|refine bkD ?_|refine bkA ?_ _));exact BK304.out)):gb305≠gb304));clear BK304;clear HB;have BK304:=n0_;have HB:=n1_;have BK305:=n2_;have GW305:=n3_;have GE305:=n4_;have NB304_305:=n5_;have NB305_304:=n6_;clear n0_ n1_ n2_ n3_ n4_ n5_ n6_;clear hb hbox hg)|((with_reducible refine gtD (N:=4) rfl ?_);refine bxE ?hg (N:=4) ?hd (cs:=#[.slice none 0 0]) (t:=90) ?hr ?_;(case hd=>rfl);(case hg=>rfl);(case hr=>first|(go_simp;done)|(go_simp;rfl));intro gb306 hg w4 hbox hb;have n0_:=As0.mk (bkB (g:=gb304) (o:=.cells #[.slice A0_0 l0_0.length c0_0,.slice A0_1 l0_1.length c0_1,.slice A0_2 l0_2.length c0_2,.int .i64 a0_3] 26 (0,0)) (by (with_reducible repeat (first|refine bkN ?_ _|refine bkD ?_|refine bkA ?_ _));exact BK304.out) hb);have n1_:=As0.mk (bkB (g:=gb305) (o:=.cells #[.slice none 0 0] 90 (0,0)) (by (with_reducible repeat (first|refine bkN ?_ _|refine bkD ?_|refine bkA ?_ _));exact BK305.out) hb);have n2_:=As0.mk (bdT (by repeat (first|(with_reducible first|exact HB.out|apply bdA|apply bdN|apply bd1|refine bdS ?_ GE304.out|refine bdS ?_ GE305.out)|exact HB.out)) hb);have n3_:=As0.mk (hbox);have n4_:=As0.mk ((by rw [hg];exact (bdZ (by repeat (first|(with_reducible first|exact HB.out|apply bdA|apply bdN|apply bd1|refine bdS ?_ GE304.out|refine bdS ?_ GE305.out)|exact HB.out))):w.heap.size≤gb306));have n5_:=As0.mk ((by rw [hg];exact (bdZ (by repeat (first|(with_reducible first|exact HB.out|apply bdA|apply bdN|apply bd1|refine bdS ?_ GE304.out|refine bdS ?_ GE305.out)|exact HB.out))):w.heap.size≤gb306));have n6_:=As0.mk ((by rw [hg];exact Nat.ne_of_lt (blk_lt (g:=gb304) (o:=.cells #[.slice A0_0 l0_0.length c0_0,.slice A0_1 l0_1.length c0_1,.slice A0_2 l0_2.length c0_2,.int .i64 a0_3] 26 (0,0)) (by (with_reducible repeat (first|refine bkN ?_ _|refine bkD ?_|refine bkA ?_ _));exact BK304.out)):gb304≠gb306));have n7_:=As0.mk ((by rw [hg];exact Nat.ne_of_gt (blk_lt (g:=gb304) (o:=.cells #[.slice A0_0 l0_0.length c0_0,.slice A0_1 l0_1.length c0_1,.slice A0_2 l0_2.length c0_2,.int .i64 a0_3] 26 (0,0)) (by (with_reducible repeat (first|refine bkN ?_ _|refine bkD ?_|refine bkA ?_ _));exact BK304.out)):gb306≠gb304));have n8_:=As0.mk ((by rw [hg];exact Nat.ne_of_lt (blk_lt (g:=gb305) (o:=.cells #[.slice none 0 0] 90 (0,0)) (by (with_reducible repeat (first|refine bkN ?_ _|refine bkD ?_|refine bkA ?_ _));exact BK305.out)):gb305≠gb306));have n9_:=As0.mk ((by rw [hg];exact Nat.ne_of_gt (blk_lt (g:=gb305) (o:=.cells #[.slice none 0 0] 90 (0,0)) (by (with_reducible repeat (first|refine bkN ?_ _|refine bkD ?_|refine bkA ?_ _));exact BK305.out)):gb306≠gb305));clear BK304;clear BK305;clear HB;have BK304:=n0_;have BK305:=n1_;have HB:=n2_;have BK306:=n3_;have GW306:=n4_;have GE306:=n5_;have NB304_306:=n6_;have NB306_304:=n7_;have NB305_306:=n8_;have NB306_305:=n9_;clear n0_ n1_ n2_ n3_ n4_ n5_ n6_ n7_ n8_ n9_;clear hb hbox hg))
 go_loopg [5,6] k (fun kq v5 v6 w'=>∃ (x5_1:List Int) (x6_1:Int) (x307000_1:List ByteArray) (u307000:Value),v6=.int .i64 x6_1∧As0 (sr17s.l0 kq x5_1 x6_1 l0_0 l0_1 l0_2 a0_3 x307000_1=some (r1,r2))∧As0 (kq≤k)∧As0 (Kd.R (Kd.int .i64) 3 w' w.heap.size (fun _=>True) v5 x5_1)∧As0 (Kd.R Kd.string 9 w' w.heap.size (fun _=>True) u307000 x307000_1)∧As0 (w'.heap[gb304]?=some (.cells #[(.slice A0_0 l0_0.length c0_0),(.slice A0_1 l0_1.length c0_1),(.slice A0_2 l0_2.length c0_2),.int .i64 a0_3] 26 (0,0)))∧As0 (w'.heap[gb305]?=some (.cells #[(.slice none 0 0)] 90 (0,0)))∧As0 (w'.heap[gb306]?=some (.cells #[u307000] 90 (0,0)))∧As0 (Below w.heap.size w w'))
 case atStart=>exact ⟨(([]:List Int)),(0),(([]:List ByteArray)),(.slice none 0 0),(by first|rfl|(simp;done)|(simp [*];done)),H',⟨Nat.le_refl _⟩,⟨by first|exact Kd.R_nil _ _ _ _ _|exact Kd.N_nil _ _ _ _ _|exact Kd.V_nil _ _ _ _ _|exact Kd.Q_nil _ _ _ _ _|exact Kd.S_nil _ _ _ _ _⟩,⟨by first|exact Kd.R_nil _ _ _ _ _|exact Kd.N_nil _ _ _ _ _|exact Kd.V_nil _ _ _ _ _|exact Kd.Q_nil _ _ _ _ _|exact Kd.S_nil _ _ _ _ _⟩,⟨by (with_reducible repeat (first|refine bkN ?_ _|refine bkD ?_|refine bkA ?_ _));exact BK304.out⟩,⟨by (with_reducible repeat (first|refine bkN ?_ _|refine bkD ?_|refine bkA ?_ _));exact BK305.out⟩,⟨by (with_reducible repeat (first|refine bkN ?_ _|refine bkD ?_|refine bkA ?_ _));exact BK306.out⟩,⟨by repeat (first|(with_reducible first|exact HB.out|apply bdA|apply bdN|apply bd1|refine bdS ?_ GE304.out|refine bdS ?_ GE305.out|refine bdS ?_ GE306.out)|exact HB.out)⟩⟩
 case round =>
  clear H'
  try clear p2
  obtain ⟨x5_1,x6_1,x307000_1,u307000,rfl,HA,HK1,HO_5,HO_307000,BK304,BK305,BK306,HB⟩:=hrel
  cases gk with
  | zero=>exact absurd HA.out (by simp [sr17s.l0])
  | succ k1 =>
   have H:=HA.out
   clear HA
   simp only [sr17s.l0] at H
   by_cases c5:x6_1<(l0_1.length:Int)
   ·rw [if_pos c5] at H
    have c5b0:decide (x6_1<(l0_1.length:Int))=true:=decide_eq_true c5
    clear c5
    by_cases c6:0≤x6_1
    ·rw [if_pos c6] at H
     have c6b0:decide (0≤x6_1)=true:=decide_eq_true c6
     clear c6
     replace H:=Option.bind_eq_some_iff.mp H
     obtain ⟨⟨t308,t311,t312⟩,A70,H⟩:=H
     replace H:(if x5_1.length<17592186044416 then (sr17s.l0 k1 (x5_1 ++ [t311]) (wrap64 (x6_1+1)) l0_0 l0_1 l0_2 a0_3 t308) else (none))=some (r1,r2):=H
     have A7:=As0.mk A70
     clear A70
     by_cases c8:x5_1.length<17592186044416
     ·rw [if_pos c8] at H
      have LMc8:=As0.mk c8
      clear c8
      obtain ⟨y314,hy314⟩:∃ y_:List Int,y_=(x5_1 ++ [t311]):=⟨_,rfl⟩
      replace H:(sr17s.l0 k1 y314 (wrap64 (x6_1+1)) l0_0 l0_1 l0_2 a0_3 t308)=some (r1,r2):=by first|(rw [hy314];with_reducible exact H)|(have H2_:=(Option.bind_some _ _).symm.trans H;rw [hy314];with_reducible exact H2_)|(have H2_:=(Option.bind_some _ _).symm.trans H;with_reducible exact H2_)|with_reducible exact H|(rw [hy314];exact H)|exact H
      have Ny314:=As0.mk hy314
      clear hy314
      have H':=As0.mk H
      clear H
      have hnb9:=NB304_305.out
      have hnc9:=NB305_304.out
      have hnb10:=NB304_306.out
      have hnc10:=NB306_304.out
      have hcz11_0:wr.cell? ⟨gb304,0,none⟩=some (.slice A0_0 l0_0.length c0_0):=(bkC BK304.out 0).trans rfl
      have hcz11_1:wr.cell? ⟨gb304,1,none⟩=some (.slice A0_1 l0_1.length c0_1):=(bkC BK304.out 1).trans rfl
      have hcz11_2:wr.cell? ⟨gb304,2,none⟩=some (.slice A0_2 l0_2.length c0_2):=(bkC BK304.out 2).trans rfl
      have hcz11_3:wr.cell? ⟨gb304,3,none⟩=some (.int .i64 a0_3):=(bkC BK304.out 3).trans rfl
      have hfz11_0:=bkF BK304.out 0
      have hfz11_1:=bkF BK304.out 1
      have hfz11_2:=bkF BK304.out 2
      have hfz11_3:=bkF BK304.out 3
      obtain ⟨Ao12,co12,eo12⟩:=Kd.R_slice HO_307000.out
      subst eo12
      try go_wp2
      have n0_:=As0.mk (Kd.RdW HO_5.out)
      have n1_:=As0.mk (Kd.RdW HO_307000.out)
      have n2_:=As0.mk (bkD BK304.out)
      have n3_:=As0.mk (bkD BK305.out)
      have n4_:=As0.mk (bkD BK306.out)
      have n5_:=As0.mk (bd1 HB.out)
      clear HO_5 HO_307000 BK304 BK305 BK306 HB
      have HO_5:=n0_
      have HO_307000:=n1_
      have BK304:=n2_
      have BK305:=n3_
      have BK306:=n4_
      have HB:=n5_
      clear n0_ n1_ n2_ n3_ n4_ n5_
      have p307:0≤(x6_1:Int):=of_decide_eq_true (by first|(with_reducible assumption)|assumption)
      have q307:x6_1<(l0_1.length:Int):=of_decide_eq_true (by first|(with_reducible assumption)|assumption)
      obtain ⟨ad307,e307,hx307_0,hx307_1,hx307_2,hx307_3⟩:=at_T68 HR0_1.out x6_1 p307 q307
      have hw307_3:=hx307_3
      have hw307_2:=hx307_2
      have hw307_1:=hx307_1
      have hw307_0:=hx307_0
      cases e307
      replace hx307_0:=(HB.out.cell (World.block_lt_of_cell? w _ hx307_0)).trans hx307_0
      replace hx307_1:=(HB.out.cell (World.block_lt_of_cell? w _ hx307_1)).trans hx307_1
      replace hx307_2:=(HB.out.cell (World.block_lt_of_cell? w _ hx307_2)).trans hx307_2
      replace hx307_3:=(HB.out.cell (World.block_lt_of_cell? w _ hx307_3)).trans hx307_3
      replace p307:=eq_true p307
      replace q307:=eq_true q307
      refine start_ (n:=16) (S:=fun w'=>w'.cell? ⟨gb306,0,none⟩=some (.slice Ao12 x307000_1.length co12)∧w'.cell? ⟨gb304,0,none⟩=some (.slice A0_0 l0_0.length c0_0)∧w'.cell? ⟨gb304,1,none⟩=some (.slice (some ad307) l0_1.length c0_1)∧w'.cell? ⟨gb304,2,none⟩=some (.slice A0_2 l0_2.length c0_2)∧w'.cell? ⟨gb304,3,none⟩=some (.int .i64 a0_3)∧w'.cell? (ad307.add ((x6_1).toNat*4))=some (.string ((rd_T68 l0_1 x6_1).f0))∧w'.cell? ⟨(ad307.add ((x6_1).toNat*4)).block,(ad307.add ((x6_1).toNat*4)).off+1,none⟩=some (.int .i64 ((rd_T68 l0_1 x6_1).f1))∧w'.cell? ⟨(ad307.add ((x6_1).toNat*4)).block,(ad307.add ((x6_1).toNat*4)).off+2,none⟩=some (.int .i64 ((rd_T68 l0_1 x6_1).f2))∧w'.cell? ⟨(ad307.add ((x6_1).toNat*4)).block,(ad307.add ((x6_1).toNat*4)).off+3,none⟩=some (.int .i64 ((rd_T68 l0_1 x6_1).f3))) (ds:=[]) #[false,false,false,false,false,false,false,false,false,false,false,false,false,false,false,false] (by kernel_rfl) rfl rfl ⟨(bkC BK306.out 0).trans rfl,(bkC BK304.out 0).trans rfl,(bkC BK304.out 1).trans rfl,(bkC BK304.out 2).trans rfl,(bkC BK304.out 3).trans rfl,((HB.out.cell (World.block_lt_of_cell? w _ hw307_0)).trans hw307_0),((HB.out.cell (World.block_lt_of_cell? w _ hw307_1)).trans hw307_1),((HB.out.cell (World.block_lt_of_cell? w _ hw307_2)).trans hw307_2),((HB.out.cell (World.block_lt_of_cell? w _ hw307_3)).trans hw307_3)⟩ (fun hHeld=>?_);refine with_tabW sr17s.tab6 sr17s.bits6 (fun HT_ HW_=>?_)
      generalize wr.drew=w13 at HO_5 HO_307000 BK304 BK305 BK306 HB hx307_0 hx307_1 hx307_2 hx307_3 hHeld ⊢
      refine pure_ (i:=1) (N:=some 23) (v:=?_) (a':=?_) #[false,true,false,false,false,false,false,false,false,false,false,false,false,false,false,false] rfl rfl (any_of HT_.out (by kernel_rfl)) (fun _ _ _ h=>h) (Or.inl ⟨by rfl,?_⟩) ?_ ?_
      rotate_left
      ·intro w'
       go_simp
       with_reducible rfl
      rotate_left
      ·simp only [Act.put,List.setIfInBounds_toArray,List.set_cons_zero,List.set_cons_succ,i64_w,i32_w]
       rfl
      refine pure_ (i:=3) (N:=some 25) (v:=?_) (a':=?_) #[false,true,false,true,false,false,false,false,false,false,false,false,false,false,false,false] rfl rfl (any_of HT_.out (by kernel_rfl)) (fun _ _ _ h=>h) (Or.inl ⟨by rfl,?_⟩) ?_ ?_
      rotate_left
      ·intro w'
       go_simp
       with_reducible rfl
      rotate_left
      ·simp only [Act.put,List.setIfInBounds_toArray,List.set_cons_zero,List.set_cons_succ,i64_w,i32_w]
       rfl
      refine take_ (i:=0) (N:=some 22) (v:=?_) (a':=?_) #[true,true,false,true,false,false,false,false,false,false,false,false,false,false,false,false] rfl rfl (take_ofW HT_.out HW_.out (by kernel_rfl)) (fun _ _ _ h=>h) (Or.inl ⟨by rfl,?_⟩) hHeld ?_ ?_
      rotate_left
      ·rintro w' ⟨s0,s1,s2,s3,s4,s5,s6,s7,s8⟩
       go_simp
       with_reducible rfl
      rotate_left
      ·simp only [Act.put,List.setIfInBounds_toArray,List.set_cons_zero,List.set_cons_succ,i64_w,i32_w]
       rfl
      refine take_ (i:=2) (N:=some 24) (v:=?_) (a':=?_) #[true,true,true,true,false,false,false,false,false,false,false,false,false,false,false,false] rfl rfl (take_ofW HT_.out HW_.out (by kernel_rfl)) (fun _ _ _ h=>h) (Or.inl ⟨by rfl,?_⟩) hHeld ?_ ?_
      rotate_left
      ·rintro w' ⟨s0,s1,s2,s3,s4,s5,s6,s7,s8⟩
       go_simp
       with_reducible rfl
      rotate_left
      ·simp only [Act.put,List.setIfInBounds_toArray,List.set_cons_zero,List.set_cons_succ,i64_w,i32_w]
       rfl
      refine pure_ (i:=4) (N:=some 26) (v:=?_) (a':=?_) #[true,true,true,true,true,false,false,false,false,false,false,false,false,false,false,false] rfl rfl (any_of HT_.out (by kernel_rfl)) (fun _ _ _ h=>h) (Or.inl ⟨by rfl,?_⟩) ?_ ?_
      rotate_left
      ·intro w'
       go_simp
       with_reducible rfl
      rotate_left
      ·simp only [Act.put,List.setIfInBounds_toArray,List.set_cons_zero,List.set_cons_succ,i64_w,i32_w]
       rfl
      refine pure_ (i:=5) (N:=some 27) (v:=?_) (a':=?_) #[true,true,true,true,true,true,false,false,false,false,false,false,false,false,false,false] rfl rfl (any_of HT_.out (by kernel_rfl)) (fun _ _ _ h=>h) (Or.inl ⟨by rfl,?_⟩) ?_ ?_
      rotate_left
      ·intro w'
       go_simp
       with_reducible rfl
      rotate_left
      ·simp only [Act.put,List.setIfInBounds_toArray,List.set_cons_zero,List.set_cons_succ,i64_w,i32_w]
       rfl
      refine take_ (i:=6) (N:=some 28) (v:=?_) (a':=?_) #[true,true,true,true,true,true,true,false,false,false,false,false,false,false,false,false] rfl rfl (take_ofW HT_.out HW_.out (by kernel_rfl)) (fun _ _ _ h=>h) (Or.inl ⟨by rfl,?_⟩) hHeld ?_ ?_
      rotate_left
      ·rintro w' ⟨s0,s1,s2,s3,s4,s5,s6,s7,s8⟩
       go_simp
       with_reducible rfl
      rotate_left
      ·simp only [Act.put,List.setIfInBounds_toArray,List.set_cons_zero,List.set_cons_succ,i64_w,i32_w]
       rfl
      refine join_ (σ:=Value × Nat) 3 #[true,true,true,true,true,true,true,true,true,true,true,true,true,false,false,false] (fun s_=>[(29,.tuple #[.agg #[s_.1],.int .i64 t311,.int .i64 t312]),(7,.pointer (some ⟨s_.2,0,none⟩)),(21,.tuple #[.agg #[s_.1],.int .i64 t311,.int .i64 t312]),(30,.agg #[s_.1]),(31,.int .i64 t311),(32,.int .i64 t312)]) (fun s_ w'=>(w'.cell? ⟨gb306,0,none⟩=some (.slice Ao12 x307000_1.length co12)∧w'.cell? ⟨gb304,0,none⟩=some (.slice A0_0 l0_0.length c0_0)∧w'.cell? ⟨gb304,1,none⟩=some (.slice (some ad307) l0_1.length c0_1)∧w'.cell? ⟨gb304,2,none⟩=some (.slice A0_2 l0_2.length c0_2)∧w'.cell? ⟨gb304,3,none⟩=some (.int .i64 a0_3)∧w'.cell? (ad307.add ((x6_1).toNat*4))=some (.string ((rd_T68 l0_1 x6_1).f0))∧w'.cell? ⟨(ad307.add ((x6_1).toNat*4)).block,(ad307.add ((x6_1).toNat*4)).off+1,none⟩=some (.int .i64 ((rd_T68 l0_1 x6_1).f1))∧w'.cell? ⟨(ad307.add ((x6_1).toNat*4)).block,(ad307.add ((x6_1).toNat*4)).off+2,none⟩=some (.int .i64 ((rd_T68 l0_1 x6_1).f2))∧w'.cell? ⟨(ad307.add ((x6_1).toNat*4)).block,(ad307.add ((x6_1).toNat*4)).off+3,none⟩=some (.int .i64 ((rd_T68 l0_1 x6_1).f3)))∧(Kd.R Kd.string 9 w' w.heap.size (fun _=>True) s_.1 t308)∧(Kd.R (Kd.int .i64) 3 w' w.heap.size (fun _=>True) u5 x5_1)∧(w'.heap[gb304]?=some (.cells #[.slice A0_0 l0_0.length c0_0,.slice (some ad307) l0_1.length c0_1,.slice A0_2 l0_2.length c0_2,.int .i64 a0_3] 26 (0,0)))∧(w'.heap[gb305]?=some (.cells #[.slice none 0 0] 90 (0,0)))∧(w'.heap[gb306]?=some (.cells #[.slice Ao12 x307000_1.length co12] 90 (0,0)))∧(w'.heap[s_.2]?=some (.cells #[.slice none 0 0] 90 (0,0)))∧(w.heap.size≤s_.2)∧(w.heap.size≤s_.2)∧(gb304≠s_.2)∧(s_.2≠gb304)∧(gb305≠s_.2)∧(s_.2≠gb305)∧(gb306≠s_.2)∧(s_.2≠gb306)∧(Below w.heap.size w w')) ?_ ?_
      rotate_left
      ·intro hCont
       refine two_ (i:=7) (j:=12) (Ni:=some 29) (Nj:=some 7) #[true,true,true,true,true,true,true,true,false,false,false,false,false,false,false,false] #[true,true,true,true,true,true,true,false,false,false,false,false,true,false,false,false] rfl rfl rfl rfl (two_of HT_.out (by kernel_rfl)) (by decide) (by decide) (fun K hK=>?_) (fun K hK=>?_)
       ·skip
        refine goes_ Try.func85 (by kernel_rfl) rfl #[.agg #[.slice Ao12 x307000_1.length co12],.string ((rd_T68 l0_1 x6_1).f0)] (by rfl) rfl rfl (by (try simp only [List.map_toArray,List.map_cons,List.map_nil]);first|done|rfl|(simp only [List.length_drop,List.length_take];rfl)) ?_
        with_reducible refine (sr8a.calls k1 (fun k_=>some k_=(.slice Ao12 x307000_1.length co12:Value).ownBlock) (.slice Ao12 x307000_1.length co12) x307000_1 ((rd_T68 l0_1 x6_1).f0) t308 t311 t312 w _ ?side1 ?side2 A7.out).mono ?_
        (case side1=>repeat (first|(with_reducible first|exact HB.out|apply bdA|apply bdN|apply bd1|refine bdS ?_ GE304.out|refine bdS ?_ GE305.out|refine bdS ?_ GE306.out)|exact HB.out))
        (case side2=>exact Kd.R_tight rfl HO_307000.out)
        rintro e w14 ⟨v309,rfl,ho0,hb,hkp⟩
        refine ⟨_,rfl,?_⟩
        have n0_:=As0.mk (Kd.R_mono (ok':=fun k_=>True) (Kd.R_keptB ((Kd.R_apart' HO_5.out (Kd.R_typed HO_307000.out) (by decide))) hkp (fun k_ hk_ hs_=>(hk_.2) hs_)) (fun k_ hk_=>trivial))
        have n1_:=As0.mk (bkK (by (with_reducible repeat (first|refine bkN ?_ _|refine bkD ?_|refine bkA ?_ _));exact BK304.out) hkp (fun hs_=>(fun e_=>(Kd.R_ne HO_307000.out BK304.out (by decide)) e_) hs_))
        have n2_:=As0.mk (bkK (by (with_reducible repeat (first|refine bkN ?_ _|refine bkD ?_|refine bkA ?_ _));exact BK305.out) hkp (fun hs_=>(fun e_=>(Kd.R_ne HO_307000.out BK305.out (by decide)) e_) hs_))
        have n3_:=As0.mk (bkK (by (with_reducible repeat (first|refine bkN ?_ _|refine bkD ?_|refine bkA ?_ _));exact BK306.out) hkp (fun hs_=>(fun e_=>(Kd.R_ne HO_307000.out BK306.out (by decide)) e_) hs_))
        have n4_:=As0.mk (Kd.R_mono (ok':=fun k_=>True) ho0 (fun k_ hk_=>trivial))
        have n5_:=As0.mk (hb)
        clear HO_5 BK304 BK305 BK306 HB HO_307000
        have HO_5:=n0_
        have BK304:=n1_
        have BK305:=n2_
        have BK306:=n3_
        have HO310:=n4_
        have HB:=n5_
        clear n0_ n1_ n2_ n3_ n4_ n5_
        (try clear hb)
        (try clear hkp)
        (try clear ho0)
        refine hK.out _ _ ⟨(bkC BK306.out 0).trans rfl,(bkC BK304.out 0).trans rfl,(bkC BK304.out 1).trans rfl,(bkC BK304.out 2).trans rfl,(bkC BK304.out 3).trans rfl,((HB.out.cell (World.block_lt_of_cell? w _ hw307_0)).trans hw307_0),((HB.out.cell (World.block_lt_of_cell? w _ hw307_1)).trans hw307_1),((HB.out.cell (World.block_lt_of_cell? w _ hw307_2)).trans hw307_2),((HB.out.cell (World.block_lt_of_cell? w _ hw307_3)).trans hw307_3)⟩ (fun hHeld=>?_)
        clear hK K
        refine norm_ (a':=?_) ?_ ?_
        rotate_left
        ·show Act.put _ (some 29) _=_
         simp only [Act.put,List.setIfInBounds_toArray,List.set_cons_zero,List.set_cons_succ,i64_w,i32_w]
         rfl
        refine pure_ (i:=8) (N:=some 21) (v:=?_) (a':=?_) #[true,true,true,true,true,true,true,true,true,false,false,false,false,false,false,false] rfl rfl (any_of HT_.out (by kernel_rfl)) (fun _ _ _ h=>h) (Or.inl ⟨by rfl,?_⟩) ?_ ?_
        rotate_left
        ·intro w'
         go_simp
         with_reducible rfl
        rotate_left
        ·simp only [Act.put,List.setIfInBounds_toArray,List.set_cons_zero,List.set_cons_succ,i64_w,i32_w]
         rfl
        refine pure_ (i:=9) (N:=some 30) (v:=?_) (a':=?_) #[true,true,true,true,true,true,true,true,true,true,false,false,false,false,false,false] rfl rfl (any_of HT_.out (by kernel_rfl)) (fun _ _ _ h=>h) (Or.inl ⟨by rfl,?_⟩) ?_ ?_
        rotate_left
        ·intro w'
         go_simp
         with_reducible rfl
        rotate_left
        ·simp only [Act.put,List.setIfInBounds_toArray,List.set_cons_zero,List.set_cons_succ,i64_w,i32_w]
         rfl
        refine pure_ (i:=10) (N:=some 31) (v:=?_) (a':=?_) #[true,true,true,true,true,true,true,true,true,true,true,false,false,false,false,false] rfl rfl (any_of HT_.out (by kernel_rfl)) (fun _ _ _ h=>h) (Or.inl ⟨by rfl,?_⟩) ?_ ?_
        rotate_left
        ·intro w'
         go_simp
         with_reducible rfl
        rotate_left
        ·simp only [Act.put,List.setIfInBounds_toArray,List.set_cons_zero,List.set_cons_succ,i64_w,i32_w]
         rfl
        refine pure_ (i:=11) (N:=some 32) (v:=?_) (a':=?_) #[true,true,true,true,true,true,true,true,true,true,true,true,false,false,false,false] rfl rfl (any_of HT_.out (by kernel_rfl)) (fun _ _ _ h=>h) (Or.inl ⟨by rfl,?_⟩) ?_ ?_
        rotate_left
        ·intro w'
         go_simp
         with_reducible rfl
        rotate_left
        ·simp only [Act.put,List.setIfInBounds_toArray,List.set_cons_zero,List.set_cons_succ,i64_w,i32_w]
         rfl
        refine one_ (i:=12) (N:=some 7) #[true,true,true,true,true,true,true,true,true,true,true,true,true,false,false,false] rfl rfl (one_of HT_.out (by kernel_rfl)) (by decide) (fun K hK=>?_)
        refine box_step ?hg (N:=7) ?hd (cs:=#[.slice none 0 0]) (t:=90) ?hr ?_;(case hd=>rfl);(case hg=>rfl);(case hr=>first|(go_simp;done)|(go_simp;rfl))
        intro gb313 hg w15 hbox hb
        have n0_:=As0.mk (Kd.RbW (by (with_reducible repeat (first|apply Kd.R_alloc|apply Kd.RdN|apply Kd.RdW));exact HO_5.out) hb)
        have n1_:=As0.mk (Kd.RbW (by (with_reducible repeat (first|apply Kd.R_alloc|apply Kd.RdN|apply Kd.RdW));exact HO310.out) hb)
        have n2_:=As0.mk (bkB (g:=gb304) (o:=.cells #[.slice A0_0 l0_0.length c0_0,.slice (some ad307) l0_1.length c0_1,.slice A0_2 l0_2.length c0_2,.int .i64 a0_3] 26 (0,0)) (by (with_reducible repeat (first|refine bkN ?_ _|refine bkD ?_|refine bkA ?_ _));exact BK304.out) hb)
        have n3_:=As0.mk (bkB (g:=gb305) (o:=.cells #[.slice none 0 0] 90 (0,0)) (by (with_reducible repeat (first|refine bkN ?_ _|refine bkD ?_|refine bkA ?_ _));exact BK305.out) hb)
        have n4_:=As0.mk (bkB (g:=gb306) (o:=.cells #[.slice Ao12 x307000_1.length co12] 90 (0,0)) (by (with_reducible repeat (first|refine bkN ?_ _|refine bkD ?_|refine bkA ?_ _));exact BK306.out) hb)
        have n5_:=As0.mk (bdT (by repeat (first|(with_reducible first|exact HB.out|apply bdA|apply bdN|apply bd1|refine bdS ?_ GE304.out|refine bdS ?_ GE305.out|refine bdS ?_ GE306.out)|exact HB.out)) hb)
        have n6_:=As0.mk (hbox)
        have n7_:=As0.mk ((by rw [hg];exact (bdZ (by repeat (first|(with_reducible first|exact HB.out|apply bdA|apply bdN|apply bd1|refine bdS ?_ GE304.out|refine bdS ?_ GE305.out|refine bdS ?_ GE306.out)|exact HB.out))):w.heap.size≤gb313))
        have n8_:=As0.mk ((by rw [hg];exact (bdZ (by repeat (first|(with_reducible first|exact HB.out|apply bdA|apply bdN|apply bd1|refine bdS ?_ GE304.out|refine bdS ?_ GE305.out|refine bdS ?_ GE306.out)|exact HB.out))):w.heap.size≤gb313))
        have n9_:=As0.mk ((by rw [hg];exact Nat.ne_of_lt (blk_lt (g:=gb304) (o:=.cells #[.slice A0_0 l0_0.length c0_0,.slice (some ad307) l0_1.length c0_1,.slice A0_2 l0_2.length c0_2,.int .i64 a0_3] 26 (0,0)) (by (with_reducible repeat (first|refine bkN ?_ _|refine bkD ?_|refine bkA ?_ _));exact BK304.out)):gb304≠gb313))
        have n10_:=As0.mk ((by rw [hg];exact Nat.ne_of_gt (blk_lt (g:=gb304) (o:=.cells #[.slice A0_0 l0_0.length c0_0,.slice (some ad307) l0_1.length c0_1,.slice A0_2 l0_2.length c0_2,.int .i64 a0_3] 26 (0,0)) (by (with_reducible repeat (first|refine bkN ?_ _|refine bkD ?_|refine bkA ?_ _));exact BK304.out)):gb313≠gb304))
        have n11_:=As0.mk ((by rw [hg];exact Nat.ne_of_lt (blk_lt (g:=gb305) (o:=.cells #[.slice none 0 0] 90 (0,0)) (by (with_reducible repeat (first|refine bkN ?_ _|refine bkD ?_|refine bkA ?_ _));exact BK305.out)):gb305≠gb313))
        have n12_:=As0.mk ((by rw [hg];exact Nat.ne_of_gt (blk_lt (g:=gb305) (o:=.cells #[.slice none 0 0] 90 (0,0)) (by (with_reducible repeat (first|refine bkN ?_ _|refine bkD ?_|refine bkA ?_ _));exact BK305.out)):gb313≠gb305))
        have n13_:=As0.mk ((by rw [hg];exact Nat.ne_of_lt (blk_lt (g:=gb306) (o:=.cells #[.slice Ao12 x307000_1.length co12] 90 (0,0)) (by (with_reducible repeat (first|refine bkN ?_ _|refine bkD ?_|refine bkA ?_ _));exact BK306.out)):gb306≠gb313))
        have n14_:=As0.mk ((by rw [hg];exact Nat.ne_of_gt (blk_lt (g:=gb306) (o:=.cells #[.slice Ao12 x307000_1.length co12] 90 (0,0)) (by (with_reducible repeat (first|refine bkN ?_ _|refine bkD ?_|refine bkA ?_ _));exact BK306.out)):gb313≠gb306))
        clear HO_5 HO310 BK304 BK305 BK306 HB
        have HO_5:=n0_
        have HO310:=n1_
        have BK304:=n2_
        have BK305:=n3_
        have BK306:=n4_
        have HB:=n5_
        have BK313:=n6_
        have GW313:=n7_
        have GE313:=n8_
        have NB304_313:=n9_
        have NB313_304:=n10_
        have NB305_313:=n11_
        have NB313_305:=n12_
        have NB306_313:=n13_
        have NB313_306:=n14_
        clear n0_ n1_ n2_ n3_ n4_ n5_ n6_ n7_ n8_ n9_ n10_ n11_ n12_ n13_ n14_ hb hbox hg
        refine hK.out _ _ ⟨(bkC BK306.out 0).trans rfl,(bkC BK304.out 0).trans rfl,(bkC BK304.out 1).trans rfl,(bkC BK304.out 2).trans rfl,(bkC BK304.out 3).trans rfl,((HB.out.cell (World.block_lt_of_cell? w _ hw307_0)).trans hw307_0),((HB.out.cell (World.block_lt_of_cell? w _ hw307_1)).trans hw307_1),((HB.out.cell (World.block_lt_of_cell? w _ hw307_2)).trans hw307_2),((HB.out.cell (World.block_lt_of_cell? w _ hw307_3)).trans hw307_3)⟩ (fun hHeld=>?_)
        clear hK K
        refine norm_ (a':=?_) ?_ ?_
        rotate_left
        ·show Act.put _ (some 7) _=_
         simp only [Act.put,List.setIfInBounds_toArray,List.set_cons_zero,List.set_cons_succ,i64_w,i32_w]
         rfl
        exact norm_ (by simp only [putAll,Act.put,List.setIfInBounds_toArray,List.set_cons_zero,List.set_cons_succ]) (hCont (v309,gb313) _ ⟨hHeld,(by (with_reducible repeat (first|apply Kd.R_alloc|apply Kd.RdN|apply Kd.RdW));exact HO310.out),(by (with_reducible repeat (first|apply Kd.R_alloc|apply Kd.RdN|apply Kd.RdW));exact HO_5.out),(by (with_reducible repeat (first|refine bkN ?_ _|refine bkD ?_|refine bkA ?_ _));exact BK304.out),(by (with_reducible repeat (first|refine bkN ?_ _|refine bkD ?_|refine bkA ?_ _));exact BK305.out),(by (with_reducible repeat (first|refine bkN ?_ _|refine bkD ?_|refine bkA ?_ _));exact BK306.out),(by (with_reducible repeat (first|refine bkN ?_ _|refine bkD ?_|refine bkA ?_ _));exact BK313.out),GW313.out,GE313.out,NB304_313.out,NB313_304.out,NB305_313.out,NB313_305.out,NB306_313.out,NB313_306.out,(by repeat (first|(with_reducible first|exact HB.out|apply bdA|apply bdN|apply bd1|refine bdS ?_ GE304.out|refine bdS ?_ GE305.out|refine bdS ?_ GE306.out|refine bdS ?_ GE313.out)|exact HB.out))⟩)
       ·skip
        refine box_step ?hg (N:=7) ?hd (cs:=#[.slice none 0 0]) (t:=90) ?hr ?_;(case hd=>rfl);(case hg=>rfl);(case hr=>first|(go_simp;done)|(go_simp;rfl))
        intro gb313 hg w14 hbox hb
        have n0_:=As0.mk (Kd.RbW (by (with_reducible repeat (first|apply Kd.R_alloc|apply Kd.RdN|apply Kd.RdW));exact HO_5.out) hb)
        have n1_:=As0.mk (Kd.RbW (by (with_reducible repeat (first|apply Kd.R_alloc|apply Kd.RdN|apply Kd.RdW));exact HO_307000.out) hb)
        have n2_:=As0.mk (bkB (g:=gb304) (o:=.cells #[.slice A0_0 l0_0.length c0_0,.slice (some ad307) l0_1.length c0_1,.slice A0_2 l0_2.length c0_2,.int .i64 a0_3] 26 (0,0)) (by (with_reducible repeat (first|refine bkN ?_ _|refine bkD ?_|refine bkA ?_ _));exact BK304.out) hb)
        have n3_:=As0.mk (bkB (g:=gb305) (o:=.cells #[.slice none 0 0] 90 (0,0)) (by (with_reducible repeat (first|refine bkN ?_ _|refine bkD ?_|refine bkA ?_ _));exact BK305.out) hb)
        have n4_:=As0.mk (bkB (g:=gb306) (o:=.cells #[.slice Ao12 x307000_1.length co12] 90 (0,0)) (by (with_reducible repeat (first|refine bkN ?_ _|refine bkD ?_|refine bkA ?_ _));exact BK306.out) hb)
        have n5_:=As0.mk (bdT (by repeat (first|(with_reducible first|exact HB.out|apply bdA|apply bdN|apply bd1|refine bdS ?_ GE304.out|refine bdS ?_ GE305.out|refine bdS ?_ GE306.out)|exact HB.out)) hb)
        have n6_:=As0.mk (hbox)
        have n7_:=As0.mk ((by rw [hg];exact (bdZ (by repeat (first|(with_reducible first|exact HB.out|apply bdA|apply bdN|apply bd1|refine bdS ?_ GE304.out|refine bdS ?_ GE305.out|refine bdS ?_ GE306.out)|exact HB.out))):w.heap.size≤gb313))
        have n8_:=As0.mk ((by rw [hg];exact (bdZ (by repeat (first|(with_reducible first|exact HB.out|apply bdA|apply bdN|apply bd1|refine bdS ?_ GE304.out|refine bdS ?_ GE305.out|refine bdS ?_ GE306.out)|exact HB.out))):w.heap.size≤gb313))
        have n9_:=As0.mk ((by rw [hg];exact Nat.ne_of_lt (blk_lt (g:=gb304) (o:=.cells #[.slice A0_0 l0_0.length c0_0,.slice (some ad307) l0_1.length c0_1,.slice A0_2 l0_2.length c0_2,.int .i64 a0_3] 26 (0,0)) (by (with_reducible repeat (first|refine bkN ?_ _|refine bkD ?_|refine bkA ?_ _));exact BK304.out)):gb304≠gb313))
        have n10_:=As0.mk ((by rw [hg];exact Nat.ne_of_gt (blk_lt (g:=gb304) (o:=.cells #[.slice A0_0 l0_0.length c0_0,.slice (some ad307) l0_1.length c0_1,.slice A0_2 l0_2.length c0_2,.int .i64 a0_3] 26 (0,0)) (by (with_reducible repeat (first|refine bkN ?_ _|refine bkD ?_|refine bkA ?_ _));exact BK304.out)):gb313≠gb304))
        have n11_:=As0.mk ((by rw [hg];exact Nat.ne_of_lt (blk_lt (g:=gb305) (o:=.cells #[.slice none 0 0] 90 (0,0)) (by (with_reducible repeat (first|refine bkN ?_ _|refine bkD ?_|refine bkA ?_ _));exact BK305.out)):gb305≠gb313))
        have n12_:=As0.mk ((by rw [hg];exact Nat.ne_of_gt (blk_lt (g:=gb305) (o:=.cells #[.slice none 0 0] 90 (0,0)) (by (with_reducible repeat (first|refine bkN ?_ _|refine bkD ?_|refine bkA ?_ _));exact BK305.out)):gb313≠gb305))
        have n13_:=As0.mk ((by rw [hg];exact Nat.ne_of_lt (blk_lt (g:=gb306) (o:=.cells #[.slice Ao12 x307000_1.length co12] 90 (0,0)) (by (with_reducible repeat (first|refine bkN ?_ _|refine bkD ?_|refine bkA ?_ _));exact BK306.out)):gb306≠gb313))
        have n14_:=As0.mk ((by rw [hg];exact Nat.ne_of_gt (blk_lt (g:=gb306) (o:=.cells #[.slice Ao12 x307000_1.length co12] 90 (0,0)) (by (with_reducible repeat (first|refine bkN ?_ _|refine bkD ?_|refine bkA ?_ _));exact BK306.out)):gb313≠gb306))
        clear HO_5 HO_307000 BK304 BK305 BK306 HB
        have HO_5:=n0_
        have HO_307000:=n1_
        have BK304:=n2_
        have BK305:=n3_
        have BK306:=n4_
        have HB:=n5_
        have BK313:=n6_
        have GW313:=n7_
        have GE313:=n8_
        have NB304_313:=n9_
        have NB313_304:=n10_
        have NB305_313:=n11_
        have NB313_305:=n12_
        have NB306_313:=n13_
        have NB313_306:=n14_
        clear n0_ n1_ n2_ n3_ n4_ n5_ n6_ n7_ n8_ n9_ n10_ n11_ n12_ n13_ n14_ hb hbox hg
        refine hK.out _ _ ⟨(bkC BK306.out 0).trans rfl,(bkC BK304.out 0).trans rfl,(bkC BK304.out 1).trans rfl,(bkC BK304.out 2).trans rfl,(bkC BK304.out 3).trans rfl,((HB.out.cell (World.block_lt_of_cell? w _ hw307_0)).trans hw307_0),((HB.out.cell (World.block_lt_of_cell? w _ hw307_1)).trans hw307_1),((HB.out.cell (World.block_lt_of_cell? w _ hw307_2)).trans hw307_2),((HB.out.cell (World.block_lt_of_cell? w _ hw307_3)).trans hw307_3)⟩ (fun hHeld=>?_)
        clear hK K
        refine norm_ (a':=?_) ?_ ?_
        rotate_left
        ·show Act.put _ (some 7) _=_
         simp only [Act.put,List.setIfInBounds_toArray,List.set_cons_zero,List.set_cons_succ,i64_w,i32_w]
         rfl
        refine one_ (i:=7) (N:=some 29) #[true,true,true,true,true,true,true,true,false,false,false,false,true,false,false,false] rfl rfl (one_of HT_.out (by kernel_rfl)) (by decide) (fun K hK=>?_)
        refine goes_ Try.func85 (by kernel_rfl) rfl #[.agg #[.slice Ao12 x307000_1.length co12],.string ((rd_T68 l0_1 x6_1).f0)] (by rfl) rfl rfl (by (try simp only [List.map_toArray,List.map_cons,List.map_nil]);first|done|rfl|(simp only [List.length_drop,List.length_take];rfl)) ?_
        with_reducible refine (sr8a.calls k1 (fun k_=>some k_=(.slice Ao12 x307000_1.length co12:Value).ownBlock) (.slice Ao12 x307000_1.length co12) x307000_1 ((rd_T68 l0_1 x6_1).f0) t308 t311 t312 w _ ?side1 ?side2 A7.out).mono ?_
        (case side1=>repeat (first|(with_reducible first|exact HB.out|apply bdA|apply bdN|apply bd1|refine bdS ?_ GE304.out|refine bdS ?_ GE305.out|refine bdS ?_ GE306.out|refine bdS ?_ GE313.out)|exact HB.out))
        (case side2=>exact Kd.R_tight rfl HO_307000.out)
        rintro e w15 ⟨v309,rfl,ho0,hb,hkp⟩
        refine ⟨_,rfl,?_⟩
        have n0_:=As0.mk (Kd.R_mono (ok':=fun k_=>True) (Kd.R_keptB ((Kd.R_apart' HO_5.out (Kd.R_typed HO_307000.out) (by decide))) hkp (fun k_ hk_ hs_=>(hk_.2) hs_)) (fun k_ hk_=>trivial))
        have n1_:=As0.mk (bkK (by (with_reducible repeat (first|refine bkN ?_ _|refine bkD ?_|refine bkA ?_ _));exact BK304.out) hkp (fun hs_=>(fun e_=>(Kd.R_ne HO_307000.out BK304.out (by decide)) e_) hs_))
        have n2_:=As0.mk (bkK (by (with_reducible repeat (first|refine bkN ?_ _|refine bkD ?_|refine bkA ?_ _));exact BK305.out) hkp (fun hs_=>(fun e_=>(Kd.R_ne HO_307000.out BK305.out (by decide)) e_) hs_))
        have n3_:=As0.mk (bkK (by (with_reducible repeat (first|refine bkN ?_ _|refine bkD ?_|refine bkA ?_ _));exact BK306.out) hkp (fun hs_=>(fun e_=>(Kd.R_ne HO_307000.out BK306.out (by decide)) e_) hs_))
        have n4_:=As0.mk (bkK (by (with_reducible repeat (first|refine bkN ?_ _|refine bkD ?_|refine bkA ?_ _));exact BK313.out) hkp (fun hs_=>(fun e_=>(Kd.R_ne HO_307000.out BK313.out (by decide)) e_) hs_))
        have n5_:=As0.mk (Kd.R_mono (ok':=fun k_=>True) ho0 (fun k_ hk_=>trivial))
        have n6_:=As0.mk (hb)
        clear HO_5 BK304 BK305 BK306 BK313 HB HO_307000
        have HO_5:=n0_
        have BK304:=n1_
        have BK305:=n2_
        have BK306:=n3_
        have BK313:=n4_
        have HO310:=n5_
        have HB:=n6_
        clear n0_ n1_ n2_ n3_ n4_ n5_ n6_
        (try clear hb)
        (try clear hkp)
        (try clear ho0)
        refine hK.out _ _ ⟨(bkC BK306.out 0).trans rfl,(bkC BK304.out 0).trans rfl,(bkC BK304.out 1).trans rfl,(bkC BK304.out 2).trans rfl,(bkC BK304.out 3).trans rfl,((HB.out.cell (World.block_lt_of_cell? w _ hw307_0)).trans hw307_0),((HB.out.cell (World.block_lt_of_cell? w _ hw307_1)).trans hw307_1),((HB.out.cell (World.block_lt_of_cell? w _ hw307_2)).trans hw307_2),((HB.out.cell (World.block_lt_of_cell? w _ hw307_3)).trans hw307_3)⟩ (fun hHeld=>?_)
        clear hK K
        refine norm_ (a':=?_) ?_ ?_
        rotate_left
        ·show Act.put _ (some 29) _=_
         simp only [Act.put,List.setIfInBounds_toArray,List.set_cons_zero,List.set_cons_succ,i64_w,i32_w]
         rfl
        refine pure_ (i:=8) (N:=some 21) (v:=?_) (a':=?_) #[true,true,true,true,true,true,true,true,true,false,false,false,true,false,false,false] rfl rfl (any_of HT_.out (by kernel_rfl)) (fun _ _ _ h=>h) (Or.inl ⟨by rfl,?_⟩) ?_ ?_
        rotate_left
        ·intro w'
         go_simp
         with_reducible rfl
        rotate_left
        ·simp only [Act.put,List.setIfInBounds_toArray,List.set_cons_zero,List.set_cons_succ,i64_w,i32_w]
         rfl
        refine pure_ (i:=9) (N:=some 30) (v:=?_) (a':=?_) #[true,true,true,true,true,true,true,true,true,true,false,false,true,false,false,false] rfl rfl (any_of HT_.out (by kernel_rfl)) (fun _ _ _ h=>h) (Or.inl ⟨by rfl,?_⟩) ?_ ?_
        rotate_left
        ·intro w'
         go_simp
         with_reducible rfl
        rotate_left
        ·simp only [Act.put,List.setIfInBounds_toArray,List.set_cons_zero,List.set_cons_succ,i64_w,i32_w]
         rfl
        refine pure_ (i:=10) (N:=some 31) (v:=?_) (a':=?_) #[true,true,true,true,true,true,true,true,true,true,true,false,true,false,false,false] rfl rfl (any_of HT_.out (by kernel_rfl)) (fun _ _ _ h=>h) (Or.inl ⟨by rfl,?_⟩) ?_ ?_
        rotate_left
        ·intro w'
         go_simp
         with_reducible rfl
        rotate_left
        ·simp only [Act.put,List.setIfInBounds_toArray,List.set_cons_zero,List.set_cons_succ,i64_w,i32_w]
         rfl
        refine pure_ (i:=11) (N:=some 32) (v:=?_) (a':=?_) #[true,true,true,true,true,true,true,true,true,true,true,true,true,false,false,false] rfl rfl (any_of HT_.out (by kernel_rfl)) (fun _ _ _ h=>h) (Or.inl ⟨by rfl,?_⟩) ?_ ?_
        rotate_left
        ·intro w'
         go_simp
         with_reducible rfl
        rotate_left
        ·simp only [Act.put,List.setIfInBounds_toArray,List.set_cons_zero,List.set_cons_succ,i64_w,i32_w]
         rfl
        exact norm_ (by simp only [putAll,Act.put,List.setIfInBounds_toArray,List.set_cons_zero,List.set_cons_succ]) (hCont (v309,gb313) _ ⟨hHeld,(by (with_reducible repeat (first|apply Kd.R_alloc|apply Kd.RdN|apply Kd.RdW));exact HO310.out),(by (with_reducible repeat (first|apply Kd.R_alloc|apply Kd.RdN|apply Kd.RdW));exact HO_5.out),(by (with_reducible repeat (first|refine bkN ?_ _|refine bkD ?_|refine bkA ?_ _));exact BK304.out),(by (with_reducible repeat (first|refine bkN ?_ _|refine bkD ?_|refine bkA ?_ _));exact BK305.out),(by (with_reducible repeat (first|refine bkN ?_ _|refine bkD ?_|refine bkA ?_ _));exact BK306.out),(by (with_reducible repeat (first|refine bkN ?_ _|refine bkD ?_|refine bkA ?_ _));exact BK313.out),GW313.out,GE313.out,NB304_313.out,NB313_304.out,NB305_313.out,NB313_305.out,NB306_313.out,NB313_306.out,(by repeat (first|(with_reducible first|exact HB.out|apply bdA|apply bdN|apply bd1|refine bdS ?_ GE304.out|refine bdS ?_ GE305.out|refine bdS ?_ GE306.out|refine bdS ?_ GE313.out)|exact HB.out))⟩)
      rintro ⟨v309,gb313⟩ w16 ⟨hS_,h0_,h1_,h2_,h3_,h4_,h5_,h6_,h7_,h8_,h9_,h10_,h11_,h12_,h13_,h14_⟩
      have n0_:As0 (Kd.R Kd.string 9 w16 w.heap.size (fun _=>True) v309 t308):=⟨h0_⟩
      have n1_:As0 (Kd.R (Kd.int .i64) 3 w16 w.heap.size (fun _=>True) u5 x5_1):=⟨h1_⟩
      have n2_:As0 (w16.heap[gb304]?=some (.cells #[.slice A0_0 l0_0.length c0_0,.slice (some ad307) l0_1.length c0_1,.slice A0_2 l0_2.length c0_2,.int .i64 a0_3] 26 (0,0))):=⟨h2_⟩
      have n3_:As0 (w16.heap[gb305]?=some (.cells #[.slice none 0 0] 90 (0,0))):=⟨h3_⟩
      have n4_:As0 (w16.heap[gb306]?=some (.cells #[.slice Ao12 x307000_1.length co12] 90 (0,0))):=⟨h4_⟩
      have n5_:As0 (w16.heap[gb313]?=some (.cells #[.slice none 0 0] 90 (0,0))):=⟨h5_⟩
      have n6_:As0 (w.heap.size≤gb313):=⟨h6_⟩
      have n7_:As0 (w.heap.size≤gb313):=⟨h7_⟩
      have n8_:As0 (gb304≠gb313):=⟨h8_⟩
      have n9_:As0 (gb313≠gb304):=⟨h9_⟩
      have n10_:As0 (gb305≠gb313):=⟨h10_⟩
      have n11_:As0 (gb313≠gb305):=⟨h11_⟩
      have n12_:As0 (gb306≠gb313):=⟨h12_⟩
      have n13_:As0 (gb313≠gb306):=⟨h13_⟩
      have n14_:As0 (Below w.heap.size w w16):=⟨h14_⟩
      clear HO_5 HO_307000 BK304 BK305 BK306 HB h0_ h1_ h2_ h3_ h4_ h5_ h6_ h7_ h8_ h9_ h10_ h11_ h12_ h13_ h14_
      have HO310:=n0_
      have HO_5:=n1_
      have BK304:=n2_
      have BK305:=n3_
      have BK306:=n4_
      have BK313:=n5_
      have GW313:=n6_
      have GE313:=n7_
      have NB304_313:=n8_
      have NB313_304:=n9_
      have NB305_313:=n10_
      have NB313_305:=n11_
      have NB306_313:=n12_
      have NB313_306:=n13_
      have HB:=n14_
      clear n0_ n1_ n2_ n3_ n4_ n5_ n6_ n7_ n8_ n9_ n10_ n11_ n12_ n13_ n14_
      have hHeld:w16.cell? ⟨gb306,0,none⟩=some (.slice Ao12 x307000_1.length co12)∧w16.cell? ⟨gb304,0,none⟩=some (.slice A0_0 l0_0.length c0_0)∧w16.cell? ⟨gb304,1,none⟩=some (.slice (some ad307) l0_1.length c0_1)∧w16.cell? ⟨gb304,2,none⟩=some (.slice A0_2 l0_2.length c0_2)∧w16.cell? ⟨gb304,3,none⟩=some (.int .i64 a0_3)∧w16.cell? (ad307.add ((x6_1).toNat*4))=some (.string ((rd_T68 l0_1 x6_1).f0))∧w16.cell? ⟨(ad307.add ((x6_1).toNat*4)).block,(ad307.add ((x6_1).toNat*4)).off+1,none⟩=some (.int .i64 ((rd_T68 l0_1 x6_1).f1))∧w16.cell? ⟨(ad307.add ((x6_1).toNat*4)).block,(ad307.add ((x6_1).toNat*4)).off+2,none⟩=some (.int .i64 ((rd_T68 l0_1 x6_1).f2))∧w16.cell? ⟨(ad307.add ((x6_1).toNat*4)).block,(ad307.add ((x6_1).toNat*4)).off+3,none⟩=some (.int .i64 ((rd_T68 l0_1 x6_1).f3)):=hS_
      obtain ⟨Ao17,co17,eo17⟩:=Kd.R_slice HO310.out
      (first|subst eo17|(injection eo17 with f1_ f2_ f3_;have f4_:=f1_.symm;have f5_:=f3_.symm;clear f1_ f2_ f3_;subst f4_;subst f5_))
      refine norm_ (a':=?_) ?_ ?_
      rotate_left
      ·simp only [putAll,Act.put,List.setIfInBounds_toArray,List.set_cons_zero,List.set_cons_succ]
       rfl
      refine one_ (i:=13) (N:=none) #[true,true,true,true,true,true,true,true,true,true,true,true,true,true,false,false] rfl rfl (one_of HT_.out (by kernel_rfl)) (by decide) (fun K hK=>?_)
      have hs18:w16.cell? ⟨gb313,0,none⟩=some (.slice none 0 0):=(bkC BK313.out 0).trans rfl
      have hfs18:=bkF BK313.out 0
      have hns18_0:=NB304_313.out
      have hns18_1:=NB305_313.out
      have hns18_2:=NB306_313.out
      have hms18_0:=NB313_304.out
      have hms18_1:=NB313_305.out
      have hms18_2:=NB313_306.out
      refine skip_ (w1:=?_) (by rfl) rfl ?_ ?_
      rotate_left
      ·go_simp
       rfl
      refine hK.out _ _ ⟨((cell_far (p:=⟨gb313,_,none⟩) NB306_313.out _).trans (hHeld.1)),((cell_far (p:=⟨gb313,_,none⟩) NB304_313.out _).trans (hHeld.2.1)),((cell_far (p:=⟨gb313,_,none⟩) NB304_313.out _).trans (hHeld.2.2.1)),((cell_far (p:=⟨gb313,_,none⟩) NB304_313.out _).trans (hHeld.2.2.2.1)),((cell_far (p:=⟨gb313,_,none⟩) NB304_313.out _).trans (hHeld.2.2.2.2.1)),((cell_far (p:=⟨gb313,_,none⟩) (by first|exact Nat.ne_of_lt (Nat.lt_of_lt_of_le (by have:=World.block_lt_of_cell? _ _ hw307_0;first|rwa [add_block] at this|exact this) GW313.out)|(rw [add_block];exact Nat.ne_of_lt (Nat.lt_of_lt_of_le (by have:=World.block_lt_of_cell? _ _ hw307_0;first|rwa [add_block] at this|exact this) GW313.out))|(show (Addr.add _ _).block≠_;rw [add_block];exact Nat.ne_of_lt (Nat.lt_of_lt_of_le (by have:=World.block_lt_of_cell? _ _ hw307_0;first|rwa [add_block] at this|exact this) GW313.out))|(dsimp only;exact Nat.ne_of_lt (Nat.lt_of_lt_of_le (by have:=World.block_lt_of_cell? _ _ hw307_0;first|rwa [add_block] at this|exact this) GW313.out))) _).trans (hHeld.2.2.2.2.2.1)),((cell_far (p:=⟨gb313,_,none⟩) (by first|exact Nat.ne_of_lt (Nat.lt_of_lt_of_le (by have:=World.block_lt_of_cell? _ _ hw307_1;first|rwa [add_block] at this|exact this) GW313.out)|(rw [add_block];exact Nat.ne_of_lt (Nat.lt_of_lt_of_le (by have:=World.block_lt_of_cell? _ _ hw307_1;first|rwa [add_block] at this|exact this) GW313.out))|(show (Addr.add _ _).block≠_;rw [add_block];exact Nat.ne_of_lt (Nat.lt_of_lt_of_le (by have:=World.block_lt_of_cell? _ _ hw307_1;first|rwa [add_block] at this|exact this) GW313.out))|(dsimp only;exact Nat.ne_of_lt (Nat.lt_of_lt_of_le (by have:=World.block_lt_of_cell? _ _ hw307_1;first|rwa [add_block] at this|exact this) GW313.out))) _).trans (hHeld.2.2.2.2.2.2.1)),((cell_far (p:=⟨gb313,_,none⟩) (by first|exact Nat.ne_of_lt (Nat.lt_of_lt_of_le (by have:=World.block_lt_of_cell? _ _ hw307_2;first|rwa [add_block] at this|exact this) GW313.out)|(rw [add_block];exact Nat.ne_of_lt (Nat.lt_of_lt_of_le (by have:=World.block_lt_of_cell? _ _ hw307_2;first|rwa [add_block] at this|exact this) GW313.out))|(show (Addr.add _ _).block≠_;rw [add_block];exact Nat.ne_of_lt (Nat.lt_of_lt_of_le (by have:=World.block_lt_of_cell? _ _ hw307_2;first|rwa [add_block] at this|exact this) GW313.out))|(dsimp only;exact Nat.ne_of_lt (Nat.lt_of_lt_of_le (by have:=World.block_lt_of_cell? _ _ hw307_2;first|rwa [add_block] at this|exact this) GW313.out))) _).trans (hHeld.2.2.2.2.2.2.2.1)),((cell_far (p:=⟨gb313,_,none⟩) (by first|exact Nat.ne_of_lt (Nat.lt_of_lt_of_le (by have:=World.block_lt_of_cell? _ _ hw307_3;first|rwa [add_block] at this|exact this) GW313.out)|(rw [add_block];exact Nat.ne_of_lt (Nat.lt_of_lt_of_le (by have:=World.block_lt_of_cell? _ _ hw307_3;first|rwa [add_block] at this|exact this) GW313.out))|(show (Addr.add _ _).block≠_;rw [add_block];exact Nat.ne_of_lt (Nat.lt_of_lt_of_le (by have:=World.block_lt_of_cell? _ _ hw307_3;first|rwa [add_block] at this|exact this) GW313.out))|(dsimp only;exact Nat.ne_of_lt (Nat.lt_of_lt_of_le (by have:=World.block_lt_of_cell? _ _ hw307_3;first|rwa [add_block] at this|exact this) GW313.out))) _).trans (hHeld.2.2.2.2.2.2.2.2))⟩ (fun hHeld=>?_)
      clear hK K
      refine pure_ (i:=14) (N:=some 8) (v:=?_) (a':=?_) #[true,true,true,true,true,true,true,true,true,true,true,true,true,true,true,false] rfl rfl (any_of HT_.out (by kernel_rfl)) (fun _ _ _ h=>h) (Or.inl ⟨by rfl,?_⟩) ?_ ?_
      rotate_left
      ·intro w'
       go_simp
       with_reducible rfl
      rotate_left
      ·simp only [Act.put,List.setIfInBounds_toArray,List.set_cons_zero,List.set_cons_succ,i64_w,i32_w]
       rfl
      refine pure_ (i:=15) (N:=some 9) (v:=?_) (a':=?_) #[true,true,true,true,true,true,true,true,true,true,true,true,true,true,true,true] rfl rfl (any_of HT_.out (by kernel_rfl)) (fun _ _ _ h=>h) (Or.inl ⟨by rfl,?_⟩) ?_ ?_
      rotate_left
      ·intro w'
       go_simp
       with_reducible rfl
      rotate_left
      ·simp only [Act.put,List.setIfInBounds_toArray,List.set_cons_zero,List.set_cons_succ,i64_w,i32_w]
       rfl
      refine done_ (done_of HT_.out (by kernel_rfl)) ?_
      have hnb19:=NB313_304.out
      have hnc19:=NB304_313.out
      have hnb20:=NB313_305.out
      have hnc20:=NB305_313.out
      have hnb21:=NB313_306.out
      have hnc21:=NB306_313.out
      have hcz22_0:w16.cell? ⟨gb313,0,none⟩=some (.slice none 0 0):=(bkC BK313.out 0).trans rfl
      have hfz22_0:=bkF BK313.out 0
      have hnb23:=NB306_305.out
      have hnc23:=NB305_306.out
      have hcz24_0:w16.cell? ⟨gb306,0,none⟩=some (.slice Ao12 x307000_1.length co12):=(bkC BK306.out 0).trans rfl
      have hfz24_0:=bkF BK306.out 0
      try go_wp2_with (first|((with_reducible refine gate_builtin (b:=.append) (xs:=#[.tmp 34,.tmp 36]) rfl ?_);at_builtin;refine Kd.R_append (Kd.int .i64) (w0:=w) w.heap.size rfl (.tmp 34) (.tmp 36) 77 3 (.int .i64 0) 8 rfl Try.underlying77 info3 rfl (by decide) (by omega) u5 x5_1 t311 [.int .i64 t311] (fun _=>True) (fun _=>False) rfl (by first|(go_simp;done)|(go_simp;rfl)) ?aP (fun _ hk=>hk.elim) ?aF ?aO ?aB ?aS ?aL ?_;(case aP=>exact rfl);(case aB=>exact (by repeat (first|(with_reducible first|exact HB.out|apply bdA|apply bdN|apply bd1|refine bdS ?_ GE304.out|refine bdS ?_ GE305.out|refine bdS ?_ GE306.out|refine bdS ?_ GE313.out)|exact HB.out)));(case aF=>exact (fun _ _=>trivial));(case aO=>exact (by (with_reducible repeat (first|apply Kd.R_alloc|apply Kd.RdN|apply Kd.RdW));exact Kd.R_mono (Kd.R_far (p:=⟨gb306,0,none⟩) (Kd.R_far (p:=⟨gb313,0,none⟩) (Kd.R_types (Kd.R_types HO_5.out BK313.out (by decide)) BK306.out (by decide)) (fun _ hk=>hk.1.2) (.slice Ao17 t308.length co17)) (fun _ hk=>hk.2) (.slice Ao17 t308.length co17)) (fun _ hk=>trivial)));(case aS=>exact (bdZ (by repeat (first|(with_reducible first|exact HB.out|apply bdA|apply bdN|apply bd1|refine bdS ?_ GE304.out|refine bdS ?_ GE305.out|refine bdS ?_ GE306.out|refine bdS ?_ GE313.out)|exact HB.out))));(case aL=>have:=LMc8.out;omega);intro v315 w25 ho hb hg hat;rw [← Ny314.out] at ho;have n0_:=As0.mk (blk_grown (g:=gb304) (o:=.cells #[.slice A0_0 l0_0.length c0_0,.slice (some ad307) l0_1.length c0_1,.slice A0_2 l0_2.length c0_2,.int .i64 a0_3] 26 (0,0)) (by (with_reducible repeat (first|refine bkN ?_ _|refine bkD ?_|refine bkA ?_ _));refine bkR ?_ NB304_306.out _;(with_reducible repeat (first|refine bkN ?_ _|refine bkD ?_|refine bkA ?_ _));refine bkR ?_ NB304_313.out _;(with_reducible repeat (first|refine bkN ?_ _|refine bkD ?_|refine bkA ?_ _));exact BK304.out) hg (Kd.R_ne HO_5.out BK304.out (by decide)));have n1_:=As0.mk (blk_grown (g:=gb305) (o:=.cells #[.slice none 0 0] 90 (0,0)) (by (with_reducible repeat (first|refine bkN ?_ _|refine bkD ?_|refine bkA ?_ _));refine bkR ?_ NB305_306.out _;(with_reducible repeat (first|refine bkN ?_ _|refine bkD ?_|refine bkA ?_ _));refine bkR ?_ NB305_313.out _;(with_reducible repeat (first|refine bkN ?_ _|refine bkD ?_|refine bkA ?_ _));exact BK305.out) hg (Kd.R_ne HO_5.out BK305.out (by decide)));have n2_:=As0.mk (blk_grown (g:=gb306) (o:=.cells #[.slice Ao17 t308.length co17] 90 (0,0)) (by (with_reducible repeat (first|refine bkN ?_ _|refine bkD ?_|refine bkA ?_ _));refine bkP (cs:=#[.slice Ao12 x307000_1.length co12]) ?_ 0 _ rfl;(with_reducible repeat (first|refine bkN ?_ _|refine bkD ?_|refine bkA ?_ _));refine bkR ?_ NB306_313.out _;(with_reducible repeat (first|refine bkN ?_ _|refine bkD ?_|refine bkA ?_ _));exact BK306.out) hg (Kd.R_ne HO_5.out BK306.out (by decide)));have n3_:=As0.mk (Kd.R_over' (by (with_reducible repeat (first|apply Kd.R_alloc|apply Kd.RdN|apply Kd.RdW));exact (Kd.R_mono (Kd.R_mono (Kd.R_far (p:=⟨gb306,0,none⟩) (Kd.R_far (p:=⟨gb313,0,none⟩) (Kd.R_types (Kd.R_types HO310.out BK313.out (by decide)) BK306.out (by decide)) (fun _ hk=>hk.1.2) (.slice Ao17 t308.length co17)) (fun _ hk=>hk.2) (.slice Ao17 t308.length co17)) (fun _ h_=>h_.1)) (fun _ h_=>h_.1))) (Kd.R_typed (by (with_reducible repeat (first|apply Kd.R_alloc|apply Kd.RdN|apply Kd.RdW));exact (Kd.R_mono (Kd.R_mono (Kd.R_far (p:=⟨gb306,0,none⟩) (Kd.R_far (p:=⟨gb313,0,none⟩) (Kd.R_types (Kd.R_types HO_5.out BK313.out (by decide)) BK306.out (by decide)) (fun _ hk=>hk.1.2) (.slice Ao17 t308.length co17)) (fun _ hk=>hk.2) (.slice Ao17 t308.length co17)) (fun _ h_=>h_.1)) (fun _ h_=>h_.1)))) (by decide) hg);have n4_:=As0.mk (blk_grown (g:=gb313) (o:=.cells #[.slice Ao17 t308.length co17] 90 (0,0)) (by (with_reducible repeat (first|refine bkN ?_ _|refine bkD ?_|refine bkA ?_ _));refine bkR ?_ NB313_306.out _;(with_reducible repeat (first|refine bkN ?_ _|refine bkD ?_|refine bkA ?_ _));refine bkP (cs:=#[.slice none 0 0]) ?_ 0 _ rfl;(with_reducible repeat (first|refine bkN ?_ _|refine bkD ?_|refine bkA ?_ _));exact BK313.out) hg (Kd.R_ne HO_5.out BK313.out (by decide)));have n5_:=As0.mk (hb);have n6_:=As0.mk (ho);clear BK304;clear BK305;clear BK306;clear HO310;clear BK313;clear HB;clear HO_5;have BK304:=n0_;have BK305:=n1_;have BK306:=n2_;have HO310:=n3_;have BK313:=n4_;have HB:=n5_;have HO316:=n6_;clear n0_ n1_ n2_ n3_ n4_ n5_ n6_;clear ho hb hg hat))
      go_roundg k1
      case measure=>have:=HK1.out;omega
      case rel=>exact ⟨(y314),(wrap64 (x6_1+1)),(t308),(.slice Ao17 t308.length co17),(by first|rfl|(simp;done)|(simp [*];done)),H',⟨by have:=HK1.out;omega⟩,⟨by (with_reducible repeat (first|apply Kd.R_alloc|apply Kd.RdN|apply Kd.RdW));exact HO316.out⟩,⟨by (with_reducible repeat (first|apply Kd.R_alloc|apply Kd.RdN|apply Kd.RdW));exact HO310.out⟩,⟨by (with_reducible repeat (first|refine bkN ?_ _|refine bkD ?_|refine bkA ?_ _));exact BK304.out⟩,⟨by (with_reducible repeat (first|refine bkN ?_ _|refine bkD ?_|refine bkA ?_ _));exact BK305.out⟩,⟨by (with_reducible repeat (first|refine bkN ?_ _|refine bkD ?_|refine bkA ?_ _));exact BK306.out⟩,⟨by repeat (first|(with_reducible first|exact HB.out|apply bdA|apply bdN|apply bd1|refine bdS ?_ GE304.out|refine bdS ?_ GE305.out|refine bdS ?_ GE306.out|refine bdS ?_ GE313.out)|exact HB.out)⟩⟩
     ·rw [if_neg c8] at H
      exact absurd H (by simp)
    ·rw [if_neg c6] at H
     exact absurd H (by simp)
   ·rw [if_neg c5] at H
    have c5b0:decide (x6_1<(l0_1.length:Int))=false:=decide_eq_false c5
    clear c5
    have H':=As0.mk H
    clear H
    have hnb26:=NB304_305.out
    have hnc26:=NB305_304.out
    have hnb27:=NB304_306.out
    have hnc27:=NB306_304.out
    have hcz28_0:wr.cell? ⟨gb304,0,none⟩=some (.slice A0_0 l0_0.length c0_0):=(bkC BK304.out 0).trans rfl
    have hcz28_1:wr.cell? ⟨gb304,1,none⟩=some (.slice A0_1 l0_1.length c0_1):=(bkC BK304.out 1).trans rfl
    have hcz28_2:wr.cell? ⟨gb304,2,none⟩=some (.slice A0_2 l0_2.length c0_2):=(bkC BK304.out 2).trans rfl
    have hcz28_3:wr.cell? ⟨gb304,3,none⟩=some (.int .i64 a0_3):=(bkC BK304.out 3).trans rfl
    have hfz28_0:=bkF BK304.out 0
    have hfz28_1:=bkF BK304.out 1
    have hfz28_2:=bkF BK304.out 2
    have hfz28_3:=bkF BK304.out 3
    go_wp2
    go_loopg [5,10] k1 (fun kq v5 v10 w'=>∃ (x5_2:List Int) (x10_2:Int) (x307000_2:List ByteArray) (u307000:Value),v10=.int .i64 x10_2∧As0 (sr17s.l1 kq x5_2 x10_2 l0_0 l0_1 l0_2 a0_3 x307000_2=some (r1,r2))∧As0 (kq≤k1)∧As0 (Kd.R (Kd.int .i64) 3 w' w.heap.size (fun _=>True) v5 x5_2)∧As0 (Kd.R Kd.string 9 w' w.heap.size (fun _=>True) u307000 x307000_2)∧As0 (w'.heap[gb304]?=some (.cells #[(.slice A0_0 l0_0.length c0_0),(.slice A0_1 l0_1.length c0_1),(.slice A0_2 l0_2.length c0_2),.int .i64 a0_3] 26 (0,0)))∧As0 (w'.heap[gb305]?=some (.cells #[(.slice none 0 0)] 90 (0,0)))∧As0 (w'.heap[gb306]?=some (.cells #[u307000] 90 (0,0)))∧As0 (Below w.heap.size w w'))
    case atStart=>exact ⟨(x5_1),(0),(x307000_1),(u307000),(by first|rfl|(simp;done)|(simp [*];done)),H',⟨Nat.le_refl _⟩,⟨by (with_reducible repeat (first|apply Kd.R_alloc|apply Kd.RdN|apply Kd.RdW));exact HO_5.out⟩,⟨by (with_reducible repeat (first|apply Kd.R_alloc|apply Kd.RdN|apply Kd.RdW));exact HO_307000.out⟩,⟨by (with_reducible repeat (first|refine bkN ?_ _|refine bkD ?_|refine bkA ?_ _));exact BK304.out⟩,⟨by (with_reducible repeat (first|refine bkN ?_ _|refine bkD ?_|refine bkA ?_ _));exact BK305.out⟩,⟨by (with_reducible repeat (first|refine bkN ?_ _|refine bkD ?_|refine bkA ?_ _));exact BK306.out⟩,⟨by repeat (first|(with_reducible first|exact HB.out|apply bdA|apply bdN|apply bd1|refine bdS ?_ GE304.out|refine bdS ?_ GE305.out|refine bdS ?_ GE306.out)|exact HB.out)⟩⟩
    case round =>
     clear H'
     try clear c1
     try clear c2
     try clear p2
     try clear p3
     try clear q3
     try clear hx3
     try clear c5
     try clear c5b0
     try clear c6
     try clear c6b0
     try clear p6
     try clear c8
     try clear c9
     try clear c10
     try clear c19
     try clear c20
     try clear c21
     try clear c23
     try clear c26
     try clear c27
     try clear hcz11_0
     try clear hcz11_1
     try clear hcz11_2
     try clear hcz11_3
     try clear hcz22_0
     try clear hcz24_0
     try clear hcz28_0
     try clear hcz28_1
     try clear hcz28_2
     try clear hcz28_3
     try clear hfz11_0
     try clear hfz11_1
     try clear hfz11_2
     try clear hfz11_3
     try clear hfz22_0
     try clear hfz24_0
     try clear hfz28_0
     try clear hfz28_1
     try clear hfz28_2
     try clear hfz28_3
     try clear hx307_0
     try clear hx307_1
     try clear hx307_2
     try clear hx307_3
     try clear p2
     try clear p307
     try clear q307
     obtain ⟨x5_2,x10_2,x307000_2,u307000,rfl,HA,HK2,HO_5,HO_307000,BK304,BK305,BK306,HB⟩:=hrel
     cases gk with
     | zero=>exact absurd HA.out (by simp [sr17s.l1])
     | succ k2 =>
      have H:=HA.out
      clear HA
      simp only [sr17s.l1] at H
      by_cases c29:x10_2<(l0_2.length:Int)
      ·rw [if_pos c29] at H
       have c29b0:decide (x10_2<(l0_2.length:Int))=true:=decide_eq_true c29
       clear c29
       by_cases c30:0≤x10_2
       ·rw [if_pos c30] at H
        have c30b0:decide (0≤x10_2)=true:=decide_eq_true c30
        clear c30
        replace H:=Option.bind_eq_some_iff.mp H
        obtain ⟨⟨t318,t321,t322⟩,A310,H⟩:=H
        replace H:(if x5_2.length<17592186044416 then (sr17s.l1 k2 (x5_2 ++ [t321]) (wrap64 (x10_2+1)) l0_0 l0_1 l0_2 a0_3 t318) else (none))=some (r1,r2):=H
        have A31:=As0.mk A310
        clear A310
        by_cases c32:x5_2.length<17592186044416
        ·rw [if_pos c32] at H
         have LMc32:=As0.mk c32
         clear c32
         obtain ⟨y324,hy324⟩:∃ y_:List Int,y_=(x5_2 ++ [t321]):=⟨_,rfl⟩
         replace H:(sr17s.l1 k2 y324 (wrap64 (x10_2+1)) l0_0 l0_1 l0_2 a0_3 t318)=some (r1,r2):=by first|(rw [hy324];with_reducible exact H)|(have H2_:=(Option.bind_some _ _).symm.trans H;rw [hy324];with_reducible exact H2_)|(have H2_:=(Option.bind_some _ _).symm.trans H;with_reducible exact H2_)|with_reducible exact H|(rw [hy324];exact H)|exact H
         have Ny324:=As0.mk hy324
         clear hy324
         have H':=As0.mk H
         clear H
         have hnb33:=NB304_305.out
         have hnc33:=NB305_304.out
         have hnb34:=NB304_306.out
         have hnc34:=NB306_304.out
         have hcz35_0:wr.cell? ⟨gb304,0,none⟩=some (.slice A0_0 l0_0.length c0_0):=(bkC BK304.out 0).trans rfl
         have hcz35_1:wr.cell? ⟨gb304,1,none⟩=some (.slice A0_1 l0_1.length c0_1):=(bkC BK304.out 1).trans rfl
         have hcz35_2:wr.cell? ⟨gb304,2,none⟩=some (.slice A0_2 l0_2.length c0_2):=(bkC BK304.out 2).trans rfl
         have hcz35_3:wr.cell? ⟨gb304,3,none⟩=some (.int .i64 a0_3):=(bkC BK304.out 3).trans rfl
         have hfz35_0:=bkF BK304.out 0
         have hfz35_1:=bkF BK304.out 1
         have hfz35_2:=bkF BK304.out 2
         have hfz35_3:=bkF BK304.out 3
         obtain ⟨Ao36,co36,eo36⟩:=Kd.R_slice HO_307000.out
         subst eo36
         try go_wp2
         have n0_:=As0.mk (Kd.RdW HO_5.out)
         have n1_:=As0.mk (Kd.RdW HO_307000.out)
         have n2_:=As0.mk (bkD BK304.out)
         have n3_:=As0.mk (bkD BK305.out)
         have n4_:=As0.mk (bkD BK306.out)
         have n5_:=As0.mk (bd1 HB.out)
         clear HO_5 HO_307000 BK304 BK305 BK306 HB
         have HO_5:=n0_
         have HO_307000:=n1_
         have BK304:=n2_
         have BK305:=n3_
         have BK306:=n4_
         have HB:=n5_
         clear n0_ n1_ n2_ n3_ n4_ n5_
         have p317:0≤(x10_2:Int):=of_decide_eq_true (by first|(with_reducible assumption)|assumption)
         have q317:x10_2<(l0_2.length:Int):=of_decide_eq_true (by first|(with_reducible assumption)|assumption)
         obtain ⟨ad317,e317,hx317_0,hx317_1,hx317_2,hx317_3,hx317_4⟩:=at_T56 HR0_2.out x10_2 p317 q317
         have hw317_4:=hx317_4
         have hw317_3:=hx317_3
         have hw317_2:=hx317_2
         have hw317_1:=hx317_1
         have hw317_0:=hx317_0
         cases e317
         replace hx317_0:=(HB.out.cell (World.block_lt_of_cell? w _ hx317_0)).trans hx317_0
         replace hx317_1:=(HB.out.cell (World.block_lt_of_cell? w _ hx317_1)).trans hx317_1
         replace hx317_2:=(HB.out.cell (World.block_lt_of_cell? w _ hx317_2)).trans hx317_2
         replace hx317_3:=(HB.out.cell (World.block_lt_of_cell? w _ hx317_3)).trans hx317_3
         replace hx317_4:=(HB.out.cell (World.block_lt_of_cell? w _ hx317_4)).trans hx317_4
         replace p317:=eq_true p317
         replace q317:=eq_true q317
         refine start_ (n:=16) (S:=fun w'=>w'.cell? ⟨gb306,0,none⟩=some (.slice Ao36 x307000_2.length co36)∧w'.cell? ⟨gb304,0,none⟩=some (.slice A0_0 l0_0.length c0_0)∧w'.cell? ⟨gb304,1,none⟩=some (.slice A0_1 l0_1.length c0_1)∧w'.cell? ⟨gb304,2,none⟩=some (.slice (some ad317) l0_2.length c0_2)∧w'.cell? ⟨gb304,3,none⟩=some (.int .i64 a0_3)∧w'.cell? (ad317.add ((x10_2).toNat*5))=some (.string ((rd_T56 l0_2 x10_2).f0))∧w'.cell? ⟨(ad317.add ((x10_2).toNat*5)).block,(ad317.add ((x10_2).toNat*5)).off+1,none⟩=some (.int .i64 ((rd_T56 l0_2 x10_2).f1))∧w'.cell? ⟨(ad317.add ((x10_2).toNat*5)).block,(ad317.add ((x10_2).toNat*5)).off+2,none⟩=some (.int .i64 ((rd_T56 l0_2 x10_2).f2))∧w'.cell? ⟨(ad317.add ((x10_2).toNat*5)).block,(ad317.add ((x10_2).toNat*5)).off+3,none⟩=some (.int .i64 ((rd_T56 l0_2 x10_2).f3))∧w'.cell? ⟨(ad317.add ((x10_2).toNat*5)).block,(ad317.add ((x10_2).toNat*5)).off+4,none⟩=some (.int .i64 ((rd_T56 l0_2 x10_2).f4))) (ds:=[]) #[false,false,false,false,false,false,false,false,false,false,false,false,false,false,false,false] (by kernel_rfl) rfl rfl ⟨(bkC BK306.out 0).trans rfl,(bkC BK304.out 0).trans rfl,(bkC BK304.out 1).trans rfl,(bkC BK304.out 2).trans rfl,(bkC BK304.out 3).trans rfl,((HB.out.cell (World.block_lt_of_cell? w _ hw317_0)).trans hw317_0),((HB.out.cell (World.block_lt_of_cell? w _ hw317_1)).trans hw317_1),((HB.out.cell (World.block_lt_of_cell? w _ hw317_2)).trans hw317_2),((HB.out.cell (World.block_lt_of_cell? w _ hw317_3)).trans hw317_3),((HB.out.cell (World.block_lt_of_cell? w _ hw317_4)).trans hw317_4)⟩ (fun hHeld=>?_);refine with_tabW sr17s.tab12 sr17s.bits12 (fun HT_ HW_=>?_)
         generalize wr.drew=w37 at HO_5 HO_307000 BK304 BK305 BK306 HB hx317_0 hx317_1 hx317_2 hx317_3 hx317_4 hHeld ⊢
         refine pure_ (i:=1) (N:=some 47) (v:=?_) (a':=?_) #[false,true,false,false,false,false,false,false,false,false,false,false,false,false,false,false] rfl rfl (any_of HT_.out (by kernel_rfl)) (fun _ _ _ h=>h) (Or.inl ⟨by rfl,?_⟩) ?_ ?_
         rotate_left
         ·intro w'
          go_simp
          with_reducible rfl
         rotate_left
         ·simp only [Act.put,List.setIfInBounds_toArray,List.set_cons_zero,List.set_cons_succ,i64_w,i32_w]
          rfl
         refine pure_ (i:=3) (N:=some 49) (v:=?_) (a':=?_) #[false,true,false,true,false,false,false,false,false,false,false,false,false,false,false,false] rfl rfl (any_of HT_.out (by kernel_rfl)) (fun _ _ _ h=>h) (Or.inl ⟨by rfl,?_⟩) ?_ ?_
         rotate_left
         ·intro w'
          go_simp
          with_reducible rfl
         rotate_left
         ·simp only [Act.put,List.setIfInBounds_toArray,List.set_cons_zero,List.set_cons_succ,i64_w,i32_w]
          rfl
         refine take_ (i:=0) (N:=some 46) (v:=?_) (a':=?_) #[true,true,false,true,false,false,false,false,false,false,false,false,false,false,false,false] rfl rfl (take_ofW HT_.out HW_.out (by kernel_rfl)) (fun _ _ _ h=>h) (Or.inl ⟨by rfl,?_⟩) hHeld ?_ ?_
         rotate_left
         ·rintro w' ⟨s0,s1,s2,s3,s4,s5,s6,s7,s8,s9⟩
          go_simp
          with_reducible rfl
         rotate_left
         ·simp only [Act.put,List.setIfInBounds_toArray,List.set_cons_zero,List.set_cons_succ,i64_w,i32_w]
          rfl
         refine take_ (i:=2) (N:=some 48) (v:=?_) (a':=?_) #[true,true,true,true,false,false,false,false,false,false,false,false,false,false,false,false] rfl rfl (take_ofW HT_.out HW_.out (by kernel_rfl)) (fun _ _ _ h=>h) (Or.inl ⟨by rfl,?_⟩) hHeld ?_ ?_
         rotate_left
         ·rintro w' ⟨s0,s1,s2,s3,s4,s5,s6,s7,s8,s9⟩
          go_simp
          with_reducible rfl
         rotate_left
         ·simp only [Act.put,List.setIfInBounds_toArray,List.set_cons_zero,List.set_cons_succ,i64_w,i32_w]
          rfl
         refine pure_ (i:=4) (N:=some 50) (v:=?_) (a':=?_) #[true,true,true,true,true,false,false,false,false,false,false,false,false,false,false,false] rfl rfl (any_of HT_.out (by kernel_rfl)) (fun _ _ _ h=>h) (Or.inl ⟨by rfl,?_⟩) ?_ ?_
         rotate_left
         ·intro w'
          go_simp
          with_reducible rfl
         rotate_left
         ·simp only [Act.put,List.setIfInBounds_toArray,List.set_cons_zero,List.set_cons_succ,i64_w,i32_w]
          rfl
         refine pure_ (i:=5) (N:=some 51) (v:=?_) (a':=?_) #[true,true,true,true,true,true,false,false,false,false,false,false,false,false,false,false] rfl rfl (any_of HT_.out (by kernel_rfl)) (fun _ _ _ h=>h) (Or.inl ⟨by rfl,?_⟩) ?_ ?_
         rotate_left
         ·intro w'
          go_simp
          with_reducible rfl
         rotate_left
         ·simp only [Act.put,List.setIfInBounds_toArray,List.set_cons_zero,List.set_cons_succ,i64_w,i32_w]
          rfl
         refine take_ (i:=6) (N:=some 52) (v:=?_) (a':=?_) #[true,true,true,true,true,true,true,false,false,false,false,false,false,false,false,false] rfl rfl (take_ofW HT_.out HW_.out (by kernel_rfl)) (fun _ _ _ h=>h) (Or.inl ⟨by rfl,?_⟩) hHeld ?_ ?_
         rotate_left
         ·rintro w' ⟨s0,s1,s2,s3,s4,s5,s6,s7,s8,s9⟩
          go_simp
          with_reducible rfl
         rotate_left
         ·simp only [Act.put,List.setIfInBounds_toArray,List.set_cons_zero,List.set_cons_succ,i64_w,i32_w]
          rfl
         refine join_ (σ:=Value × Nat) 3 #[true,true,true,true,true,true,true,true,true,true,true,true,true,false,false,false] (fun s_=>[(53,.tuple #[.agg #[s_.1],.int .i64 t321,.int .i64 t322]),(11,.pointer (some ⟨s_.2,0,none⟩)),(45,.tuple #[.agg #[s_.1],.int .i64 t321,.int .i64 t322]),(54,.agg #[s_.1]),(55,.int .i64 t321),(56,.int .i64 t322)]) (fun s_ w'=>(w'.cell? ⟨gb306,0,none⟩=some (.slice Ao36 x307000_2.length co36)∧w'.cell? ⟨gb304,0,none⟩=some (.slice A0_0 l0_0.length c0_0)∧w'.cell? ⟨gb304,1,none⟩=some (.slice A0_1 l0_1.length c0_1)∧w'.cell? ⟨gb304,2,none⟩=some (.slice (some ad317) l0_2.length c0_2)∧w'.cell? ⟨gb304,3,none⟩=some (.int .i64 a0_3)∧w'.cell? (ad317.add ((x10_2).toNat*5))=some (.string ((rd_T56 l0_2 x10_2).f0))∧w'.cell? ⟨(ad317.add ((x10_2).toNat*5)).block,(ad317.add ((x10_2).toNat*5)).off+1,none⟩=some (.int .i64 ((rd_T56 l0_2 x10_2).f1))∧w'.cell? ⟨(ad317.add ((x10_2).toNat*5)).block,(ad317.add ((x10_2).toNat*5)).off+2,none⟩=some (.int .i64 ((rd_T56 l0_2 x10_2).f2))∧w'.cell? ⟨(ad317.add ((x10_2).toNat*5)).block,(ad317.add ((x10_2).toNat*5)).off+3,none⟩=some (.int .i64 ((rd_T56 l0_2 x10_2).f3))∧w'.cell? ⟨(ad317.add ((x10_2).toNat*5)).block,(ad317.add ((x10_2).toNat*5)).off+4,none⟩=some (.int .i64 ((rd_T56 l0_2 x10_2).f4)))∧(Kd.R Kd.string 9 w' w.heap.size (fun _=>True) s_.1 t318)∧(Kd.R (Kd.int .i64) 3 w' w.heap.size (fun _=>True) u5 x5_2)∧(w'.heap[gb304]?=some (.cells #[.slice A0_0 l0_0.length c0_0,.slice A0_1 l0_1.length c0_1,.slice (some ad317) l0_2.length c0_2,.int .i64 a0_3] 26 (0,0)))∧(w'.heap[gb305]?=some (.cells #[.slice none 0 0] 90 (0,0)))∧(w'.heap[gb306]?=some (.cells #[.slice Ao36 x307000_2.length co36] 90 (0,0)))∧(w'.heap[s_.2]?=some (.cells #[.slice none 0 0] 90 (0,0)))∧(w.heap.size≤s_.2)∧(w.heap.size≤s_.2)∧(gb304≠s_.2)∧(s_.2≠gb304)∧(gb305≠s_.2)∧(s_.2≠gb305)∧(gb306≠s_.2)∧(s_.2≠gb306)∧(Below w.heap.size w w')) ?_ ?_
         rotate_left
         ·intro hCont
          refine two_ (i:=7) (j:=12) (Ni:=some 53) (Nj:=some 11) #[true,true,true,true,true,true,true,true,false,false,false,false,false,false,false,false] #[true,true,true,true,true,true,true,false,false,false,false,false,true,false,false,false] rfl rfl rfl rfl (two_of HT_.out (by kernel_rfl)) (by decide) (by decide) (fun K hK=>?_) (fun K hK=>?_)
          ·skip
           refine goes_ Try.func85 (by kernel_rfl) rfl #[.agg #[.slice Ao36 x307000_2.length co36],.string ((rd_T56 l0_2 x10_2).f0)] (by rfl) rfl rfl (by (try simp only [List.map_toArray,List.map_cons,List.map_nil]);first|done|rfl|(simp only [List.length_drop,List.length_take];rfl)) ?_
           with_reducible refine (sr8a.calls k2 (fun k_=>some k_=(.slice Ao36 x307000_2.length co36:Value).ownBlock) (.slice Ao36 x307000_2.length co36) x307000_2 ((rd_T56 l0_2 x10_2).f0) t318 t321 t322 w _ ?side1 ?side2 A31.out).mono ?_
           (case side1=>repeat (first|(with_reducible first|exact HB.out|apply bdA|apply bdN|apply bd1|refine bdS ?_ GE304.out|refine bdS ?_ GE305.out|refine bdS ?_ GE306.out)|exact HB.out))
           (case side2=>exact Kd.R_tight rfl HO_307000.out)
           rintro e w38 ⟨v319,rfl,ho0,hb,hkp⟩
           refine ⟨_,rfl,?_⟩
           have n0_:=As0.mk (Kd.R_mono (ok':=fun k_=>True) (Kd.R_keptB ((Kd.R_apart' HO_5.out (Kd.R_typed HO_307000.out) (by decide))) hkp (fun k_ hk_ hs_=>(hk_.2) hs_)) (fun k_ hk_=>trivial))
           have n1_:=As0.mk (bkK (by (with_reducible repeat (first|refine bkN ?_ _|refine bkD ?_|refine bkA ?_ _));exact BK304.out) hkp (fun hs_=>(fun e_=>(Kd.R_ne HO_307000.out BK304.out (by decide)) e_) hs_))
           have n2_:=As0.mk (bkK (by (with_reducible repeat (first|refine bkN ?_ _|refine bkD ?_|refine bkA ?_ _));exact BK305.out) hkp (fun hs_=>(fun e_=>(Kd.R_ne HO_307000.out BK305.out (by decide)) e_) hs_))
           have n3_:=As0.mk (bkK (by (with_reducible repeat (first|refine bkN ?_ _|refine bkD ?_|refine bkA ?_ _));exact BK306.out) hkp (fun hs_=>(fun e_=>(Kd.R_ne HO_307000.out BK306.out (by decide)) e_) hs_))
           have n4_:=As0.mk (Kd.R_mono (ok':=fun k_=>True) ho0 (fun k_ hk_=>trivial))
           have n5_:=As0.mk (hb)
           clear HO_5 BK304 BK305 BK306 HB HO_307000
           have HO_5:=n0_
           have BK304:=n1_
           have BK305:=n2_
           have BK306:=n3_
           have HO320:=n4_
           have HB:=n5_
           clear n0_ n1_ n2_ n3_ n4_ n5_
           (try clear hb)
           (try clear hkp)
           (try clear ho0)
           refine hK.out _ _ ⟨(bkC BK306.out 0).trans rfl,(bkC BK304.out 0).trans rfl,(bkC BK304.out 1).trans rfl,(bkC BK304.out 2).trans rfl,(bkC BK304.out 3).trans rfl,((HB.out.cell (World.block_lt_of_cell? w _ hw317_0)).trans hw317_0),((HB.out.cell (World.block_lt_of_cell? w _ hw317_1)).trans hw317_1),((HB.out.cell (World.block_lt_of_cell? w _ hw317_2)).trans hw317_2),((HB.out.cell (World.block_lt_of_cell? w _ hw317_3)).trans hw317_3),((HB.out.cell (World.block_lt_of_cell? w _ hw317_4)).trans hw317_4)⟩ (fun hHeld=>?_)
           clear hK K
           refine norm_ (a':=?_) ?_ ?_
           rotate_left
           ·show Act.put _ (some 53) _=_
            simp only [Act.put,List.setIfInBounds_toArray,List.set_cons_zero,List.set_cons_succ,i64_w,i32_w]
            rfl
           refine pure_ (i:=8) (N:=some 45) (v:=?_) (a':=?_) #[true,true,true,true,true,true,true,true,true,false,false,false,false,false,false,false] rfl rfl (any_of HT_.out (by kernel_rfl)) (fun _ _ _ h=>h) (Or.inl ⟨by rfl,?_⟩) ?_ ?_
           rotate_left
           ·intro w'
            go_simp
            with_reducible rfl
           rotate_left
           ·simp only [Act.put,List.setIfInBounds_toArray,List.set_cons_zero,List.set_cons_succ,i64_w,i32_w]
            rfl
           refine pure_ (i:=9) (N:=some 54) (v:=?_) (a':=?_) #[true,true,true,true,true,true,true,true,true,true,false,false,false,false,false,false] rfl rfl (any_of HT_.out (by kernel_rfl)) (fun _ _ _ h=>h) (Or.inl ⟨by rfl,?_⟩) ?_ ?_
           rotate_left
           ·intro w'
            go_simp
            with_reducible rfl
           rotate_left
           ·simp only [Act.put,List.setIfInBounds_toArray,List.set_cons_zero,List.set_cons_succ,i64_w,i32_w]
            rfl
           refine pure_ (i:=10) (N:=some 55) (v:=?_) (a':=?_) #[true,true,true,true,true,true,true,true,true,true,true,false,false,false,false,false] rfl rfl (any_of HT_.out (by kernel_rfl)) (fun _ _ _ h=>h) (Or.inl ⟨by rfl,?_⟩) ?_ ?_
           rotate_left
           ·intro w'
            go_simp
            with_reducible rfl
           rotate_left
           ·simp only [Act.put,List.setIfInBounds_toArray,List.set_cons_zero,List.set_cons_succ,i64_w,i32_w]
            rfl
           refine pure_ (i:=11) (N:=some 56) (v:=?_) (a':=?_) #[true,true,true,true,true,true,true,true,true,true,true,true,false,false,false,false] rfl rfl (any_of HT_.out (by kernel_rfl)) (fun _ _ _ h=>h) (Or.inl ⟨by rfl,?_⟩) ?_ ?_
           rotate_left
           ·intro w'
            go_simp
            with_reducible rfl
           rotate_left
           ·simp only [Act.put,List.setIfInBounds_toArray,List.set_cons_zero,List.set_cons_succ,i64_w,i32_w]
            rfl
           refine one_ (i:=12) (N:=some 11) #[true,true,true,true,true,true,true,true,true,true,true,true,true,false,false,false] rfl rfl (one_of HT_.out (by kernel_rfl)) (by decide) (fun K hK=>?_)
           refine box_step ?hg (N:=11) ?hd (cs:=#[.slice none 0 0]) (t:=90) ?hr ?_;(case hd=>rfl);(case hg=>rfl);(case hr=>first|(go_simp;done)|(go_simp;rfl))
           intro gb323 hg w39 hbox hb
           have n0_:=As0.mk (Kd.RbW (by (with_reducible repeat (first|apply Kd.R_alloc|apply Kd.RdN|apply Kd.RdW));exact HO_5.out) hb)
           have n1_:=As0.mk (Kd.RbW (by (with_reducible repeat (first|apply Kd.R_alloc|apply Kd.RdN|apply Kd.RdW));exact HO320.out) hb)
           have n2_:=As0.mk (bkB (g:=gb304) (o:=.cells #[.slice A0_0 l0_0.length c0_0,.slice A0_1 l0_1.length c0_1,.slice (some ad317) l0_2.length c0_2,.int .i64 a0_3] 26 (0,0)) (by (with_reducible repeat (first|refine bkN ?_ _|refine bkD ?_|refine bkA ?_ _));exact BK304.out) hb)
           have n3_:=As0.mk (bkB (g:=gb305) (o:=.cells #[.slice none 0 0] 90 (0,0)) (by (with_reducible repeat (first|refine bkN ?_ _|refine bkD ?_|refine bkA ?_ _));exact BK305.out) hb)
           have n4_:=As0.mk (bkB (g:=gb306) (o:=.cells #[.slice Ao36 x307000_2.length co36] 90 (0,0)) (by (with_reducible repeat (first|refine bkN ?_ _|refine bkD ?_|refine bkA ?_ _));exact BK306.out) hb)
           have n5_:=As0.mk (bdT (by repeat (first|(with_reducible first|exact HB.out|apply bdA|apply bdN|apply bd1|refine bdS ?_ GE304.out|refine bdS ?_ GE305.out|refine bdS ?_ GE306.out)|exact HB.out)) hb)
           have n6_:=As0.mk (hbox)
           have n7_:=As0.mk ((by rw [hg];exact (bdZ (by repeat (first|(with_reducible first|exact HB.out|apply bdA|apply bdN|apply bd1|refine bdS ?_ GE304.out|refine bdS ?_ GE305.out|refine bdS ?_ GE306.out)|exact HB.out))):w.heap.size≤gb323))
           have n8_:=As0.mk ((by rw [hg];exact (bdZ (by repeat (first|(with_reducible first|exact HB.out|apply bdA|apply bdN|apply bd1|refine bdS ?_ GE304.out|refine bdS ?_ GE305.out|refine bdS ?_ GE306.out)|exact HB.out))):w.heap.size≤gb323))
           have n9_:=As0.mk ((by rw [hg];exact Nat.ne_of_lt (blk_lt (g:=gb304) (o:=.cells #[.slice A0_0 l0_0.length c0_0,.slice A0_1 l0_1.length c0_1,.slice (some ad317) l0_2.length c0_2,.int .i64 a0_3] 26 (0,0)) (by (with_reducible repeat (first|refine bkN ?_ _|refine bkD ?_|refine bkA ?_ _));exact BK304.out)):gb304≠gb323))
           have n10_:=As0.mk ((by rw [hg];exact Nat.ne_of_gt (blk_lt (g:=gb304) (o:=.cells #[.slice A0_0 l0_0.length c0_0,.slice A0_1 l0_1.length c0_1,.slice (some ad317) l0_2.length c0_2,.int .i64 a0_3] 26 (0,0)) (by (with_reducible repeat (first|refine bkN ?_ _|refine bkD ?_|refine bkA ?_ _));exact BK304.out)):gb323≠gb304))
           have n11_:=As0.mk ((by rw [hg];exact Nat.ne_of_lt (blk_lt (g:=gb305) (o:=.cells #[.slice none 0 0] 90 (0,0)) (by (with_reducible repeat (first|refine bkN ?_ _|refine bkD ?_|refine bkA ?_ _));exact BK305.out)):gb305≠gb323))
           have n12_:=As0.mk ((by rw [hg];exact Nat.ne_of_gt (blk_lt (g:=gb305) (o:=.cells #[.slice none 0 0] 90 (0,0)) (by (with_reducible repeat (first|refine bkN ?_ _|refine bkD ?_|refine bkA ?_ _));exact BK305.out)):gb323≠gb305))
           have n13_:=As0.mk ((by rw [hg];exact Nat.ne_of_lt (blk_lt (g:=gb306) (o:=.cells #[.slice Ao36 x307000_2.length co36] 90 (0,0)) (by (with_reducible repeat (first|refine bkN ?_ _|refine bkD ?_|refine bkA ?_ _));exact BK306.out)):gb306≠gb323))
           have n14_:=As0.mk ((by rw [hg];exact Nat.ne_of_gt (blk_lt (g:=gb306) (o:=.cells #[.slice Ao36 x307000_2.length co36] 90 (0,0)) (by (with_reducible repeat (first|refine bkN ?_ _|refine bkD ?_|refine bkA ?_ _));exact BK306.out)):gb323≠gb306))
           clear HO_5 HO320 BK304 BK305 BK306 HB
           have HO_5:=n0_
           have HO320:=n1_
           have BK304:=n2_
           have BK305:=n3_
           have BK306:=n4_
           have HB:=n5_
           have BK323:=n6_
           have GW323:=n7_
           have GE323:=n8_
           have NB304_323:=n9_
           have NB323_304:=n10_
           have NB305_323:=n11_
           have NB323_305:=n12_
           have NB306_323:=n13_
           have NB323_306:=n14_
           clear n0_ n1_ n2_ n3_ n4_ n5_ n6_ n7_ n8_ n9_ n10_ n11_ n12_ n13_ n14_ hb hbox hg
           refine hK.out _ _ ⟨(bkC BK306.out 0).trans rfl,(bkC BK304.out 0).trans rfl,(bkC BK304.out 1).trans rfl,(bkC BK304.out 2).trans rfl,(bkC BK304.out 3).trans rfl,((HB.out.cell (World.block_lt_of_cell? w _ hw317_0)).trans hw317_0),((HB.out.cell (World.block_lt_of_cell? w _ hw317_1)).trans hw317_1),((HB.out.cell (World.block_lt_of_cell? w _ hw317_2)).trans hw317_2),((HB.out.cell (World.block_lt_of_cell? w _ hw317_3)).trans hw317_3),((HB.out.cell (World.block_lt_of_cell? w _ hw317_4)).trans hw317_4)⟩ (fun hHeld=>?_)
           clear hK K
           refine norm_ (a':=?_) ?_ ?_
           rotate_left
           ·show Act.put _ (some 11) _=_
            simp only [Act.put,List.setIfInBounds_toArray,List.set_cons_zero,List.set_cons_succ,i64_w,i32_w]
            rfl
           exact norm_ (by simp only [putAll,Act.put,List.setIfInBounds_toArray,List.set_cons_zero,List.set_cons_succ]) (hCont (v319,gb323) _ ⟨hHeld,(by (with_reducible repeat (first|apply Kd.R_alloc|apply Kd.RdN|apply Kd.RdW));exact HO320.out),(by (with_reducible repeat (first|apply Kd.R_alloc|apply Kd.RdN|apply Kd.RdW));exact HO_5.out),(by (with_reducible repeat (first|refine bkN ?_ _|refine bkD ?_|refine bkA ?_ _));exact BK304.out),(by (with_reducible repeat (first|refine bkN ?_ _|refine bkD ?_|refine bkA ?_ _));exact BK305.out),(by (with_reducible repeat (first|refine bkN ?_ _|refine bkD ?_|refine bkA ?_ _));exact BK306.out),(by (with_reducible repeat (first|refine bkN ?_ _|refine bkD ?_|refine bkA ?_ _));exact BK323.out),GW323.out,GE323.out,NB304_323.out,NB323_304.out,NB305_323.out,NB323_305.out,NB306_323.out,NB323_306.out,(by repeat (first|(with_reducible first|exact HB.out|apply bdA|apply bdN|apply bd1|refine bdS ?_ GE304.out|refine bdS ?_ GE305.out|refine bdS ?_ GE306.out|refine bdS ?_ GE323.out)|exact HB.out))⟩)
          ·skip
           refine box_step ?hg (N:=11) ?hd (cs:=#[.slice none 0 0]) (t:=90) ?hr ?_;(case hd=>rfl);(case hg=>rfl);(case hr=>first|(go_simp;done)|(go_simp;rfl))
           intro gb323 hg w38 hbox hb
           have n0_:=As0.mk (Kd.RbW (by (with_reducible repeat (first|apply Kd.R_alloc|apply Kd.RdN|apply Kd.RdW));exact HO_5.out) hb)
           have n1_:=As0.mk (Kd.RbW (by (with_reducible repeat (first|apply Kd.R_alloc|apply Kd.RdN|apply Kd.RdW));exact HO_307000.out) hb)
           have n2_:=As0.mk (bkB (g:=gb304) (o:=.cells #[.slice A0_0 l0_0.length c0_0,.slice A0_1 l0_1.length c0_1,.slice (some ad317) l0_2.length c0_2,.int .i64 a0_3] 26 (0,0)) (by (with_reducible repeat (first|refine bkN ?_ _|refine bkD ?_|refine bkA ?_ _));exact BK304.out) hb)
           have n3_:=As0.mk (bkB (g:=gb305) (o:=.cells #[.slice none 0 0] 90 (0,0)) (by (with_reducible repeat (first|refine bkN ?_ _|refine bkD ?_|refine bkA ?_ _));exact BK305.out) hb)
           have n4_:=As0.mk (bkB (g:=gb306) (o:=.cells #[.slice Ao36 x307000_2.length co36] 90 (0,0)) (by (with_reducible repeat (first|refine bkN ?_ _|refine bkD ?_|refine bkA ?_ _));exact BK306.out) hb)
           have n5_:=As0.mk (bdT (by repeat (first|(with_reducible first|exact HB.out|apply bdA|apply bdN|apply bd1|refine bdS ?_ GE304.out|refine bdS ?_ GE305.out|refine bdS ?_ GE306.out)|exact HB.out)) hb)
           have n6_:=As0.mk (hbox)
           have n7_:=As0.mk ((by rw [hg];exact (bdZ (by repeat (first|(with_reducible first|exact HB.out|apply bdA|apply bdN|apply bd1|refine bdS ?_ GE304.out|refine bdS ?_ GE305.out|refine bdS ?_ GE306.out)|exact HB.out))):w.heap.size≤gb323))
           have n8_:=As0.mk ((by rw [hg];exact (bdZ (by repeat (first|(with_reducible first|exact HB.out|apply bdA|apply bdN|apply bd1|refine bdS ?_ GE304.out|refine bdS ?_ GE305.out|refine bdS ?_ GE306.out)|exact HB.out))):w.heap.size≤gb323))
           have n9_:=As0.mk ((by rw [hg];exact Nat.ne_of_lt (blk_lt (g:=gb304) (o:=.cells #[.slice A0_0 l0_0.length c0_0,.slice A0_1 l0_1.length c0_1,.slice (some ad317) l0_2.length c0_2,.int .i64 a0_3] 26 (0,0)) (by (with_reducible repeat (first|refine bkN ?_ _|refine bkD ?_|refine bkA ?_ _));exact BK304.out)):gb304≠gb323))
           have n10_:=As0.mk ((by rw [hg];exact Nat.ne_of_gt (blk_lt (g:=gb304) (o:=.cells #[.slice A0_0 l0_0.length c0_0,.slice A0_1 l0_1.length c0_1,.slice (some ad317) l0_2.length c0_2,.int .i64 a0_3] 26 (0,0)) (by (with_reducible repeat (first|refine bkN ?_ _|refine bkD ?_|refine bkA ?_ _));exact BK304.out)):gb323≠gb304))
           have n11_:=As0.mk ((by rw [hg];exact Nat.ne_of_lt (blk_lt (g:=gb305) (o:=.cells #[.slice none 0 0] 90 (0,0)) (by (with_reducible repeat (first|refine bkN ?_ _|refine bkD ?_|refine bkA ?_ _));exact BK305.out)):gb305≠gb323))
           have n12_:=As0.mk ((by rw [hg];exact Nat.ne_of_gt (blk_lt (g:=gb305) (o:=.cells #[.slice none 0 0] 90 (0,0)) (by (with_reducible repeat (first|refine bkN ?_ _|refine bkD ?_|refine bkA ?_ _));exact BK305.out)):gb323≠gb305))
           have n13_:=As0.mk ((by rw [hg];exact Nat.ne_of_lt (blk_lt (g:=gb306) (o:=.cells #[.slice Ao36 x307000_2.length co36] 90 (0,0)) (by (with_reducible repeat (first|refine bkN ?_ _|refine bkD ?_|refine bkA ?_ _));exact BK306.out)):gb306≠gb323))
           have n14_:=As0.mk ((by rw [hg];exact Nat.ne_of_gt (blk_lt (g:=gb306) (o:=.cells #[.slice Ao36 x307000_2.length co36] 90 (0,0)) (by (with_reducible repeat (first|refine bkN ?_ _|refine bkD ?_|refine bkA ?_ _));exact BK306.out)):gb323≠gb306))
           clear HO_5 HO_307000 BK304 BK305 BK306 HB
           have HO_5:=n0_
           have HO_307000:=n1_
           have BK304:=n2_
           have BK305:=n3_
           have BK306:=n4_
           have HB:=n5_
           have BK323:=n6_
           have GW323:=n7_
           have GE323:=n8_
           have NB304_323:=n9_
           have NB323_304:=n10_
           have NB305_323:=n11_
           have NB323_305:=n12_
           have NB306_323:=n13_
           have NB323_306:=n14_
           clear n0_ n1_ n2_ n3_ n4_ n5_ n6_ n7_ n8_ n9_ n10_ n11_ n12_ n13_ n14_ hb hbox hg
           refine hK.out _ _ ⟨(bkC BK306.out 0).trans rfl,(bkC BK304.out 0).trans rfl,(bkC BK304.out 1).trans rfl,(bkC BK304.out 2).trans rfl,(bkC BK304.out 3).trans rfl,((HB.out.cell (World.block_lt_of_cell? w _ hw317_0)).trans hw317_0),((HB.out.cell (World.block_lt_of_cell? w _ hw317_1)).trans hw317_1),((HB.out.cell (World.block_lt_of_cell? w _ hw317_2)).trans hw317_2),((HB.out.cell (World.block_lt_of_cell? w _ hw317_3)).trans hw317_3),((HB.out.cell (World.block_lt_of_cell? w _ hw317_4)).trans hw317_4)⟩ (fun hHeld=>?_)
           clear hK K
           refine norm_ (a':=?_) ?_ ?_
           rotate_left
           ·show Act.put _ (some 11) _=_
            simp only [Act.put,List.setIfInBounds_toArray,List.set_cons_zero,List.set_cons_succ,i64_w,i32_w]
            rfl
           refine one_ (i:=7) (N:=some 53) #[true,true,true,true,true,true,true,true,false,false,false,false,true,false,false,false] rfl rfl (one_of HT_.out (by kernel_rfl)) (by decide) (fun K hK=>?_)
           refine goes_ Try.func85 (by kernel_rfl) rfl #[.agg #[.slice Ao36 x307000_2.length co36],.string ((rd_T56 l0_2 x10_2).f0)] (by rfl) rfl rfl (by (try simp only [List.map_toArray,List.map_cons,List.map_nil]);first|done|rfl|(simp only [List.length_drop,List.length_take];rfl)) ?_
           with_reducible refine (sr8a.calls k2 (fun k_=>some k_=(.slice Ao36 x307000_2.length co36:Value).ownBlock) (.slice Ao36 x307000_2.length co36) x307000_2 ((rd_T56 l0_2 x10_2).f0) t318 t321 t322 w _ ?side1 ?side2 A31.out).mono ?_
           (case side1=>repeat (first|(with_reducible first|exact HB.out|apply bdA|apply bdN|apply bd1|refine bdS ?_ GE304.out|refine bdS ?_ GE305.out|refine bdS ?_ GE306.out|refine bdS ?_ GE323.out)|exact HB.out))
           (case side2=>exact Kd.R_tight rfl HO_307000.out)
           rintro e w39 ⟨v319,rfl,ho0,hb,hkp⟩
           refine ⟨_,rfl,?_⟩
           have n0_:=As0.mk (Kd.R_mono (ok':=fun k_=>True) (Kd.R_keptB ((Kd.R_apart' HO_5.out (Kd.R_typed HO_307000.out) (by decide))) hkp (fun k_ hk_ hs_=>(hk_.2) hs_)) (fun k_ hk_=>trivial))
           have n1_:=As0.mk (bkK (by (with_reducible repeat (first|refine bkN ?_ _|refine bkD ?_|refine bkA ?_ _));exact BK304.out) hkp (fun hs_=>(fun e_=>(Kd.R_ne HO_307000.out BK304.out (by decide)) e_) hs_))
           have n2_:=As0.mk (bkK (by (with_reducible repeat (first|refine bkN ?_ _|refine bkD ?_|refine bkA ?_ _));exact BK305.out) hkp (fun hs_=>(fun e_=>(Kd.R_ne HO_307000.out BK305.out (by decide)) e_) hs_))
           have n3_:=As0.mk (bkK (by (with_reducible repeat (first|refine bkN ?_ _|refine bkD ?_|refine bkA ?_ _));exact BK306.out) hkp (fun hs_=>(fun e_=>(Kd.R_ne HO_307000.out BK306.out (by decide)) e_) hs_))
           have n4_:=As0.mk (bkK (by (with_reducible repeat (first|refine bkN ?_ _|refine bkD ?_|refine bkA ?_ _));exact BK323.out) hkp (fun hs_=>(fun e_=>(Kd.R_ne HO_307000.out BK323.out (by decide)) e_) hs_))
           have n5_:=As0.mk (Kd.R_mono (ok':=fun k_=>True) ho0 (fun k_ hk_=>trivial))
           have n6_:=As0.mk (hb)
           clear HO_5 BK304 BK305 BK306 BK323 HB HO_307000
           have HO_5:=n0_
           have BK304:=n1_
           have BK305:=n2_
           have BK306:=n3_
           have BK323:=n4_
           have HO320:=n5_
           have HB:=n6_
           clear n0_ n1_ n2_ n3_ n4_ n5_ n6_
           (try clear hb)
           (try clear hkp)
           (try clear ho0)
           refine hK.out _ _ ⟨(bkC BK306.out 0).trans rfl,(bkC BK304.out 0).trans rfl,(bkC BK304.out 1).trans rfl,(bkC BK304.out 2).trans rfl,(bkC BK304.out 3).trans rfl,((HB.out.cell (World.block_lt_of_cell? w _ hw317_0)).trans hw317_0),((HB.out.cell (World.block_lt_of_cell? w _ hw317_1)).trans hw317_1),((HB.out.cell (World.block_lt_of_cell? w _ hw317_2)).trans hw317_2),((HB.out.cell (World.block_lt_of_cell? w _ hw317_3)).trans hw317_3),((HB.out.cell (World.block_lt_of_cell? w _ hw317_4)).trans hw317_4)⟩ (fun hHeld=>?_)
           clear hK K
           refine norm_ (a':=?_) ?_ ?_
           rotate_left
           ·show Act.put _ (some 53) _=_
            simp only [Act.put,List.setIfInBounds_toArray,List.set_cons_zero,List.set_cons_succ,i64_w,i32_w]
            rfl
           refine pure_ (i:=8) (N:=some 45) (v:=?_) (a':=?_) #[true,true,true,true,true,true,true,true,true,false,false,false,true,false,false,false] rfl rfl (any_of HT_.out (by kernel_rfl)) (fun _ _ _ h=>h) (Or.inl ⟨by rfl,?_⟩) ?_ ?_
           rotate_left
           ·intro w'
            go_simp
            with_reducible rfl
           rotate_left
           ·simp only [Act.put,List.setIfInBounds_toArray,List.set_cons_zero,List.set_cons_succ,i64_w,i32_w]
            rfl
           refine pure_ (i:=9) (N:=some 54) (v:=?_) (a':=?_) #[true,true,true,true,true,true,true,true,true,true,false,false,true,false,false,false] rfl rfl (any_of HT_.out (by kernel_rfl)) (fun _ _ _ h=>h) (Or.inl ⟨by rfl,?_⟩) ?_ ?_
           rotate_left
           ·intro w'
            go_simp
            with_reducible rfl
           rotate_left
           ·simp only [Act.put,List.setIfInBounds_toArray,List.set_cons_zero,List.set_cons_succ,i64_w,i32_w]
            rfl
           refine pure_ (i:=10) (N:=some 55) (v:=?_) (a':=?_) #[true,true,true,true,true,true,true,true,true,true,true,false,true,false,false,false] rfl rfl (any_of HT_.out (by kernel_rfl)) (fun _ _ _ h=>h) (Or.inl ⟨by rfl,?_⟩) ?_ ?_
           rotate_left
           ·intro w'
            go_simp
            with_reducible rfl
           rotate_left
           ·simp only [Act.put,List.setIfInBounds_toArray,List.set_cons_zero,List.set_cons_succ,i64_w,i32_w]
            rfl
           refine pure_ (i:=11) (N:=some 56) (v:=?_) (a':=?_) #[true,true,true,true,true,true,true,true,true,true,true,true,true,false,false,false] rfl rfl (any_of HT_.out (by kernel_rfl)) (fun _ _ _ h=>h) (Or.inl ⟨by rfl,?_⟩) ?_ ?_
           rotate_left
           ·intro w'
            go_simp
            with_reducible rfl
           rotate_left
           ·simp only [Act.put,List.setIfInBounds_toArray,List.set_cons_zero,List.set_cons_succ,i64_w,i32_w]
            rfl
           exact norm_ (by simp only [putAll,Act.put,List.setIfInBounds_toArray,List.set_cons_zero,List.set_cons_succ]) (hCont (v319,gb323) _ ⟨hHeld,(by (with_reducible repeat (first|apply Kd.R_alloc|apply Kd.RdN|apply Kd.RdW));exact HO320.out),(by (with_reducible repeat (first|apply Kd.R_alloc|apply Kd.RdN|apply Kd.RdW));exact HO_5.out),(by (with_reducible repeat (first|refine bkN ?_ _|refine bkD ?_|refine bkA ?_ _));exact BK304.out),(by (with_reducible repeat (first|refine bkN ?_ _|refine bkD ?_|refine bkA ?_ _));exact BK305.out),(by (with_reducible repeat (first|refine bkN ?_ _|refine bkD ?_|refine bkA ?_ _));exact BK306.out),(by (with_reducible repeat (first|refine bkN ?_ _|refine bkD ?_|refine bkA ?_ _));exact BK323.out),GW323.out,GE323.out,NB304_323.out,NB323_304.out,NB305_323.out,NB323_305.out,NB306_323.out,NB323_306.out,(by repeat (first|(with_reducible first|exact HB.out|apply bdA|apply bdN|apply bd1|refine bdS ?_ GE304.out|refine bdS ?_ GE305.out|refine bdS ?_ GE306.out|refine bdS ?_ GE323.out)|exact HB.out))⟩)
         rintro ⟨v319,gb323⟩ w40 ⟨hS_,h0_,h1_,h2_,h3_,h4_,h5_,h6_,h7_,h8_,h9_,h10_,h11_,h12_,h13_,h14_⟩
         have n0_:As0 (Kd.R Kd.string 9 w40 w.heap.size (fun _=>True) v319 t318):=⟨h0_⟩
         have n1_:As0 (Kd.R (Kd.int .i64) 3 w40 w.heap.size (fun _=>True) u5 x5_2):=⟨h1_⟩
         have n2_:As0 (w40.heap[gb304]?=some (.cells #[.slice A0_0 l0_0.length c0_0,.slice A0_1 l0_1.length c0_1,.slice (some ad317) l0_2.length c0_2,.int .i64 a0_3] 26 (0,0))):=⟨h2_⟩
         have n3_:As0 (w40.heap[gb305]?=some (.cells #[.slice none 0 0] 90 (0,0))):=⟨h3_⟩
         have n4_:As0 (w40.heap[gb306]?=some (.cells #[.slice Ao36 x307000_2.length co36] 90 (0,0))):=⟨h4_⟩
         have n5_:As0 (w40.heap[gb323]?=some (.cells #[.slice none 0 0] 90 (0,0))):=⟨h5_⟩
         have n6_:As0 (w.heap.size≤gb323):=⟨h6_⟩
         have n7_:As0 (w.heap.size≤gb323):=⟨h7_⟩
         have n8_:As0 (gb304≠gb323):=⟨h8_⟩
         have n9_:As0 (gb323≠gb304):=⟨h9_⟩
         have n10_:As0 (gb305≠gb323):=⟨h10_⟩
         have n11_:As0 (gb323≠gb305):=⟨h11_⟩
         have n12_:As0 (gb306≠gb323):=⟨h12_⟩
         have n13_:As0 (gb323≠gb306):=⟨h13_⟩
         have n14_:As0 (Below w.heap.size w w40):=⟨h14_⟩
         clear HO_5 HO_307000 BK304 BK305 BK306 HB h0_ h1_ h2_ h3_ h4_ h5_ h6_ h7_ h8_ h9_ h10_ h11_ h12_ h13_ h14_
         have HO320:=n0_
         have HO_5:=n1_
         have BK304:=n2_
         have BK305:=n3_
         have BK306:=n4_
         have BK323:=n5_
         have GW323:=n6_
         have GE323:=n7_
         have NB304_323:=n8_
         have NB323_304:=n9_
         have NB305_323:=n10_
         have NB323_305:=n11_
         have NB306_323:=n12_
         have NB323_306:=n13_
         have HB:=n14_
         clear n0_ n1_ n2_ n3_ n4_ n5_ n6_ n7_ n8_ n9_ n10_ n11_ n12_ n13_ n14_
         have hHeld:w40.cell? ⟨gb306,0,none⟩=some (.slice Ao36 x307000_2.length co36)∧w40.cell? ⟨gb304,0,none⟩=some (.slice A0_0 l0_0.length c0_0)∧w40.cell? ⟨gb304,1,none⟩=some (.slice A0_1 l0_1.length c0_1)∧w40.cell? ⟨gb304,2,none⟩=some (.slice (some ad317) l0_2.length c0_2)∧w40.cell? ⟨gb304,3,none⟩=some (.int .i64 a0_3)∧w40.cell? (ad317.add ((x10_2).toNat*5))=some (.string ((rd_T56 l0_2 x10_2).f0))∧w40.cell? ⟨(ad317.add ((x10_2).toNat*5)).block,(ad317.add ((x10_2).toNat*5)).off+1,none⟩=some (.int .i64 ((rd_T56 l0_2 x10_2).f1))∧w40.cell? ⟨(ad317.add ((x10_2).toNat*5)).block,(ad317.add ((x10_2).toNat*5)).off+2,none⟩=some (.int .i64 ((rd_T56 l0_2 x10_2).f2))∧w40.cell? ⟨(ad317.add ((x10_2).toNat*5)).block,(ad317.add ((x10_2).toNat*5)).off+3,none⟩=some (.int .i64 ((rd_T56 l0_2 x10_2).f3))∧w40.cell? ⟨(ad317.add ((x10_2).toNat*5)).block,(ad317.add ((x10_2).toNat*5)).off+4,none⟩=some (.int .i64 ((rd_T56 l0_2 x10_2).f4)):=hS_
         obtain ⟨Ao41,co41,eo41⟩:=Kd.R_slice HO320.out
         (first|subst eo41|(injection eo41 with f1_ f2_ f3_;have f4_:=f1_.symm;have f5_:=f3_.symm;clear f1_ f2_ f3_;subst f4_;subst f5_))
         refine norm_ (a':=?_) ?_ ?_
         rotate_left
         ·simp only [putAll,Act.put,List.setIfInBounds_toArray,List.set_cons_zero,List.set_cons_succ]
          rfl
         refine one_ (i:=13) (N:=none) #[true,true,true,true,true,true,true,true,true,true,true,true,true,true,false,false] rfl rfl (one_of HT_.out (by kernel_rfl)) (by decide) (fun K hK=>?_)
         have hs42:w40.cell? ⟨gb323,0,none⟩=some (.slice none 0 0):=(bkC BK323.out 0).trans rfl
         have hfs42:=bkF BK323.out 0
         have hns42_0:=NB304_323.out
         have hns42_1:=NB305_323.out
         have hns42_2:=NB306_323.out
         have hms42_0:=NB323_304.out
         have hms42_1:=NB323_305.out
         have hms42_2:=NB323_306.out
         refine skip_ (w1:=?_) (by rfl) rfl ?_ ?_
         rotate_left
         ·go_simp
          rfl
         refine hK.out _ _ ⟨((cell_far (p:=⟨gb323,_,none⟩) NB306_323.out _).trans (hHeld.1)),((cell_far (p:=⟨gb323,_,none⟩) NB304_323.out _).trans (hHeld.2.1)),((cell_far (p:=⟨gb323,_,none⟩) NB304_323.out _).trans (hHeld.2.2.1)),((cell_far (p:=⟨gb323,_,none⟩) NB304_323.out _).trans (hHeld.2.2.2.1)),((cell_far (p:=⟨gb323,_,none⟩) NB304_323.out _).trans (hHeld.2.2.2.2.1)),((cell_far (p:=⟨gb323,_,none⟩) (by first|exact Nat.ne_of_lt (Nat.lt_of_lt_of_le (by have:=World.block_lt_of_cell? _ _ hw317_0;first|rwa [add_block] at this|exact this) GW323.out)|(rw [add_block];exact Nat.ne_of_lt (Nat.lt_of_lt_of_le (by have:=World.block_lt_of_cell? _ _ hw317_0;first|rwa [add_block] at this|exact this) GW323.out))|(show (Addr.add _ _).block≠_;rw [add_block];exact Nat.ne_of_lt (Nat.lt_of_lt_of_le (by have:=World.block_lt_of_cell? _ _ hw317_0;first|rwa [add_block] at this|exact this) GW323.out))|(dsimp only;exact Nat.ne_of_lt (Nat.lt_of_lt_of_le (by have:=World.block_lt_of_cell? _ _ hw317_0;first|rwa [add_block] at this|exact this) GW323.out))) _).trans (hHeld.2.2.2.2.2.1)),((cell_far (p:=⟨gb323,_,none⟩) (by first|exact Nat.ne_of_lt (Nat.lt_of_lt_of_le (by have:=World.block_lt_of_cell? _ _ hw317_1;first|rwa [add_block] at this|exact this) GW323.out)|(rw [add_block];exact Nat.ne_of_lt (Nat.lt_of_lt_of_le (by have:=World.block_lt_of_cell? _ _ hw317_1;first|rwa [add_block] at this|exact this) GW323.out))|(show (Addr.add _ _).block≠_;rw [add_block];exact Nat.ne_of_lt (Nat.lt_of_lt_of_le (by have:=World.block_lt_of_cell? _ _ hw317_1;first|rwa [add_block] at this|exact this) GW323.out))|(dsimp only;exact Nat.ne_of_lt (Nat.lt_of_lt_of_le (by have:=World.block_lt_of_cell? _ _ hw317_1;first|rwa [add_block] at this|exact this) GW323.out))) _).trans (hHeld.2.2.2.2.2.2.1)),((cell_far (p:=⟨gb323,_,none⟩) (by first|exact Nat.ne_of_lt (Nat.lt_of_lt_of_le (by have:=World.block_lt_of_cell? _ _ hw317_2;first|rwa [add_block] at this|exact this) GW323.out)|(rw [add_block];exact Nat.ne_of_lt (Nat.lt_of_lt_of_le (by have:=World.block_lt_of_cell? _ _ hw317_2;first|rwa [add_block] at this|exact this) GW323.out))|(show (Addr.add _ _).block≠_;rw [add_block];exact Nat.ne_of_lt (Nat.lt_of_lt_of_le (by have:=World.block_lt_of_cell? _ _ hw317_2;first|rwa [add_block] at this|exact this) GW323.out))|(dsimp only;exact Nat.ne_of_lt (Nat.lt_of_lt_of_le (by have:=World.block_lt_of_cell? _ _ hw317_2;first|rwa [add_block] at this|exact this) GW323.out))) _).trans (hHeld.2.2.2.2.2.2.2.1)),((cell_far (p:=⟨gb323,_,none⟩) (by first|exact Nat.ne_of_lt (Nat.lt_of_lt_of_le (by have:=World.block_lt_of_cell? _ _ hw317_3;first|rwa [add_block] at this|exact this) GW323.out)|(rw [add_block];exact Nat.ne_of_lt (Nat.lt_of_lt_of_le (by have:=World.block_lt_of_cell? _ _ hw317_3;first|rwa [add_block] at this|exact this) GW323.out))|(show (Addr.add _ _).block≠_;rw [add_block];exact Nat.ne_of_lt (Nat.lt_of_lt_of_le (by have:=World.block_lt_of_cell? _ _ hw317_3;first|rwa [add_block] at this|exact this) GW323.out))|(dsimp only;exact Nat.ne_of_lt (Nat.lt_of_lt_of_le (by have:=World.block_lt_of_cell? _ _ hw317_3;first|rwa [add_block] at this|exact this) GW323.out))) _).trans (hHeld.2.2.2.2.2.2.2.2.1)),((cell_far (p:=⟨gb323,_,none⟩) (by first|exact Nat.ne_of_lt (Nat.lt_of_lt_of_le (by have:=World.block_lt_of_cell? _ _ hw317_4;first|rwa [add_block] at this|exact this) GW323.out)|(rw [add_block];exact Nat.ne_of_lt (Nat.lt_of_lt_of_le (by have:=World.block_lt_of_cell? _ _ hw317_4;first|rwa [add_block] at this|exact this) GW323.out))|(show (Addr.add _ _).block≠_;rw [add_block];exact Nat.ne_of_lt (Nat.lt_of_lt_of_le (by have:=World.block_lt_of_cell? _ _ hw317_4;first|rwa [add_block] at this|exact this) GW323.out))|(dsimp only;exact Nat.ne_of_lt (Nat.lt_of_lt_of_le (by have:=World.block_lt_of_cell? _ _ hw317_4;first|rwa [add_block] at this|exact this) GW323.out))) _).trans (hHeld.2.2.2.2.2.2.2.2.2))⟩ (fun hHeld=>?_)
         clear hK K
         refine pure_ (i:=14) (N:=some 12) (v:=?_) (a':=?_) #[true,true,true,true,true,true,true,true,true,true,true,true,true,true,true,false] rfl rfl (any_of HT_.out (by kernel_rfl)) (fun _ _ _ h=>h) (Or.inl ⟨by rfl,?_⟩) ?_ ?_
         rotate_left
         ·intro w'
          go_simp
          with_reducible rfl
         rotate_left
         ·simp only [Act.put,List.setIfInBounds_toArray,List.set_cons_zero,List.set_cons_succ,i64_w,i32_w]
          rfl
         refine pure_ (i:=15) (N:=some 13) (v:=?_) (a':=?_) #[true,true,true,true,true,true,true,true,true,true,true,true,true,true,true,true] rfl rfl (any_of HT_.out (by kernel_rfl)) (fun _ _ _ h=>h) (Or.inl ⟨by rfl,?_⟩) ?_ ?_
         rotate_left
         ·intro w'
          go_simp
          with_reducible rfl
         rotate_left
         ·simp only [Act.put,List.setIfInBounds_toArray,List.set_cons_zero,List.set_cons_succ,i64_w,i32_w]
          rfl
         refine done_ (done_of HT_.out (by kernel_rfl)) ?_
         have hnb43:=NB323_304.out
         have hnc43:=NB304_323.out
         have hnb44:=NB323_305.out
         have hnc44:=NB305_323.out
         have hnb45:=NB323_306.out
         have hnc45:=NB306_323.out
         have hcz46_0:w40.cell? ⟨gb323,0,none⟩=some (.slice none 0 0):=(bkC BK323.out 0).trans rfl
         have hfz46_0:=bkF BK323.out 0
         have hnb47:=NB306_305.out
         have hnc47:=NB305_306.out
         have hcz48_0:w40.cell? ⟨gb306,0,none⟩=some (.slice Ao36 x307000_2.length co36):=(bkC BK306.out 0).trans rfl
         have hfz48_0:=bkF BK306.out 0
         try go_wp2_with (first|((with_reducible refine gate_builtin (b:=.append) (xs:=#[.tmp 58,.tmp 60]) rfl ?_);at_builtin;refine Kd.R_append (Kd.int .i64) (w0:=w) w.heap.size rfl (.tmp 58) (.tmp 60) 77 3 (.int .i64 0) 8 rfl Try.underlying77 info3 rfl (by decide) (by omega) u5 x5_2 t321 [.int .i64 t321] (fun _=>True) (fun _=>False) rfl (by first|(go_simp;done)|(go_simp;rfl)) ?aP (fun _ hk=>hk.elim) ?aF ?aO ?aB ?aS ?aL ?_;(case aP=>exact rfl);(case aB=>exact (by repeat (first|(with_reducible first|exact HB.out|apply bdA|apply bdN|apply bd1|refine bdS ?_ GE304.out|refine bdS ?_ GE305.out|refine bdS ?_ GE306.out|refine bdS ?_ GE323.out)|exact HB.out)));(case aF=>exact (fun _ _=>trivial));(case aO=>exact (by (with_reducible repeat (first|apply Kd.R_alloc|apply Kd.RdN|apply Kd.RdW));exact Kd.R_mono (Kd.R_far (p:=⟨gb306,0,none⟩) (Kd.R_far (p:=⟨gb323,0,none⟩) (Kd.R_types (Kd.R_types HO_5.out BK323.out (by decide)) BK306.out (by decide)) (fun _ hk=>hk.1.2) (.slice Ao41 t318.length co41)) (fun _ hk=>hk.2) (.slice Ao41 t318.length co41)) (fun _ hk=>trivial)));(case aS=>exact (bdZ (by repeat (first|(with_reducible first|exact HB.out|apply bdA|apply bdN|apply bd1|refine bdS ?_ GE304.out|refine bdS ?_ GE305.out|refine bdS ?_ GE306.out|refine bdS ?_ GE323.out)|exact HB.out))));(case aL=>have:=LMc32.out;omega);intro v325 w49 ho hb hg hat;rw [← Ny324.out] at ho;have n0_:=As0.mk (blk_grown (g:=gb304) (o:=.cells #[.slice A0_0 l0_0.length c0_0,.slice A0_1 l0_1.length c0_1,.slice (some ad317) l0_2.length c0_2,.int .i64 a0_3] 26 (0,0)) (by (with_reducible repeat (first|refine bkN ?_ _|refine bkD ?_|refine bkA ?_ _));refine bkR ?_ NB304_306.out _;(with_reducible repeat (first|refine bkN ?_ _|refine bkD ?_|refine bkA ?_ _));refine bkR ?_ NB304_323.out _;(with_reducible repeat (first|refine bkN ?_ _|refine bkD ?_|refine bkA ?_ _));exact BK304.out) hg (Kd.R_ne HO_5.out BK304.out (by decide)));have n1_:=As0.mk (blk_grown (g:=gb305) (o:=.cells #[.slice none 0 0] 90 (0,0)) (by (with_reducible repeat (first|refine bkN ?_ _|refine bkD ?_|refine bkA ?_ _));refine bkR ?_ NB305_306.out _;(with_reducible repeat (first|refine bkN ?_ _|refine bkD ?_|refine bkA ?_ _));refine bkR ?_ NB305_323.out _;(with_reducible repeat (first|refine bkN ?_ _|refine bkD ?_|refine bkA ?_ _));exact BK305.out) hg (Kd.R_ne HO_5.out BK305.out (by decide)));have n2_:=As0.mk (blk_grown (g:=gb306) (o:=.cells #[.slice Ao41 t318.length co41] 90 (0,0)) (by (with_reducible repeat (first|refine bkN ?_ _|refine bkD ?_|refine bkA ?_ _));refine bkP (cs:=#[.slice Ao36 x307000_2.length co36]) ?_ 0 _ rfl;(with_reducible repeat (first|refine bkN ?_ _|refine bkD ?_|refine bkA ?_ _));refine bkR ?_ NB306_323.out _;(with_reducible repeat (first|refine bkN ?_ _|refine bkD ?_|refine bkA ?_ _));exact BK306.out) hg (Kd.R_ne HO_5.out BK306.out (by decide)));have n3_:=As0.mk (Kd.R_over' (by (with_reducible repeat (first|apply Kd.R_alloc|apply Kd.RdN|apply Kd.RdW));exact (Kd.R_mono (Kd.R_mono (Kd.R_far (p:=⟨gb306,0,none⟩) (Kd.R_far (p:=⟨gb323,0,none⟩) (Kd.R_types (Kd.R_types HO320.out BK323.out (by decide)) BK306.out (by decide)) (fun _ hk=>hk.1.2) (.slice Ao41 t318.length co41)) (fun _ hk=>hk.2) (.slice Ao41 t318.length co41)) (fun _ h_=>h_.1)) (fun _ h_=>h_.1))) (Kd.R_typed (by (with_reducible repeat (first|apply Kd.R_alloc|apply Kd.RdN|apply Kd.RdW));exact (Kd.R_mono (Kd.R_mono (Kd.R_far (p:=⟨gb306,0,none⟩) (Kd.R_far (p:=⟨gb323,0,none⟩) (Kd.R_types (Kd.R_types HO_5.out BK323.out (by decide)) BK306.out (by decide)) (fun _ hk=>hk.1.2) (.slice Ao41 t318.length co41)) (fun _ hk=>hk.2) (.slice Ao41 t318.length co41)) (fun _ h_=>h_.1)) (fun _ h_=>h_.1)))) (by decide) hg);have n4_:=As0.mk (blk_grown (g:=gb323) (o:=.cells #[.slice Ao41 t318.length co41] 90 (0,0)) (by (with_reducible repeat (first|refine bkN ?_ _|refine bkD ?_|refine bkA ?_ _));refine bkR ?_ NB323_306.out _;(with_reducible repeat (first|refine bkN ?_ _|refine bkD ?_|refine bkA ?_ _));refine bkP (cs:=#[.slice none 0 0]) ?_ 0 _ rfl;(with_reducible repeat (first|refine bkN ?_ _|refine bkD ?_|refine bkA ?_ _));exact BK323.out) hg (Kd.R_ne HO_5.out BK323.out (by decide)));have n5_:=As0.mk (hb);have n6_:=As0.mk (ho);clear BK304;clear BK305;clear BK306;clear HO320;clear BK323;clear HB;clear HO_5;have BK304:=n0_;have BK305:=n1_;have BK306:=n2_;have HO320:=n3_;have BK323:=n4_;have HB:=n5_;have HO326:=n6_;clear n0_ n1_ n2_ n3_ n4_ n5_ n6_;clear ho hb hg hat))
         go_roundg k2
         case measure=>have:=HK1.out;have:=HK2.out;omega
         case rel=>exact ⟨(y324),(wrap64 (x10_2+1)),(t318),(.slice Ao41 t318.length co41),(by first|rfl|(simp;done)|(simp [*];done)),H',⟨by have:=HK1.out;have:=HK2.out;omega⟩,⟨by (with_reducible repeat (first|apply Kd.R_alloc|apply Kd.RdN|apply Kd.RdW));exact HO326.out⟩,⟨by (with_reducible repeat (first|apply Kd.R_alloc|apply Kd.RdN|apply Kd.RdW));exact HO320.out⟩,⟨by (with_reducible repeat (first|refine bkN ?_ _|refine bkD ?_|refine bkA ?_ _));exact BK304.out⟩,⟨by (with_reducible repeat (first|refine bkN ?_ _|refine bkD ?_|refine bkA ?_ _));exact BK305.out⟩,⟨by (with_reducible repeat (first|refine bkN ?_ _|refine bkD ?_|refine bkA ?_ _));exact BK306.out⟩,⟨by repeat (first|(with_reducible first|exact HB.out|apply bdA|apply bdN|apply bd1|refine bdS ?_ GE304.out|refine bdS ?_ GE305.out|refine bdS ?_ GE306.out|refine bdS ?_ GE323.out)|exact HB.out)⟩⟩
        ·rw [if_neg c32] at H
         exact absurd H (by simp)
       ·rw [if_neg c30] at H
        exact absurd H (by simp)
      ·rw [if_neg c29] at H
       have c29b0:decide (x10_2<(l0_2.length:Int))=false:=decide_eq_false c29
       clear c29
       simp only [Option.some.injEq,Prod.mk.injEq] at H
       obtain ⟨rfl,rfl⟩:=H
       have hnb50:=NB304_305.out
       have hnc50:=NB305_304.out
       have hnb51:=NB304_306.out
       have hnc51:=NB306_304.out
       have hcz52_0:wr.cell? ⟨gb304,0,none⟩=some (.slice A0_0 l0_0.length c0_0):=(bkC BK304.out 0).trans rfl
       have hcz52_1:wr.cell? ⟨gb304,1,none⟩=some (.slice A0_1 l0_1.length c0_1):=(bkC BK304.out 1).trans rfl
       have hcz52_2:wr.cell? ⟨gb304,2,none⟩=some (.slice A0_2 l0_2.length c0_2):=(bkC BK304.out 2).trans rfl
       have hcz52_3:wr.cell? ⟨gb304,3,none⟩=some (.int .i64 a0_3):=(bkC BK304.out 3).trans rfl
       have hfz52_0:=bkF BK304.out 0
       have hfz52_1:=bkF BK304.out 1
       have hfz52_2:=bkF BK304.out 2
       have hfz52_3:=bkF BK304.out 3
       have hnb53:=NB306_305.out
       have hnc53:=NB305_306.out
       have hcz54_0:wr.cell? ⟨gb306,0,none⟩=some (u307000):=(bkC BK306.out 0).trans rfl
       have hfz54_0:=bkF BK306.out 0
       obtain ⟨Ao55,co55,eo55⟩:=Kd.R_slice HO_307000.out
       subst eo55
       have hcz56_0:wr.cell? ⟨gb305,0,none⟩=some (.slice none 0 0):=(bkC BK305.out 0).trans rfl
       have hfz56_0:=bkF BK305.out 0
       go_wp2
       refine bodyPost_ret (results_ct rfl _ _ gb305 90 #[.slice Ao55 x307000_2.length co55] (0,0) _ rfl (by (with_reducible repeat (first|refine bkN ?_ _|refine bkD ?_|refine bkA ?_ _));refine bkP (cs:=#[.slice none 0 0]) ?_ 0 _ rfl;(with_reducible repeat (first|refine bkN ?_ _|refine bkD ?_|refine bkA ?_ _));exact BK305.out) Try.underlying90 rfl (by kernel_rfl)) rfl ?_
       exact ⟨_,_,by first|rfl|(simp [errW_none,errW_some] <;> rfl)|(simp [*,errW_none,errW_some] <;> rfl),by (with_reducible repeat (first|apply Kd.R_alloc|apply Kd.RdN|apply Kd.RdW));exact Kd.R_mono (Kd.R_far (p:=⟨gb305,0,none⟩) (Kd.R_types HO_307000.out BK305.out (by decide)) (fun _ hk=>hk.2) (.slice Ao55 x307000_2.length co55)) (fun _ hk=>trivial),by (with_reducible repeat (first|apply Kd.R_alloc|apply Kd.RdN|apply Kd.RdW));exact Kd.R_mono (Kd.R_far (p:=⟨gb305,0,none⟩) (Kd.R_types HO_5.out BK305.out (by decide)) (fun _ hk=>hk.2) (.slice Ao55 x307000_2.length co55)) (fun _ hk=>trivial),by repeat (first|(with_reducible first|exact HB.out|apply bdA|apply bdN|apply bd1|refine bdS ?_ GE304.out|refine bdS ?_ GE305.out|refine bdS ?_ GE306.out)|exact HB.out)⟩
end Go.Proofs.Ytbeikcckcjadbaa.PI
end
