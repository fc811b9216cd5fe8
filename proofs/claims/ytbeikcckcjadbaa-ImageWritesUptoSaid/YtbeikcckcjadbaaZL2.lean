/- Parts of the proof, laid together by a program of this session (pack.py): PIx5, Lq, PIx6, PIx7. Of the kit's print what the claim does not use is left out. -/
import Derived.Test.YtbeikcckcjadbaaZL1
set_option linter.unusedVariables false
set_option linter.unusedSimpArgs false
set_option maxRecDepth 100000
set_option maxHeartbeats 16000000
section
namespace Go.Proofs.Ytbeikcckcjadbaa.PI
open Go.RowKit Go.Proofs.YtbeikcckcjadbaaW.PrintWords Go.Proofs.YtbeikcckcjadbaaW.PrintLast Go.Proofs.YtbeikcckcjadbaaW.PrintMore
attribute [local go_sem] isSome_setCell max2_int min2_int max_two min_two max_three min_three max_four min_four
def image_held.f (a0_0:Int) (a0_1:Int) (a0_2:Int) (a0_3:Int) (a0_4:Int):Option (Bool):=if a0_0=24 then (if a0_0≥0 then (if a0_0≤255 then (if a0_1≥0 then (if a0_1≤15 then (if a0_2≥0 then (if a0_2≤15 then (if a0_3≥(-32768) then (some (decide (a0_3<32768))) else (some false)) else (some false)) else (some false)) else (some false)) else (some false)) else (some false)) else (some false)) else (if a0_4≥(-2147483648) then (if a0_4<2147483648 then (if a0_0≥0 then (if a0_0≤255 then (if a0_1≥0 then (if a0_1≤15 then (if a0_2≥0 then (if a0_2≤15 then (if a0_3≥(-32768) then (some (decide (a0_3<32768))) else (some false)) else (some false)) else (some false)) else (some false)) else (some false)) else (some false)) else (some false)) else (some false)) else (some false))
theorem image_held.calls (a0_0:Int) (a0_1:Int) (a0_2:Int) (a0_3:Int) (a0_4:Int) (r:Bool) (w:World) (h:image_held.f a0_0 a0_1 a0_2 a0_3 a0_4=some r) :
  Calls Try.prog 72 #[.agg #[.int .i64 a0_0,.int .i64 a0_1,.int .i64 a0_2,.int .i64 a0_3,.int .i64 a0_4]] w fun e w'=>e=.returned (.bool r)∧Below w.heap.size w w':=by
 have HH:=As0.mk h
 clear h
 go_enter Try.func72,Try.ntmps72
 refine wp_seq_k (fun K hK=>?_)
 have HK:=As0.mk hK
 clear hK
 go_wp2
 refine HK.out _ _ ?_
 clear HK
 have HB:=As0.mk (bdA (Below.refl w.heap.size w) (.cells #[.int .i64 a0_0,.int .i64 a0_1,.int .i64 a0_2,.int .i64 a0_3,.int .i64 a0_4] 54))
 have BK:=As0.mk (show (w.alloc (.cells #[.int .i64 a0_0,.int .i64 a0_1,.int .i64 a0_2,.int .i64 a0_3,.int .i64 a0_4] 54)).heap[w.heap.size]?=some (.cells #[.int .i64 a0_0,.int .i64 a0_1,.int .i64 a0_2,.int .i64 a0_3,.int .i64 a0_4] 54 (0,0)) from heap_alloc_new w _)
 generalize w.alloc (.cells #[.int .i64 a0_0,.int .i64 a0_1,.int .i64 a0_2,.int .i64 a0_3,.int .i64 a0_4] 54)=w1 at HB BK ⊢
 have z0:=(bkC BK.out 0).trans rfl
 have z1:=(bkC BK.out 1).trans rfl
 have z2:=(bkC BK.out 2).trans rfl
 have z3:=(bkC BK.out 3).trans rfl
 have z4:=(bkC BK.out 4).trans rfl
 simp only [List.getElem?_toArray,List.getElem?_cons_zero,List.getElem?_cons_succ] at z0 z1 z2 z3 z4
 refine wp_seq_k (fun K hK=>?_)
 have HK:=As0.mk hK
 clear hK
 go_wp2
 all_goals (refine HK.out _ _ ?_;clear HK;go_wp2)
 all_goals
  go_ret
  refine ⟨?_,HB.out⟩
  have h:=HH.out
  unfold image_held.f at h
  clear HH HB BK z0 z1 z2 z3 z4
  repeat' split at h
  all_goals first|(simp_all;done)|(simp_all;omega)|(exfalso;simp_all;omega)
def imbI.l0:Nat→List (S54)→Int→Int→Option (Int × Bool)
 | 0,_,_,_=>none
 | k+1,x7,x8,x9=>if x9<x8 then (if 0≤x9 then (if x9<(x7.length:Int) then ((image_held.f ((rd_T54 x7 x9).f0) ((rd_T54 x7 x9).f1) ((rd_T54 x7 x9).f2) ((rd_T54 x7 x9).f3) ((rd_T54 x7 x9).f4)).bind fun t126=>(if t126=true then (imbI.l0 k x7 x8 (wrap64 (x9+1))) else (some (x9,true)))) else (none)) else (none)) else (some (0,false))
def imbI.f (k:Nat) (l0_0:List (S54)) (l0_1:List (S68)) (l0_2:List (S56)) (a0_3:Int):Option (Int × Bool):=imbI.l0 k l0_0 (l0_0.length:Int) 0
theorem imbI.calls (k:Nat) (A0_0:Option Addr) (c0_0:Nat) (l0_0:List (S54)) (A0_1:Option Addr) (c0_1:Nat) (l0_1:List (S68)) (A0_2:Option Addr) (c0_2:Nat) (l0_2:List (S56)) (a0_3:Int) (r1:Int) (r2:Bool) (w:World) (hr0_0:Kd.C k54 w A0_0 l0_0.length l0_0) (hc0_0:l0_0.length≤c0_0) (hr0_1:Kd.C k68 w A0_1 l0_1.length l0_1) (hc0_1:l0_1.length≤c0_1) (hr0_2:Kd.C k56 w A0_2 l0_2.length l0_2) (hc0_2:l0_2.length≤c0_2) (h:imbI.f k l0_0 l0_1 l0_2 a0_3=some (r1,r2)) :
  Calls Try.prog 34 #[.agg #[.slice A0_0 l0_0.length c0_0,.slice A0_1 l0_1.length c0_1,.slice A0_2 l0_2.length c0_2,.int .i64 a0_3]] w fun e w'=>e=.returned (.tuple #[.int .i64 r1,.bool r2])∧Below w.heap.size w w':=by
 have hu26:=Try.underlying26
 have hu54:=Try.underlying54
 have HR0_0:=As0.mk hr0_0
 have HC0_0:=As0.mk hc0_0
 clear hr0_0 hc0_0
 have HR0_1:=As0.mk hr0_1
 have HC0_1:=As0.mk hc0_1
 clear hr0_1 hc0_1
 have HR0_2:=As0.mk hr0_2
 have HC0_2:=As0.mk hc0_2
 clear hr0_2 hc0_2
 have HB:=As0.mk (Below.refl w.heap.size w)
 have H:(imbI.l0 k l0_0 (l0_0.length:Int) 0)=some (r1,r2):=h
 clear h
 have H':=As0.mk H
 clear H
 go_enter Try.func34,Try.ntmps34
 go_wp2_with (first|((with_reducible refine gtD (N:=1) rfl ?_);refine bxE ?hg (N:=1) ?hd (cs:=#[.slice A0_0 l0_0.length c0_0,.slice A0_1 l0_1.length c0_1,.slice A0_2 l0_2.length c0_2,.int .i64 a0_3]) (t:=26) ?hr ?_;(case hd=>rfl);(case hg=>rfl);(case hr=>first|(go_simp;done)|(go_simp;rfl));intro gb123 hg w2 hbox hb;have n0_:=As0.mk (bdT (by repeat (first|(with_reducible first|exact HB.out|apply bdA|apply bdN|apply bd1)|exact HB.out)) hb);have n1_:=As0.mk (hbox);have n2_:=As0.mk ((by rw [hg];exact (bdZ (by repeat (first|(with_reducible first|exact HB.out|apply bdA|apply bdN|apply bd1)|exact HB.out))):w.heap.size≤gb123));have n3_:=As0.mk ((by rw [hg];exact (bdZ (by repeat (first|(with_reducible first|exact HB.out|apply bdA|apply bdN|apply bd1)|exact HB.out))):w.heap.size≤gb123));clear HB;have HB:=n0_;have BK123:=n1_;have GW123:=n2_;have GE123:=n3_;clear n0_ n1_ n2_ n3_;clear hb hbox hg;have hcz3_0:w2.cell? ⟨gb123,0,none⟩=some (.slice A0_0 l0_0.length c0_0):=(bkC BK123.out 0).trans rfl;have hcz3_1:w2.cell? ⟨gb123,1,none⟩=some (.slice A0_1 l0_1.length c0_1):=(bkC BK123.out 1).trans rfl;have hcz3_2:w2.cell? ⟨gb123,2,none⟩=some (.slice A0_2 l0_2.length c0_2):=(bkC BK123.out 2).trans rfl;have hcz3_3:w2.cell? ⟨gb123,3,none⟩=some (.int .i64 a0_3):=(bkC BK123.out 3).trans rfl;have hfz3_0:=bkF BK123.out 0;have hfz3_1:=bkF BK123.out 1;have hfz3_2:=bkF BK123.out 2;have hfz3_3:=bkF BK123.out 3))
 go_loopg [9] k (fun kq v9 w'=>∃ (x9_1:Int),v9=.int .i64 x9_1∧As0 (imbI.l0 kq l0_0 (l0_0.length:Int) x9_1=some (r1,r2))∧As0 (kq≤k)∧As0 (w'.heap[gb123]?=some (.cells #[(.slice A0_0 l0_0.length c0_0),(.slice A0_1 l0_1.length c0_1),(.slice A0_2 l0_2.length c0_2),.int .i64 a0_3] 26 (0,0)))∧As0 (Below w.heap.size w w'))
 case atStart=>exact ⟨(0),(by first|rfl|(simp;done)|(simp [*];done)),H',⟨Nat.le_refl _⟩,⟨by (with_reducible repeat (first|refine bkN ?_ _|refine bkD ?_|refine bkA ?_ _));exact BK123.out⟩,⟨by repeat (first|(with_reducible first|exact HB.out|apply bdA|apply bdN|apply bd1|refine bdS ?_ GE123.out)|exact HB.out)⟩⟩
 case round =>
  clear H'
  try clear p2
  try clear c3
  try clear hcz3_0
  try clear hcz3_1
  try clear hcz3_2
  try clear hcz3_3
  try clear hfz3_0
  try clear hfz3_1
  try clear hfz3_2
  try clear hfz3_3
  obtain ⟨x9_1,rfl,HA,HK1,BK123,HB⟩:=hrel
  cases gk with
  | zero=>exact absurd HA.out (by simp [imbI.l0])
  | succ k1 =>
   have H:=HA.out
   clear HA
   simp only [imbI.l0] at H
   by_cases c4:x9_1<(l0_0.length:Int)
   ·rw [if_pos c4] at H
    have c4b0:decide (x9_1<(l0_0.length:Int))=true:=decide_eq_true c4
    clear c4
    by_cases c5:0≤x9_1
    ·rw [if_pos c5] at H
     have c5b0:decide (0≤x9_1)=true:=decide_eq_true c5
     clear c5
     by_cases c6:x9_1<(l0_0.length:Int)
     ·rw [if_pos c6] at H
      have c6b0:decide (x9_1<(l0_0.length:Int))=true:=decide_eq_true c6
      clear c6
      replace H:=Option.bind_eq_some_iff.mp H
      obtain ⟨t126,A70,H⟩:=H
      replace H:(if t126=true then (imbI.l0 k1 l0_0 (l0_0.length:Int) (wrap64 (x9_1+1))) else (some (x9_1,true)))=some (r1,r2):=H
      have A7:=As0.mk A70
      clear A70
      by_cases c8:t126=true
      ·subst c8
       have H1:(imbI.l0 k1 l0_0 (l0_0.length:Int) (wrap64 (x9_1+1)))=some (r1,r2):=by rw [if_pos rfl] at H;exact H
       clear H
       have H:=H1
       clear H1
       have H':=As0.mk H
       clear H
       have p124:0≤(x9_1:Int):=of_decide_eq_true (by first|(with_reducible assumption)|assumption)
       have q124:x9_1<(l0_0.length:Int):=of_decide_eq_true (by first|(with_reducible assumption)|assumption)
       obtain ⟨ad124,e124,hx124_0,hx124_1,hx124_2,hx124_3,hx124_4⟩:=at_T54 HR0_0.out x9_1 p124 q124
       cases e124
       replace hx124_0:=(HB.out.cell (World.block_lt_of_cell? w _ hx124_0)).trans hx124_0
       replace hx124_1:=(HB.out.cell (World.block_lt_of_cell? w _ hx124_1)).trans hx124_1
       replace hx124_2:=(HB.out.cell (World.block_lt_of_cell? w _ hx124_2)).trans hx124_2
       replace hx124_3:=(HB.out.cell (World.block_lt_of_cell? w _ hx124_3)).trans hx124_3
       replace hx124_4:=(HB.out.cell (World.block_lt_of_cell? w _ hx124_4)).trans hx124_4
       replace p124:=eq_true p124
       replace q124:=eq_true q124
       go_wp2_with (first|((with_reducible refine gtD (N:=5) rfl ?_);refine bxE ?hg (N:=5) ?hd (cs:=#[.int .i64 0,.int .i64 0,.int .i64 0,.int .i64 0,.int .i64 0]) (t:=54) ?hr ?_;(case hd=>rfl);(case hg=>rfl);(case hr=>first|(go_simp;done)|(go_simp;rfl));intro gb125 hg w9 hbox hb;have n0_:=As0.mk (bkB (g:=gb123) (o:=.cells #[.slice (some ad124) l0_0.length c0_0,.slice A0_1 l0_1.length c0_1,.slice A0_2 l0_2.length c0_2,.int .i64 a0_3] 26 (0,0)) (by (with_reducible repeat (first|refine bkN ?_ _|refine bkD ?_|refine bkA ?_ _));exact BK123.out) hb);have n1_:=As0.mk (bdT (by repeat (first|(with_reducible first|exact HB.out|apply bdA|apply bdN|apply bd1|refine bdS ?_ GE123.out)|exact HB.out)) hb);have n2_:=As0.mk (hbox);have n3_:=As0.mk ((by rw [hg];exact (bdZ (by repeat (first|(with_reducible first|exact HB.out|apply bdA|apply bdN|apply bd1|refine bdS ?_ GE123.out)|exact HB.out))):w.heap.size≤gb125));have n4_:=As0.mk ((by rw [hg];exact (bdZ (by repeat (first|(with_reducible first|exact HB.out|apply bdA|apply bdN|apply bd1|refine bdS ?_ GE123.out)|exact HB.out))):w.heap.size≤gb125));have n5_:=As0.mk ((by rw [hg];exact Nat.ne_of_lt (blk_lt (g:=gb123) (o:=.cells #[.slice (some ad124) l0_0.length c0_0,.slice A0_1 l0_1.length c0_1,.slice A0_2 l0_2.length c0_2,.int .i64 a0_3] 26 (0,0)) (by (with_reducible repeat (first|refine bkN ?_ _|refine bkD ?_|refine bkA ?_ _));exact BK123.out)):gb123≠gb125));have n6_:=As0.mk ((by rw [hg];exact Nat.ne_of_gt (blk_lt (g:=gb123) (o:=.cells #[.slice (some ad124) l0_0.length c0_0,.slice A0_1 l0_1.length c0_1,.slice A0_2 l0_2.length c0_2,.int .i64 a0_3] 26 (0,0)) (by (with_reducible repeat (first|refine bkN ?_ _|refine bkD ?_|refine bkA ?_ _));exact BK123.out)):gb125≠gb123));clear BK123;clear HB;have BK123:=n0_;have HB:=n1_;have BK125:=n2_;have GW125:=n3_;have GE125:=n4_;have NB123_125:=n5_;have NB125_123:=n6_;clear n0_ n1_ n2_ n3_ n4_ n5_ n6_;clear hb hbox hg;have hnb10:=NB125_123.out;have hnc10:=NB123_125.out;have hcz11_0:w9.cell? ⟨gb125,0,none⟩=some (.int .i64 0):=(bkC BK125.out 0).trans rfl;have hcz11_1:w9.cell? ⟨gb125,1,none⟩=some (.int .i64 0):=(bkC BK125.out 1).trans rfl;have hcz11_2:w9.cell? ⟨gb125,2,none⟩=some (.int .i64 0):=(bkC BK125.out 2).trans rfl;have hcz11_3:w9.cell? ⟨gb125,3,none⟩=some (.int .i64 0):=(bkC BK125.out 3).trans rfl;have hcz11_4:w9.cell? ⟨gb125,4,none⟩=some (.int .i64 0):=(bkC BK125.out 4).trans rfl;have hfz11_0:=bkF BK125.out 0;have hfz11_1:=bkF BK125.out 1;have hfz11_2:=bkF BK125.out 2;have hfz11_3:=bkF BK125.out 3;have hfz11_4:=bkF BK125.out 4)|((with_reducible refine gate_callee (f:=72) rfl ?_);refine goesL_ (some 15) rfl rfl Try.func72 (by kernel_rfl) rfl #[.agg #[.int .i64 ((rd_T54 l0_0 x9_1).f0),.int .i64 ((rd_T54 l0_0 x9_1).f1),.int .i64 ((rd_T54 l0_0 x9_1).f2),.int .i64 ((rd_T54 l0_0 x9_1).f3),.int .i64 ((rd_T54 l0_0 x9_1).f4)]] rfl (by (try simp only [List.map_toArray,List.map_cons,List.map_nil]);first|done|rfl|(simp only [List.length_drop,List.length_take];rfl)) ?_;(with_reducible refine (image_held.calls ((rd_T54 l0_0 x9_1).f0) ((rd_T54 l0_0 x9_1).f1) ((rd_T54 l0_0 x9_1).f2) ((rd_T54 l0_0 x9_1).f3) ((rd_T54 l0_0 x9_1).f4) true _ A7.out).mono ?_);rintro e w12 ⟨rfl,hb⟩;refine ⟨_,rfl,?_⟩;have n0_:=As0.mk (bkB (g:=gb123) (o:=.cells #[.slice (some ad124) l0_0.length c0_0,.slice A0_1 l0_1.length c0_1,.slice A0_2 l0_2.length c0_2,.int .i64 a0_3] 26 (0,0)) (by (with_reducible repeat (first|refine bkN ?_ _|refine bkD ?_|refine bkA ?_ _));refine bkR ?_ NB123_125.out _;(with_reducible repeat (first|refine bkN ?_ _|refine bkD ?_|refine bkA ?_ _));refine bkR ?_ NB123_125.out _;(with_reducible repeat (first|refine bkN ?_ _|refine bkD ?_|refine bkA ?_ _));refine bkR ?_ NB123_125.out _;(with_reducible repeat (first|refine bkN ?_ _|refine bkD ?_|refine bkA ?_ _));refine bkR ?_ NB123_125.out _;(with_reducible repeat (first|refine bkN ?_ _|refine bkD ?_|refine bkA ?_ _));refine bkR ?_ NB123_125.out _;(with_reducible repeat (first|refine bkN ?_ _|refine bkD ?_|refine bkA ?_ _));exact BK123.out) hb);have n1_:=As0.mk (bkB (g:=gb125) (o:=.cells #[.int .i64 ((rd_T54 l0_0 x9_1).f0),.int .i64 ((rd_T54 l0_0 x9_1).f1),.int .i64 ((rd_T54 l0_0 x9_1).f2),.int .i64 ((rd_T54 l0_0 x9_1).f3),.int .i64 ((rd_T54 l0_0 x9_1).f4)] 54 (0,0)) (by (with_reducible repeat (first|refine bkN ?_ _|refine bkD ?_|refine bkA ?_ _));refine bkP (cs:=#[.int .i64 ((rd_T54 l0_0 x9_1).f0),.int .i64 ((rd_T54 l0_0 x9_1).f1),.int .i64 ((rd_T54 l0_0 x9_1).f2),.int .i64 ((rd_T54 l0_0 x9_1).f3),.int .i64 0]) ?_ 4 _ rfl;(with_reducible repeat (first|refine bkN ?_ _|refine bkD ?_|refine bkA ?_ _));refine bkP (cs:=#[.int .i64 ((rd_T54 l0_0 x9_1).f0),.int .i64 ((rd_T54 l0_0 x9_1).f1),.int .i64 ((rd_T54 l0_0 x9_1).f2),.int .i64 0,.int .i64 0]) ?_ 3 _ rfl;(with_reducible repeat (first|refine bkN ?_ _|refine bkD ?_|refine bkA ?_ _));refine bkP (cs:=#[.int .i64 ((rd_T54 l0_0 x9_1).f0),.int .i64 ((rd_T54 l0_0 x9_1).f1),.int .i64 0,.int .i64 0,.int .i64 0]) ?_ 2 _ rfl;(with_reducible repeat (first|refine bkN ?_ _|refine bkD ?_|refine bkA ?_ _));refine bkP (cs:=#[.int .i64 ((rd_T54 l0_0 x9_1).f0),.int .i64 0,.int .i64 0,.int .i64 0,.int .i64 0]) ?_ 1 _ rfl;(with_reducible repeat (first|refine bkN ?_ _|refine bkD ?_|refine bkA ?_ _));refine bkP (cs:=#[.int .i64 0,.int .i64 0,.int .i64 0,.int .i64 0,.int .i64 0]) ?_ 0 _ rfl;(with_reducible repeat (first|refine bkN ?_ _|refine bkD ?_|refine bkA ?_ _));exact BK125.out) hb);have n2_:=As0.mk (bdT (by repeat (first|(with_reducible first|exact HB.out|apply bdA|apply bdN|apply bd1|refine bdS ?_ GE123.out|refine bdS ?_ GE125.out)|exact HB.out)) hb);clear BK123;clear BK125;clear HB;have BK123:=n0_;have BK125:=n1_;have HB:=n2_;clear n0_ n1_ n2_;(try clear hb);(try clear hb2);(try clear hk);(try clear hi)))
       go_roundg k1
       case measure=>have:=HK1.out;omega
       case rel=>exact ⟨(wrap64 (x9_1+1)),(by first|rfl|(simp;done)|(simp [*];done)),H',⟨by have:=HK1.out;omega⟩,⟨by (with_reducible repeat (first|refine bkN ?_ _|refine bkD ?_|refine bkA ?_ _));exact BK123.out⟩,⟨by repeat (first|(with_reducible first|exact HB.out|apply bdA|apply bdN|apply bd1|refine bdS ?_ GE123.out|refine bdS ?_ GE125.out)|exact HB.out)⟩⟩
      ·replace c8:=Bool.eq_false_iff.mpr c8
       subst c8
       have H1:(some (x9_1,true))=some (r1,r2):=by rw [if_neg (show ¬ (false=true) by decide)] at H;exact H
       clear H
       have H:=H1
       clear H1
       simp only [Option.some.injEq,Prod.mk.injEq] at H
       obtain ⟨rfl,rfl⟩:=H
       have p124:0≤(x9_1:Int):=of_decide_eq_true (by first|(with_reducible assumption)|assumption)
       have q124:x9_1<(l0_0.length:Int):=of_decide_eq_true (by first|(with_reducible assumption)|assumption)
       obtain ⟨ad124,e124,hx124_0,hx124_1,hx124_2,hx124_3,hx124_4⟩:=at_T54 HR0_0.out x9_1 p124 q124
       cases e124
       replace hx124_0:=(HB.out.cell (World.block_lt_of_cell? w _ hx124_0)).trans hx124_0
       replace hx124_1:=(HB.out.cell (World.block_lt_of_cell? w _ hx124_1)).trans hx124_1
       replace hx124_2:=(HB.out.cell (World.block_lt_of_cell? w _ hx124_2)).trans hx124_2
       replace hx124_3:=(HB.out.cell (World.block_lt_of_cell? w _ hx124_3)).trans hx124_3
       replace hx124_4:=(HB.out.cell (World.block_lt_of_cell? w _ hx124_4)).trans hx124_4
       replace p124:=eq_true p124
       replace q124:=eq_true q124
       go_wp2_with (first|((with_reducible refine gtD (N:=5) rfl ?_);refine bxE ?hg (N:=5) ?hd (cs:=#[.int .i64 0,.int .i64 0,.int .i64 0,.int .i64 0,.int .i64 0]) (t:=54) ?hr ?_;(case hd=>rfl);(case hg=>rfl);(case hr=>first|(go_simp;done)|(go_simp;rfl));intro gb125 hg w13 hbox hb;have n0_:=As0.mk (bkB (g:=gb123) (o:=.cells #[.slice (some ad124) l0_0.length c0_0,.slice A0_1 l0_1.length c0_1,.slice A0_2 l0_2.length c0_2,.int .i64 a0_3] 26 (0,0)) (by (with_reducible repeat (first|refine bkN ?_ _|refine bkD ?_|refine bkA ?_ _));exact BK123.out) hb);have n1_:=As0.mk (bdT (by repeat (first|(with_reducible first|exact HB.out|apply bdA|apply bdN|apply bd1|refine bdS ?_ GE123.out)|exact HB.out)) hb);have n2_:=As0.mk (hbox);have n3_:=As0.mk ((by rw [hg];exact (bdZ (by repeat (first|(with_reducible first|exact HB.out|apply bdA|apply bdN|apply bd1|refine bdS ?_ GE123.out)|exact HB.out))):w.heap.size≤gb125));have n4_:=As0.mk ((by rw [hg];exact (bdZ (by repeat (first|(with_reducible first|exact HB.out|apply bdA|apply bdN|apply bd1|refine bdS ?_ GE123.out)|exact HB.out))):w.heap.size≤gb125));have n5_:=As0.mk ((by rw [hg];exact Nat.ne_of_lt (blk_lt (g:=gb123) (o:=.cells #[.slice (some ad124) l0_0.length c0_0,.slice A0_1 l0_1.length c0_1,.slice A0_2 l0_2.length c0_2,.int .i64 a0_3] 26 (0,0)) (by (with_reducible repeat (first|refine bkN ?_ _|refine bkD ?_|refine bkA ?_ _));exact BK123.out)):gb123≠gb125));have n6_:=As0.mk ((by rw [hg];exact Nat.ne_of_gt (blk_lt (g:=gb123) (o:=.cells #[.slice (some ad124) l0_0.length c0_0,.slice A0_1 l0_1.length c0_1,.slice A0_2 l0_2.length c0_2,.int .i64 a0_3] 26 (0,0)) (by (with_reducible repeat (first|refine bkN ?_ _|refine bkD ?_|refine bkA ?_ _));exact BK123.out)):gb125≠gb123));clear BK123;clear HB;have BK123:=n0_;have HB:=n1_;have BK125:=n2_;have GW125:=n3_;have GE125:=n4_;have NB123_125:=n5_;have NB125_123:=n6_;clear n0_ n1_ n2_ n3_ n4_ n5_ n6_;clear hb hbox hg;have hnb14:=NB125_123.out;have hnc14:=NB123_125.out;have hcz15_0:w13.cell? ⟨gb125,0,none⟩=some (.int .i64 0):=(bkC BK125.out 0).trans rfl;have hcz15_1:w13.cell? ⟨gb125,1,none⟩=some (.int .i64 0):=(bkC BK125.out 1).trans rfl;have hcz15_2:w13.cell? ⟨gb125,2,none⟩=some (.int .i64 0):=(bkC BK125.out 2).trans rfl;have hcz15_3:w13.cell? ⟨gb125,3,none⟩=some (.int .i64 0):=(bkC BK125.out 3).trans rfl;have hcz15_4:w13.cell? ⟨gb125,4,none⟩=some (.int .i64 0):=(bkC BK125.out 4).trans rfl;have hfz15_0:=bkF BK125.out 0;have hfz15_1:=bkF BK125.out 1;have hfz15_2:=bkF BK125.out 2;have hfz15_3:=bkF BK125.out 3;have hfz15_4:=bkF BK125.out 4)|((with_reducible refine gate_callee (f:=72) rfl ?_);refine goesL_ (some 15) rfl rfl Try.func72 (by kernel_rfl) rfl #[.agg #[.int .i64 ((rd_T54 l0_0 x9_1).f0),.int .i64 ((rd_T54 l0_0 x9_1).f1),.int .i64 ((rd_T54 l0_0 x9_1).f2),.int .i64 ((rd_T54 l0_0 x9_1).f3),.int .i64 ((rd_T54 l0_0 x9_1).f4)]] rfl (by (try simp only [List.map_toArray,List.map_cons,List.map_nil]);first|done|rfl|(simp only [List.length_drop,List.length_take];rfl)) ?_;(with_reducible refine (image_held.calls ((rd_T54 l0_0 x9_1).f0) ((rd_T54 l0_0 x9_1).f1) ((rd_T54 l0_0 x9_1).f2) ((rd_T54 l0_0 x9_1).f3) ((rd_T54 l0_0 x9_1).f4) false _ A7.out).mono ?_);rintro e w16 ⟨rfl,hb⟩;refine ⟨_,rfl,?_⟩;have n0_:=As0.mk (bkB (g:=gb123) (o:=.cells #[.slice (some ad124) l0_0.length c0_0,.slice A0_1 l0_1.length c0_1,.slice A0_2 l0_2.length c0_2,.int .i64 a0_3] 26 (0,0)) (by (with_reducible repeat (first|refine bkN ?_ _|refine bkD ?_|refine bkA ?_ _));refine bkR ?_ NB123_125.out _;(with_reducible repeat (first|refine bkN ?_ _|refine bkD ?_|refine bkA ?_ _));refine bkR ?_ NB123_125.out _;(with_reducible repeat (first|refine bkN ?_ _|refine bkD ?_|refine bkA ?_ _));refine bkR ?_ NB123_125.out _;(with_reducible repeat (first|refine bkN ?_ _|refine bkD ?_|refine bkA ?_ _));refine bkR ?_ NB123_125.out _;(with_reducible repeat (first|refine bkN ?_ _|refine bkD ?_|refine bkA ?_ _));refine bkR ?_ NB123_125.out _;(with_reducible repeat (first|refine bkN ?_ _|refine bkD ?_|refine bkA ?_ _));exact BK123.out) hb);have n1_:=As0.mk (bkB (g:=gb125) (o:=.cells #[.int .i64 ((rd_T54 l0_0 x9_1).f0),.int .i64 ((rd_T54 l0_0 x9_1).f1),.int .i64 ((rd_T54 l0_0 x9_1).f2),.int .i64 ((rd_T54 l0_0 x9_1).f3),.int .i64 ((rd_T54 l0_0 x9_1).f4)] 54 (0,0)) (by (with_reducible repeat (first|refine bkN ?_ _|refine bkD ?_|refine bkA ?_ _));refine bkP (cs:=#[.int .i64 ((rd_T54 l0_0 x9_1).f0),.int .i64 ((rd_T54 l0_0 x9_1).f1),.int .i64 ((rd_T54 l0_0 x9_1).f2),.int .i64 ((rd_T54 l0_0 x9_1).f3),.int .i64 0]) ?_ 4 _ rfl;(with_reducible repeat (first|refine bkN ?_ _|refine bkD ?_|refine bkA ?_ _));refine bkP (cs:=#[.int .i64 ((rd_T54 l0_0 x9_1).f0),.int .i64 ((rd_T54 l0_0 x9_1).f1),.int .i64 ((rd_T54 l0_0 x9_1).f2),.int .i64 0,.int .i64 0]) ?_ 3 _ rfl;(with_reducible repeat (first|refine bkN ?_ _|refine bkD ?_|refine bkA ?_ _));refine bkP (cs:=#[.int .i64 ((rd_T54 l0_0 x9_1).f0),.int .i64 ((rd_T54 l0_0 x9_1).f1),.int .i64 0,.int .i64 0,.int .i64 0]) ?_ 2 _ rfl;(with_reducible repeat (first|refine bkN ?_ _|refine bkD ?_|refine bkA ?_ _));refine bkP (cs:=#[.int .i64 ((rd_T54 l0_0 x9_1).f0),.int .i64 0,.int .i64 0,.int .i64 0,.int .i64 0]) ?_ 1 _ rfl;(with_reducible repeat (first|refine bkN ?_ _|refine bkD ?_|refine bkA ?_ _));refine bkP (cs:=#[.int .i64 0,.int .i64 0,.int .i64 0,.int .i64 0,.int .i64 0]) ?_ 0 _ rfl;(with_reducible repeat (first|refine bkN ?_ _|refine bkD ?_|refine bkA ?_ _));exact BK125.out) hb);have n2_:=As0.mk (bdT (by repeat (first|(with_reducible first|exact HB.out|apply bdA|apply bdN|apply bd1|refine bdS ?_ GE123.out|refine bdS ?_ GE125.out)|exact HB.out)) hb);clear BK123;clear BK125;clear HB;have BK123:=n0_;have BK125:=n1_;have HB:=n2_;clear n0_ n1_ n2_;(try clear hb);(try clear hb2);(try clear hk);(try clear hi)))
       go_ret2
       exact ⟨by first|rfl|(simp [errW_none,errW_some] <;> rfl)|(simp [*,errW_none,errW_some] <;> rfl),by repeat (first|(with_reducible first|exact HB.out|apply bdA|apply bdN|apply bd1|refine bdS ?_ GE123.out|refine bdS ?_ GE125.out)|exact HB.out)⟩
     ·rw [if_neg c6] at H
      exact absurd H (by simp)
    ·rw [if_neg c5] at H
     exact absurd H (by simp)
   ·rw [if_neg c4] at H
    have c4b0:decide (x9_1<(l0_0.length:Int))=false:=decide_eq_false c4
    clear c4
    simp only [Option.some.injEq,Prod.mk.injEq] at H
    obtain ⟨rfl,rfl⟩:=H
    go_wp2
    go_ret2
    exact ⟨by first|rfl|(simp [errW_none,errW_some] <;> rfl)|(simp [*,errW_none,errW_some] <;> rfl),by repeat (first|(with_reducible first|exact HB.out|apply bdA|apply bdN|apply bd1|refine bdS ?_ GE123.out)|exact HB.out)⟩
def spindlelaw0_Num.f (a0:Int):Option (Int):=some a0
theorem spindlelaw0_Num.calls (a0:Int) (r:Int) (w:World) (h:spindlelaw0_Num.f a0=some r) :
  Calls Try.prog 19 #[.int .i64 a0] w fun e w'=>e=.returned (.int .i64 r)∧Drawn0 w w':=by
 have H:(some a0)=some r:=h
 clear h
 obtain rfl:=Option.some.inj H
 go_enter Try.func19,Try.ntmps19
 go_wp2
 go_ret
 exact ⟨by first|rfl|(simp;done)|(simp [*];done),by repeat (first|exact Drawn0.refl _|apply Drawn0.step)⟩
def spindleref17_wide.f (a0_0:Int) (a0_1:Int) (a0_2:Int) (a0_3:Int) (a0_4:Int):Option (Bool):=some (a0_0 == 24)
theorem spindleref17_wide.calls (a0_0:Int) (a0_1:Int) (a0_2:Int) (a0_3:Int) (a0_4:Int) (r:Bool) (w:World) (h:spindleref17_wide.f a0_0 a0_1 a0_2 a0_3 a0_4=some r) :
  Calls Try.prog 84 #[.agg #[.int .i64 a0_0,.int .i64 a0_1,.int .i64 a0_2,.int .i64 a0_3,.int .i64 a0_4]] w fun e w'=>e=.returned (.bool r)∧Below w.heap.size w w':=by
 have hu54:=Try.underlying54
 have HB:=As0.mk (Below.refl w.heap.size w)
 have H:(some (a0_0 == 24))=some r:=h
 clear h
 obtain rfl:=Option.some.inj H
 go_enter Try.func84,Try.ntmps84
 go_wp2_with (first|((with_reducible refine gtD (N:=1) rfl ?_);refine bxE ?hg (N:=1) ?hd (cs:=#[.int .i64 a0_0,.int .i64 a0_1,.int .i64 a0_2,.int .i64 a0_3,.int .i64 a0_4]) (t:=54) ?hr ?_;(case hd=>rfl);(case hg=>rfl);(case hr=>first|(go_simp;done)|(go_simp;rfl));intro gb130 hg w2 hbox hb;have n0_:=As0.mk (bdT (by repeat (first|(with_reducible first|exact HB.out|apply bdA|apply bdN|apply bd1)|exact HB.out)) hb);have n1_:=As0.mk (hbox);have n2_:=As0.mk ((by rw [hg];exact (bdZ (by repeat (first|(with_reducible first|exact HB.out|apply bdA|apply bdN|apply bd1)|exact HB.out))):w.heap.size≤gb130));have n3_:=As0.mk ((by rw [hg];exact (bdZ (by repeat (first|(with_reducible first|exact HB.out|apply bdA|apply bdN|apply bd1)|exact HB.out))):w.heap.size≤gb130));clear HB;have HB:=n0_;have BK130:=n1_;have GW130:=n2_;have GE130:=n3_;clear n0_ n1_ n2_ n3_;clear hb hbox hg;have hcz3_0:w2.cell? ⟨gb130,0,none⟩=some (.int .i64 a0_0):=(bkC BK130.out 0).trans rfl;have hcz3_1:w2.cell? ⟨gb130,1,none⟩=some (.int .i64 a0_1):=(bkC BK130.out 1).trans rfl;have hcz3_2:w2.cell? ⟨gb130,2,none⟩=some (.int .i64 a0_2):=(bkC BK130.out 2).trans rfl;have hcz3_3:w2.cell? ⟨gb130,3,none⟩=some (.int .i64 a0_3):=(bkC BK130.out 3).trans rfl;have hcz3_4:w2.cell? ⟨gb130,4,none⟩=some (.int .i64 a0_4):=(bkC BK130.out 4).trans rfl;have hfz3_0:=bkF BK130.out 0;have hfz3_1:=bkF BK130.out 1;have hfz3_2:=bkF BK130.out 2;have hfz3_3:=bkF BK130.out 3;have hfz3_4:=bkF BK130.out 4))
 go_ret
 exact ⟨by first|rfl|(simp [errW_none,errW_some] <;> rfl)|(simp [*,errW_none,errW_some] <;> rfl),by repeat (first|(with_reducible first|exact HB.out|apply bdA|apply bdN|apply bd1|refine bdS ?_ GE130.out)|exact HB.out)⟩
def spindleref17_Slots.l0:Nat→List (S54)→Int→Int→Option (Int)
 | 0,_,_,_=>none
 | k+1,x0,x3,x4=>if x4<(x0.length:Int) then (if 0≤x4 then ((spindleref17_wide.f ((rd_T54 x0 x4).f0) ((rd_T54 x0 x4).f1) ((rd_T54 x0 x4).f2) ((rd_T54 x0 x4).f3) ((rd_T54 x0 x4).f4)).bind fun t132=>(if t132=true then (spindleref17_Slots.l0 k x0 (wrap64 ((wrap64 (x3+1))+1)) (wrap64 (x4+1))) else (spindleref17_Slots.l0 k x0 (wrap64 (x3+1)) (wrap64 (x4+1))))) else (none)) else (some x3)
def spindleref17_Slots.f (k:Nat) (l0:List (S54)):Option (Int):=spindleref17_Slots.l0 k l0 0 0
theorem spindleref17_Slots.calls (k:Nat) (A0:Option Addr) (c0:Nat) (l0:List (S54)) (r:Int) (w:World) (hr0:Kd.C k54 w A0 l0.length l0) (hc0:l0.length≤c0) (h:spindleref17_Slots.f k l0=some r) :
  Calls Try.prog 59 #[.slice A0 l0.length c0] w fun e w'=>e=.returned (.int .i64 r)∧Below w.heap.size w w':=by
 have hu54:=Try.underlying54
 have HR0:=As0.mk hr0
 have HC0:=As0.mk hc0
 clear hr0 hc0
 have HB:=As0.mk (Below.refl w.heap.size w)
 have H:(spindleref17_Slots.l0 k l0 0 0)=some r:=h
 clear h
 have H':=As0.mk H
 clear H
 go_enter Try.func59,Try.ntmps59
 go_wp2
 go_loopg [3,4] k (fun kq v3 v4 w'=>∃ (x3_1:Int) (x4_1:Int),v3=.int .i64 x3_1∧v4=.int .i64 x4_1∧As0 (spindleref17_Slots.l0 kq l0 x3_1 x4_1=some r)∧As0 (kq≤k)∧As0 (Below w.heap.size w w'))
 case atStart=>exact ⟨(0),(0),(by first|rfl|(simp;done)|(simp [*];done)),(by first|rfl|(simp;done)|(simp [*];done)),H',⟨Nat.le_refl _⟩,⟨by repeat (first|(with_reducible first|exact HB.out|apply bdA|apply bdN|apply bd1)|exact HB.out)⟩⟩
 case round =>
  clear H'
  obtain ⟨x3_1,x4_1,rfl,rfl,HA,HK1,HB⟩:=hrel
  cases gk with
  | zero=>exact absurd HA.out (by simp [spindleref17_Slots.l0])
  | succ k1 =>
   have H:=HA.out
   clear HA
   simp only [spindleref17_Slots.l0] at H
   by_cases c2:x4_1<(l0.length:Int)
   ·rw [if_pos c2] at H
    have c2b0:decide (x4_1<(l0.length:Int))=true:=decide_eq_true c2
    clear c2
    by_cases c3:0≤x4_1
    ·rw [if_pos c3] at H
     have c3b0:decide (0≤x4_1)=true:=decide_eq_true c3
     clear c3
     replace H:=Option.bind_eq_some_iff.mp H
     obtain ⟨t132,A40,H⟩:=H
     replace H:(if t132=true then (spindleref17_Slots.l0 k1 l0 (wrap64 ((wrap64 (x3_1+1))+1)) (wrap64 (x4_1+1))) else (spindleref17_Slots.l0 k1 l0 (wrap64 (x3_1+1)) (wrap64 (x4_1+1))))=some r:=H
     have A4:=As0.mk A40
     clear A40
     by_cases c5:t132=true
     ·subst c5
      have H1:(spindleref17_Slots.l0 k1 l0 (wrap64 ((wrap64 (x3_1+1))+1)) (wrap64 (x4_1+1)))=some r:=by rw [if_pos rfl] at H;exact H
      clear H
      have H:=H1
      clear H1
      have H':=As0.mk H
      clear H
      have p131:0≤(x4_1:Int):=of_decide_eq_true (by first|(with_reducible assumption)|assumption)
      have q131:x4_1<(l0.length:Int):=of_decide_eq_true (by first|(with_reducible assumption)|assumption)
      obtain ⟨ad131,e131,hx131_0,hx131_1,hx131_2,hx131_3,hx131_4⟩:=at_T54 HR0.out x4_1 p131 q131
      cases e131
      replace hx131_0:=(HB.out.cell (World.block_lt_of_cell? w _ hx131_0)).trans hx131_0
      replace hx131_1:=(HB.out.cell (World.block_lt_of_cell? w _ hx131_1)).trans hx131_1
      replace hx131_2:=(HB.out.cell (World.block_lt_of_cell? w _ hx131_2)).trans hx131_2
      replace hx131_3:=(HB.out.cell (World.block_lt_of_cell? w _ hx131_3)).trans hx131_3
      replace hx131_4:=(HB.out.cell (World.block_lt_of_cell? w _ hx131_4)).trans hx131_4
      replace p131:=eq_true p131
      replace q131:=eq_true q131
      go_wp2_with (first|((with_reducible refine gate_callee (f:=84) rfl ?_);refine goesL_ (some 17) rfl rfl Try.func84 (by kernel_rfl) rfl #[.agg #[.int .i64 ((rd_T54 l0 x4_1).f0),.int .i64 ((rd_T54 l0 x4_1).f1),.int .i64 ((rd_T54 l0 x4_1).f2),.int .i64 ((rd_T54 l0 x4_1).f3),.int .i64 ((rd_T54 l0 x4_1).f4)]] rfl (by (try simp only [List.map_toArray,List.map_cons,List.map_nil]);first|done|rfl|(simp only [List.length_drop,List.length_take];rfl)) ?_;(with_reducible refine (spindleref17_wide.calls ((rd_T54 l0 x4_1).f0) ((rd_T54 l0 x4_1).f1) ((rd_T54 l0 x4_1).f2) ((rd_T54 l0 x4_1).f3) ((rd_T54 l0 x4_1).f4) true _ A4.out).mono ?_);rintro e w6 ⟨rfl,hb⟩;refine ⟨_,rfl,?_⟩;have n0_:=As0.mk (bdT (by repeat (first|(with_reducible first|exact HB.out|apply bdA|apply bdN|apply bd1)|exact HB.out)) hb);clear HB;have HB:=n0_;clear n0_;(try clear hb);(try clear hb2);(try clear hk);(try clear hi)))
      go_roundg k1
      case measure=>have:=HK1.out;omega
      case rel=>exact ⟨(wrap64 ((wrap64 (x3_1+1))+1)),(wrap64 (x4_1+1)),(by first|rfl|(simp;done)|(simp [*];done)),(by first|rfl|(simp;done)|(simp [*];done)),H',⟨by have:=HK1.out;omega⟩,⟨by repeat (first|(with_reducible first|exact HB.out|apply bdA|apply bdN|apply bd1)|exact HB.out)⟩⟩
     ·replace c5:=Bool.eq_false_iff.mpr c5
      subst c5
      have H1:(spindleref17_Slots.l0 k1 l0 (wrap64 (x3_1+1)) (wrap64 (x4_1+1)))=some r:=by rw [if_neg (show ¬ (false=true) by decide)] at H;exact H
      clear H
      have H:=H1
      clear H1
      have H':=As0.mk H
      clear H
      have p131:0≤(x4_1:Int):=of_decide_eq_true (by first|(with_reducible assumption)|assumption)
      have q131:x4_1<(l0.length:Int):=of_decide_eq_true (by first|(with_reducible assumption)|assumption)
      obtain ⟨ad131,e131,hx131_0,hx131_1,hx131_2,hx131_3,hx131_4⟩:=at_T54 HR0.out x4_1 p131 q131
      cases e131
      replace hx131_0:=(HB.out.cell (World.block_lt_of_cell? w _ hx131_0)).trans hx131_0
      replace hx131_1:=(HB.out.cell (World.block_lt_of_cell? w _ hx131_1)).trans hx131_1
      replace hx131_2:=(HB.out.cell (World.block_lt_of_cell? w _ hx131_2)).trans hx131_2
      replace hx131_3:=(HB.out.cell (World.block_lt_of_cell? w _ hx131_3)).trans hx131_3
      replace hx131_4:=(HB.out.cell (World.block_lt_of_cell? w _ hx131_4)).trans hx131_4
      replace p131:=eq_true p131
      replace q131:=eq_true q131
      go_wp2_with (first|((with_reducible refine gate_callee (f:=84) rfl ?_);refine goesL_ (some 17) rfl rfl Try.func84 (by kernel_rfl) rfl #[.agg #[.int .i64 ((rd_T54 l0 x4_1).f0),.int .i64 ((rd_T54 l0 x4_1).f1),.int .i64 ((rd_T54 l0 x4_1).f2),.int .i64 ((rd_T54 l0 x4_1).f3),.int .i64 ((rd_T54 l0 x4_1).f4)]] rfl (by (try simp only [List.map_toArray,List.map_cons,List.map_nil]);first|done|rfl|(simp only [List.length_drop,List.length_take];rfl)) ?_;(with_reducible refine (spindleref17_wide.calls ((rd_T54 l0 x4_1).f0) ((rd_T54 l0 x4_1).f1) ((rd_T54 l0 x4_1).f2) ((rd_T54 l0 x4_1).f3) ((rd_T54 l0 x4_1).f4) false _ A4.out).mono ?_);rintro e w7 ⟨rfl,hb⟩;refine ⟨_,rfl,?_⟩;have n0_:=As0.mk (bdT (by repeat (first|(with_reducible first|exact HB.out|apply bdA|apply bdN|apply bd1)|exact HB.out)) hb);clear HB;have HB:=n0_;clear n0_;(try clear hb);(try clear hb2);(try clear hk);(try clear hi)))
      go_roundg k1
      case measure=>have:=HK1.out;omega
      case rel=>exact ⟨(wrap64 (x3_1+1)),(wrap64 (x4_1+1)),(by first|rfl|(simp;done)|(simp [*];done)),(by first|rfl|(simp;done)|(simp [*];done)),H',⟨by have:=HK1.out;omega⟩,⟨by repeat (first|(with_reducible first|exact HB.out|apply bdA|apply bdN|apply bd1)|exact HB.out)⟩⟩
    ·rw [if_neg c3] at H
     exact absurd H (by simp)
   ·rw [if_neg c2] at H
    have c2b0:decide (x4_1<(l0.length:Int))=false:=decide_eq_false c2
    clear c2
    obtain rfl:=Option.some.inj H
    go_wp2
    go_ret
    exact ⟨by first|rfl|(simp [errW_none,errW_some] <;> rfl)|(simp [*,errW_none,errW_some] <;> rfl),by repeat (first|(with_reducible first|exact HB.out|apply bdA|apply bdN|apply bd1)|exact HB.out)⟩
def spindleref17_many.f (k:Nat) (l0_0:List (S54)) (l0_1:List (S68)) (l0_2:List (S56)) (a0_3:Int):Option (Int):=(spindleref17_Slots.f k l0_0).bind fun t134=>(if t134 > 1048576 then (some 0) else (if (l0_1.length:Int) > 4096 then (some 1) else (if (l0_2.length:Int) > 1024 then (some 2) else (some (-1)))))
theorem spindleref17_many.calls (k:Nat) (A0_0:Option Addr) (c0_0:Nat) (l0_0:List (S54)) (A0_1:Option Addr) (c0_1:Nat) (l0_1:List (S68)) (A0_2:Option Addr) (c0_2:Nat) (l0_2:List (S56)) (a0_3:Int) (r:Int) (w:World) (hr0_0:Kd.C k54 w A0_0 l0_0.length l0_0) (hc0_0:l0_0.length≤c0_0) (hr0_1:Kd.C k68 w A0_1 l0_1.length l0_1) (hc0_1:l0_1.length≤c0_1) (hr0_2:Kd.C k56 w A0_2 l0_2.length l0_2) (hc0_2:l0_2.length≤c0_2) (h:spindleref17_many.f k l0_0 l0_1 l0_2 a0_3=some r) :
  Calls Try.prog 49 #[.agg #[.slice A0_0 l0_0.length c0_0,.slice A0_1 l0_1.length c0_1,.slice A0_2 l0_2.length c0_2,.int .i64 a0_3]] w fun e w'=>e=.returned (.int .i64 r)∧Below w.heap.size w w':=by
 have hu26:=Try.underlying26
 have HR0_0:=As0.mk hr0_0
 have HC0_0:=As0.mk hc0_0
 clear hr0_0 hc0_0
 have HR0_1:=As0.mk hr0_1
 have HC0_1:=As0.mk hc0_1
 clear hr0_1 hc0_1
 have HR0_2:=As0.mk hr0_2
 have HC0_2:=As0.mk hc0_2
 clear hr0_2 hc0_2
 have HB:=As0.mk (Below.refl w.heap.size w)
 have H:((spindleref17_Slots.f k l0_0).bind fun t134=>(if t134 > 1048576 then (some 0) else (if (l0_1.length:Int) > 4096 then (some 1) else (if (l0_2.length:Int) > 1024 then (some 2) else (some (-1))))))=some r:=h
 clear h
 replace H:=Option.bind_eq_some_iff.mp H
 obtain ⟨t134,A20,H⟩:=H
 replace H:(if t134 > 1048576 then (some 0) else (if (l0_1.length:Int) > 4096 then (some 1) else (if (l0_2.length:Int) > 1024 then (some 2) else (some (-1)))))=some r:=H
 have A2:=As0.mk A20
 clear A20
 by_cases c3:t134 > 1048576
 ·rw [if_pos c3] at H
  have c3b0:decide (1048576<t134)=true:=decide_eq_true c3
  clear c3
  obtain rfl:=Option.some.inj H
  go_enter Try.func49,Try.ntmps49
  go_wp2_with (first|((with_reducible refine gtD (N:=1) rfl ?_);refine bxE ?hg (N:=1) ?hd (cs:=#[.slice A0_0 l0_0.length c0_0,.slice A0_1 l0_1.length c0_1,.slice A0_2 l0_2.length c0_2,.int .i64 a0_3]) (t:=26) ?hr ?_;(case hd=>rfl);(case hg=>rfl);(case hr=>first|(go_simp;done)|(go_simp;rfl));intro gb133 hg w4 hbox hb;have n0_:=As0.mk (bdT (by repeat (first|(with_reducible first|exact HB.out|apply bdA|apply bdN|apply bd1)|exact HB.out)) hb);have n1_:=As0.mk (hbox);have n2_:=As0.mk ((by rw [hg];exact (bdZ (by repeat (first|(with_reducible first|exact HB.out|apply bdA|apply bdN|apply bd1)|exact HB.out))):w.heap.size≤gb133));have n3_:=As0.mk ((by rw [hg];exact (bdZ (by repeat (first|(with_reducible first|exact HB.out|apply bdA|apply bdN|apply bd1)|exact HB.out))):w.heap.size≤gb133));clear HB;have HB:=n0_;have BK133:=n1_;have GW133:=n2_;have GE133:=n3_;clear n0_ n1_ n2_ n3_;clear hb hbox hg;have hcz5_0:w4.cell? ⟨gb133,0,none⟩=some (.slice A0_0 l0_0.length c0_0):=(bkC BK133.out 0).trans rfl;have hcz5_1:w4.cell? ⟨gb133,1,none⟩=some (.slice A0_1 l0_1.length c0_1):=(bkC BK133.out 1).trans rfl;have hcz5_2:w4.cell? ⟨gb133,2,none⟩=some (.slice A0_2 l0_2.length c0_2):=(bkC BK133.out 2).trans rfl;have hcz5_3:w4.cell? ⟨gb133,3,none⟩=some (.int .i64 a0_3):=(bkC BK133.out 3).trans rfl;have hfz5_0:=bkF BK133.out 0;have hfz5_1:=bkF BK133.out 1;have hfz5_2:=bkF BK133.out 2;have hfz5_3:=bkF BK133.out 3)|((with_reducible refine gate_callee (f:=59) rfl ?_);refine goesL_ (some 6) rfl rfl Try.func59 (by kernel_rfl) rfl #[.slice A0_0 l0_0.length c0_0] rfl (by (try simp only [List.map_toArray,List.map_cons,List.map_nil]);first|done|rfl|(simp only [List.length_drop,List.length_take];rfl)) ?_;(with_reducible refine (spindleref17_Slots.calls k _ _ l0_0 t134 _ ?side1 ?side2 A2.out).mono ?_);(case side1=>repeat (first|exact (Kd.CbW HR0_0.out HB.out)|(with_reducible refine Kd.C_alloc ?_ _)|(with_reducible refine Kd.C_drewN ?_ _)|(with_reducible refine Kd.C_drew ?_)));(case side2=>exact HC0_0.out);rintro e w6 ⟨rfl,hb⟩;refine ⟨_,rfl,?_⟩;have n0_:=As0.mk (bkB (g:=gb133) (o:=.cells #[.slice A0_0 l0_0.length c0_0,.slice A0_1 l0_1.length c0_1,.slice A0_2 l0_2.length c0_2,.int .i64 a0_3] 26 (0,0)) (by (with_reducible repeat (first|refine bkN ?_ _|refine bkD ?_|refine bkA ?_ _));exact BK133.out) hb);have n1_:=As0.mk (bdT (by repeat (first|(with_reducible first|exact HB.out|apply bdA|apply bdN|apply bd1|refine bdS ?_ GE133.out)|exact HB.out)) hb);clear BK133;clear HB;have BK133:=n0_;have HB:=n1_;clear n0_ n1_;(try clear hb);(try clear hb2);(try clear hk);(try clear hi)))
  go_ret
  exact ⟨by first|rfl|(simp [errW_none,errW_some] <;> rfl)|(simp [*,errW_none,errW_some] <;> rfl),by repeat (first|(with_reducible first|exact HB.out|apply bdA|apply bdN|apply bd1|refine bdS ?_ GE133.out)|exact HB.out)⟩
 ·rw [if_neg c3] at H
  have c3b0:decide (1048576<t134)=false:=decide_eq_false c3
  clear c3
  by_cases c7:(l0_1.length:Int) > 4096
  ·rw [if_pos c7] at H
   have c7b0:decide (4096<(l0_1.length:Int))=true:=decide_eq_true c7
   have c7b1:decide (4096<l0_1.length)=true:=decide_eq_true (by omega)
   clear c7
   obtain rfl:=Option.some.inj H
   go_enter Try.func49,Try.ntmps49
   go_wp2_with (first|((with_reducible refine gtD (N:=1) rfl ?_);refine bxE ?hg (N:=1) ?hd (cs:=#[.slice A0_0 l0_0.length c0_0,.slice A0_1 l0_1.length c0_1,.slice A0_2 l0_2.length c0_2,.int .i64 a0_3]) (t:=26) ?hr ?_;(case hd=>rfl);(case hg=>rfl);(case hr=>first|(go_simp;done)|(go_simp;rfl));intro gb133 hg w8 hbox hb;have n0_:=As0.mk (bdT (by repeat (first|(with_reducible first|exact HB.out|apply bdA|apply bdN|apply bd1)|exact HB.out)) hb);have n1_:=As0.mk (hbox);have n2_:=As0.mk ((by rw [hg];exact (bdZ (by repeat (first|(with_reducible first|exact HB.out|apply bdA|apply bdN|apply bd1)|exact HB.out))):w.heap.size≤gb133));have n3_:=As0.mk ((by rw [hg];exact (bdZ (by repeat (first|(with_reducible first|exact HB.out|apply bdA|apply bdN|apply bd1)|exact HB.out))):w.heap.size≤gb133));clear HB;have HB:=n0_;have BK133:=n1_;have GW133:=n2_;have GE133:=n3_;clear n0_ n1_ n2_ n3_;clear hb hbox hg;have hcz9_0:w8.cell? ⟨gb133,0,none⟩=some (.slice A0_0 l0_0.length c0_0):=(bkC BK133.out 0).trans rfl;have hcz9_1:w8.cell? ⟨gb133,1,none⟩=some (.slice A0_1 l0_1.length c0_1):=(bkC BK133.out 1).trans rfl;have hcz9_2:w8.cell? ⟨gb133,2,none⟩=some (.slice A0_2 l0_2.length c0_2):=(bkC BK133.out 2).trans rfl;have hcz9_3:w8.cell? ⟨gb133,3,none⟩=some (.int .i64 a0_3):=(bkC BK133.out 3).trans rfl;have hfz9_0:=bkF BK133.out 0;have hfz9_1:=bkF BK133.out 1;have hfz9_2:=bkF BK133.out 2;have hfz9_3:=bkF BK133.out 3)|((with_reducible refine gate_callee (f:=59) rfl ?_);refine goesL_ (some 6) rfl rfl Try.func59 (by kernel_rfl) rfl #[.slice A0_0 l0_0.length c0_0] rfl (by (try simp only [List.map_toArray,List.map_cons,List.map_nil]);first|done|rfl|(simp only [List.length_drop,List.length_take];rfl)) ?_;(with_reducible refine (spindleref17_Slots.calls k _ _ l0_0 t134 _ ?side1 ?side2 A2.out).mono ?_);(case side1=>repeat (first|exact (Kd.CbW HR0_0.out HB.out)|(with_reducible refine Kd.C_alloc ?_ _)|(with_reducible refine Kd.C_drewN ?_ _)|(with_reducible refine Kd.C_drew ?_)));(case side2=>exact HC0_0.out);rintro e w10 ⟨rfl,hb⟩;refine ⟨_,rfl,?_⟩;have n0_:=As0.mk (bkB (g:=gb133) (o:=.cells #[.slice A0_0 l0_0.length c0_0,.slice A0_1 l0_1.length c0_1,.slice A0_2 l0_2.length c0_2,.int .i64 a0_3] 26 (0,0)) (by (with_reducible repeat (first|refine bkN ?_ _|refine bkD ?_|refine bkA ?_ _));exact BK133.out) hb);have n1_:=As0.mk (bdT (by repeat (first|(with_reducible first|exact HB.out|apply bdA|apply bdN|apply bd1|refine bdS ?_ GE133.out)|exact HB.out)) hb);clear BK133;clear HB;have BK133:=n0_;have HB:=n1_;clear n0_ n1_;(try clear hb);(try clear hb2);(try clear hk);(try clear hi);have hcz11_0:w10.cell? ⟨gb133,0,none⟩=some (.slice A0_0 l0_0.length c0_0):=(bkC BK133.out 0).trans rfl;have hcz11_1:w10.cell? ⟨gb133,1,none⟩=some (.slice A0_1 l0_1.length c0_1):=(bkC BK133.out 1).trans rfl;have hcz11_2:w10.cell? ⟨gb133,2,none⟩=some (.slice A0_2 l0_2.length c0_2):=(bkC BK133.out 2).trans rfl;have hcz11_3:w10.cell? ⟨gb133,3,none⟩=some (.int .i64 a0_3):=(bkC BK133.out 3).trans rfl;have hfz11_0:=bkF BK133.out 0;have hfz11_1:=bkF BK133.out 1;have hfz11_2:=bkF BK133.out 2;have hfz11_3:=bkF BK133.out 3))
   go_ret
   exact ⟨by first|rfl|(simp [errW_none,errW_some] <;> rfl)|(simp [*,errW_none,errW_some] <;> rfl),by repeat (first|(with_reducible first|exact HB.out|apply bdA|apply bdN|apply bd1|refine bdS ?_ GE133.out)|exact HB.out)⟩
  ·rw [if_neg c7] at H
   have c7b0:decide (4096<(l0_1.length:Int))=false:=decide_eq_false c7
   have c7b1:decide (4096<l0_1.length)=false:=decide_eq_false (by omega)
   clear c7
   by_cases c12:(l0_2.length:Int) > 1024
   ·rw [if_pos c12] at H
    have c12b0:decide (1024<(l0_2.length:Int))=true:=decide_eq_true c12
    have c12b1:decide (1024<l0_2.length)=true:=decide_eq_true (by omega)
    clear c12
    obtain rfl:=Option.some.inj H
    go_enter Try.func49,Try.ntmps49
    go_wp2_with (first|((with_reducible refine gtD (N:=1) rfl ?_);refine bxE ?hg (N:=1) ?hd (cs:=#[.slice A0_0 l0_0.length c0_0,.slice A0_1 l0_1.length c0_1,.slice A0_2 l0_2.length c0_2,.int .i64 a0_3]) (t:=26) ?hr ?_;(case hd=>rfl);(case hg=>rfl);(case hr=>first|(go_simp;done)|(go_simp;rfl));intro gb133 hg w13 hbox hb;have n0_:=As0.mk (bdT (by repeat (first|(with_reducible first|exact HB.out|apply bdA|apply bdN|apply bd1)|exact HB.out)) hb);have n1_:=As0.mk (hbox);have n2_:=As0.mk ((by rw [hg];exact (bdZ (by repeat (first|(with_reducible first|exact HB.out|apply bdA|apply bdN|apply bd1)|exact HB.out))):w.heap.size≤gb133));have n3_:=As0.mk ((by rw [hg];exact (bdZ (by repeat (first|(with_reducible first|exact HB.out|apply bdA|apply bdN|apply bd1)|exact HB.out))):w.heap.size≤gb133));clear HB;have HB:=n0_;have BK133:=n1_;have GW133:=n2_;have GE133:=n3_;clear n0_ n1_ n2_ n3_;clear hb hbox hg;have hcz14_0:w13.cell? ⟨gb133,0,none⟩=some (.slice A0_0 l0_0.length c0_0):=(bkC BK133.out 0).trans rfl;have hcz14_1:w13.cell? ⟨gb133,1,none⟩=some (.slice A0_1 l0_1.length c0_1):=(bkC BK133.out 1).trans rfl;have hcz14_2:w13.cell? ⟨gb133,2,none⟩=some (.slice A0_2 l0_2.length c0_2):=(bkC BK133.out 2).trans rfl;have hcz14_3:w13.cell? ⟨gb133,3,none⟩=some (.int .i64 a0_3):=(bkC BK133.out 3).trans rfl;have hfz14_0:=bkF BK133.out 0;have hfz14_1:=bkF BK133.out 1;have hfz14_2:=bkF BK133.out 2;have hfz14_3:=bkF BK133.out 3)|((with_reducible refine gate_callee (f:=59) rfl ?_);refine goesL_ (some 6) rfl rfl Try.func59 (by kernel_rfl) rfl #[.slice A0_0 l0_0.length c0_0] rfl (by (try simp only [List.map_toArray,List.map_cons,List.map_nil]);first|done|rfl|(simp only [List.length_drop,List.length_take];rfl)) ?_;(with_reducible refine (spindleref17_Slots.calls k _ _ l0_0 t134 _ ?side1 ?side2 A2.out).mono ?_);(case side1=>repeat (first|exact (Kd.CbW HR0_0.out HB.out)|(with_reducible refine Kd.C_alloc ?_ _)|(with_reducible refine Kd.C_drewN ?_ _)|(with_reducible refine Kd.C_drew ?_)));(case side2=>exact HC0_0.out);rintro e w15 ⟨rfl,hb⟩;refine ⟨_,rfl,?_⟩;have n0_:=As0.mk (bkB (g:=gb133) (o:=.cells #[.slice A0_0 l0_0.length c0_0,.slice A0_1 l0_1.length c0_1,.slice A0_2 l0_2.length c0_2,.int .i64 a0_3] 26 (0,0)) (by (with_reducible repeat (first|refine bkN ?_ _|refine bkD ?_|refine bkA ?_ _));exact BK133.out) hb);have n1_:=As0.mk (bdT (by repeat (first|(with_reducible first|exact HB.out|apply bdA|apply bdN|apply bd1|refine bdS ?_ GE133.out)|exact HB.out)) hb);clear BK133;clear HB;have BK133:=n0_;have HB:=n1_;clear n0_ n1_;(try clear hb);(try clear hb2);(try clear hk);(try clear hi);have hcz16_0:w15.cell? ⟨gb133,0,none⟩=some (.slice A0_0 l0_0.length c0_0):=(bkC BK133.out 0).trans rfl;have hcz16_1:w15.cell? ⟨gb133,1,none⟩=some (.slice A0_1 l0_1.length c0_1):=(bkC BK133.out 1).trans rfl;have hcz16_2:w15.cell? ⟨gb133,2,none⟩=some (.slice A0_2 l0_2.length c0_2):=(bkC BK133.out 2).trans rfl;have hcz16_3:w15.cell? ⟨gb133,3,none⟩=some (.int .i64 a0_3):=(bkC BK133.out 3).trans rfl;have hfz16_0:=bkF BK133.out 0;have hfz16_1:=bkF BK133.out 1;have hfz16_2:=bkF BK133.out 2;have hfz16_3:=bkF BK133.out 3))
    go_ret
    exact ⟨by first|rfl|(simp [errW_none,errW_some] <;> rfl)|(simp [*,errW_none,errW_some] <;> rfl),by repeat (first|(with_reducible first|exact HB.out|apply bdA|apply bdN|apply bd1|refine bdS ?_ GE133.out)|exact HB.out)⟩
   ·rw [if_neg c12] at H
    have c12b0:decide (1024<(l0_2.length:Int))=false:=decide_eq_false c12
    have c12b1:decide (1024<l0_2.length)=false:=decide_eq_false (by omega)
    clear c12
    obtain rfl:=Option.some.inj H
    go_enter Try.func49,Try.ntmps49
    go_wp2_with (first|((with_reducible refine gtD (N:=1) rfl ?_);refine bxE ?hg (N:=1) ?hd (cs:=#[.slice A0_0 l0_0.length c0_0,.slice A0_1 l0_1.length c0_1,.slice A0_2 l0_2.length c0_2,.int .i64 a0_3]) (t:=26) ?hr ?_;(case hd=>rfl);(case hg=>rfl);(case hr=>first|(go_simp;done)|(go_simp;rfl));intro gb133 hg w17 hbox hb;have n0_:=As0.mk (bdT (by repeat (first|(with_reducible first|exact HB.out|apply bdA|apply bdN|apply bd1)|exact HB.out)) hb);have n1_:=As0.mk (hbox);have n2_:=As0.mk ((by rw [hg];exact (bdZ (by repeat (first|(with_reducible first|exact HB.out|apply bdA|apply bdN|apply bd1)|exact HB.out))):w.heap.size≤gb133));have n3_:=As0.mk ((by rw [hg];exact (bdZ (by repeat (first|(with_reducible first|exact HB.out|apply bdA|apply bdN|apply bd1)|exact HB.out))):w.heap.size≤gb133));clear HB;have HB:=n0_;have BK133:=n1_;have GW133:=n2_;have GE133:=n3_;clear n0_ n1_ n2_ n3_;clear hb hbox hg;have hcz18_0:w17.cell? ⟨gb133,0,none⟩=some (.slice A0_0 l0_0.length c0_0):=(bkC BK133.out 0).trans rfl;have hcz18_1:w17.cell? ⟨gb133,1,none⟩=some (.slice A0_1 l0_1.length c0_1):=(bkC BK133.out 1).trans rfl;have hcz18_2:w17.cell? ⟨gb133,2,none⟩=some (.slice A0_2 l0_2.length c0_2):=(bkC BK133.out 2).trans rfl;have hcz18_3:w17.cell? ⟨gb133,3,none⟩=some (.int .i64 a0_3):=(bkC BK133.out 3).trans rfl;have hfz18_0:=bkF BK133.out 0;have hfz18_1:=bkF BK133.out 1;have hfz18_2:=bkF BK133.out 2;have hfz18_3:=bkF BK133.out 3)|((with_reducible refine gate_callee (f:=59) rfl ?_);refine goesL_ (some 6) rfl rfl Try.func59 (by kernel_rfl) rfl #[.slice A0_0 l0_0.length c0_0] rfl (by (try simp only [List.map_toArray,List.map_cons,List.map_nil]);first|done|rfl|(simp only [List.length_drop,List.length_take];rfl)) ?_;(with_reducible refine (spindleref17_Slots.calls k _ _ l0_0 t134 _ ?side1 ?side2 A2.out).mono ?_);(case side1=>repeat (first|exact (Kd.CbW HR0_0.out HB.out)|(with_reducible refine Kd.C_alloc ?_ _)|(with_reducible refine Kd.C_drewN ?_ _)|(with_reducible refine Kd.C_drew ?_)));(case side2=>exact HC0_0.out);rintro e w19 ⟨rfl,hb⟩;refine ⟨_,rfl,?_⟩;have n0_:=As0.mk (bkB (g:=gb133) (o:=.cells #[.slice A0_0 l0_0.length c0_0,.slice A0_1 l0_1.length c0_1,.slice A0_2 l0_2.length c0_2,.int .i64 a0_3] 26 (0,0)) (by (with_reducible repeat (first|refine bkN ?_ _|refine bkD ?_|refine bkA ?_ _));exact BK133.out) hb);have n1_:=As0.mk (bdT (by repeat (first|(with_reducible first|exact HB.out|apply bdA|apply bdN|apply bd1|refine bdS ?_ GE133.out)|exact HB.out)) hb);clear BK133;clear HB;have BK133:=n0_;have HB:=n1_;clear n0_ n1_;(try clear hb);(try clear hb2);(try clear hk);(try clear hi);have hcz20_0:w19.cell? ⟨gb133,0,none⟩=some (.slice A0_0 l0_0.length c0_0):=(bkC BK133.out 0).trans rfl;have hcz20_1:w19.cell? ⟨gb133,1,none⟩=some (.slice A0_1 l0_1.length c0_1):=(bkC BK133.out 1).trans rfl;have hcz20_2:w19.cell? ⟨gb133,2,none⟩=some (.slice A0_2 l0_2.length c0_2):=(bkC BK133.out 2).trans rfl;have hcz20_3:w19.cell? ⟨gb133,3,none⟩=some (.int .i64 a0_3):=(bkC BK133.out 3).trans rfl;have hfz20_0:=bkF BK133.out 0;have hfz20_1:=bkF BK133.out 1;have hfz20_2:=bkF BK133.out 2;have hfz20_3:=bkF BK133.out 3))
    go_ret
    exact ⟨by first|rfl|(simp [errW_none,errW_some] <;> rfl)|(simp [*,errW_none,errW_some] <;> rfl),by repeat (first|(with_reducible first|exact HB.out|apply bdA|apply bdN|apply bd1|refine bdS ?_ GE133.out)|exact HB.out)⟩
def spindleref5_letter.f (a0:Int):Option (Bool):=if a0≥97 then (if a0≤122 then (some true) else (if a0≥65 then (if a0≤90 then (some true) else (some (a0 == 95))) else (some (a0 == 95)))) else (if a0≥65 then (if a0≤90 then (some true) else (some (a0 == 95))) else (some (a0 == 95)))
theorem spindleref5_letter.calls (a0:Int) (r:Bool) (w:World) (h:spindleref5_letter.f a0=some r) :
  Calls Try.prog 95 #[.int .u8 a0] w fun e w'=>e=.returned (.bool r)∧Drawn0 w w':=by
 have H:(if a0≥97 then (if a0≤122 then (some true) else (if a0≥65 then (if a0≤90 then (some true) else (some (a0 == 95))) else (some (a0 == 95)))) else (if a0≥65 then (if a0≤90 then (some true) else (some (a0 == 95))) else (some (a0 == 95))))=some r:=h
 clear h
 by_cases c2:a0≥97
 ·rw [if_pos c2] at H
  have c2b0:decide (97≤a0)=true:=decide_eq_true c2
  clear c2
  by_cases c3:a0≤122
  ·rw [if_pos c3] at H
   have c3b0:decide (a0≤122)=true:=decide_eq_true c3
   clear c3
   obtain rfl:=Option.some.inj H
   go_enter Try.func95,Try.ntmps95
   go_wp2
   go_ret
   exact ⟨by first|rfl|(simp;done)|(simp [*];done),by repeat (first|exact Drawn0.refl _|apply Drawn0.step)⟩
  ·rw [if_neg c3] at H
   have c3b0:decide (a0≤122)=false:=decide_eq_false c3
   clear c3
   by_cases c4:a0≥65
   ·rw [if_pos c4] at H
    have c4b0:decide (65≤a0)=true:=decide_eq_true c4
    clear c4
    by_cases c5:a0≤90
    ·rw [if_pos c5] at H
     have c5b0:decide (a0≤90)=true:=decide_eq_true c5
     clear c5
     obtain rfl:=Option.some.inj H
     go_enter Try.func95,Try.ntmps95
     go_wp2
     go_ret
     exact ⟨by first|rfl|(simp;done)|(simp [*];done),by repeat (first|exact Drawn0.refl _|apply Drawn0.step)⟩
    ·rw [if_neg c5] at H
     have c5b0:decide (a0≤90)=false:=decide_eq_false c5
     clear c5
     obtain rfl:=Option.some.inj H
     go_enter Try.func95,Try.ntmps95
     go_wp2
     go_ret
     exact ⟨by first|rfl|(simp;done)|(simp [*];done),by repeat (first|exact Drawn0.refl _|apply Drawn0.step)⟩
   ·rw [if_neg c4] at H
    have c4b0:decide (65≤a0)=false:=decide_eq_false c4
    clear c4
    obtain rfl:=Option.some.inj H
    go_enter Try.func95,Try.ntmps95
    go_wp2
    go_ret
    exact ⟨by first|rfl|(simp;done)|(simp [*];done),by repeat (first|exact Drawn0.refl _|apply Drawn0.step)⟩
 ·rw [if_neg c2] at H
  have c2b0:decide (97≤a0)=false:=decide_eq_false c2
  clear c2
  by_cases c6:a0≥65
  ·rw [if_pos c6] at H
   have c6b0:decide (65≤a0)=true:=decide_eq_true c6
   clear c6
   by_cases c7:a0≤90
   ·rw [if_pos c7] at H
    have c7b0:decide (a0≤90)=true:=decide_eq_true c7
    clear c7
    obtain rfl:=Option.some.inj H
    go_enter Try.func95,Try.ntmps95
    go_wp2
    go_ret
    exact ⟨by first|rfl|(simp;done)|(simp [*];done),by repeat (first|exact Drawn0.refl _|apply Drawn0.step)⟩
   ·rw [if_neg c7] at H
    have c7b0:decide (a0≤90)=false:=decide_eq_false c7
    clear c7
    obtain rfl:=Option.some.inj H
    go_enter Try.func95,Try.ntmps95
    go_wp2
    go_ret
    exact ⟨by first|rfl|(simp;done)|(simp [*];done),by repeat (first|exact Drawn0.refl _|apply Drawn0.step)⟩
  ·rw [if_neg c6] at H
   have c6b0:decide (65≤a0)=false:=decide_eq_false c6
   clear c6
   obtain rfl:=Option.some.inj H
   go_enter Try.func95,Try.ntmps95
   go_wp2
   go_ret
   exact ⟨by first|rfl|(simp;done)|(simp [*];done),by repeat (first|exact Drawn0.refl _|apply Drawn0.step)⟩
def spindleref5_inner.f (a0:Int):Option (Bool):=(spindleref5_letter.f a0).bind fun t135=>(if t135=true then (some true) else (if a0≥48 then (if a0≤57 then (some true) else (if a0=46 then (some true) else (some (a0 == 36)))) else (if a0=46 then (some true) else (some (a0 == 36)))))
theorem spindleref5_inner.calls (a0:Int) (r:Bool) (w:World) (h:spindleref5_inner.f a0=some r) :
  Calls Try.prog 96 #[.int .u8 a0] w fun e w'=>e=.returned (.bool r)∧Drawn0 w w':=by
 have H:((spindleref5_letter.f a0).bind fun t135=>(if t135=true then (some true) else (if a0≥48 then (if a0≤57 then (some true) else (if a0=46 then (some true) else (some (a0 == 36)))) else (if a0=46 then (some true) else (some (a0 == 36))))))=some r:=h
 clear h
 replace H:=Option.bind_eq_some_iff.mp H
 obtain ⟨t135,A20,H⟩:=H
 replace H:(if t135=true then (some true) else (if a0≥48 then (if a0≤57 then (some true) else (if a0=46 then (some true) else (some (a0 == 36)))) else (if a0=46 then (some true) else (some (a0 == 36)))))=some r:=H
 have A2:=As0.mk A20
 clear A20
 by_cases c3:t135=true
 ·subst c3
  have H1:(some true)=some r:=by rw [if_pos rfl] at H;exact H
  clear H
  have H:=H1
  clear H1
  obtain rfl:=Option.some.inj H
  go_enter Try.func96,Try.ntmps96
  go_wp2_with (first|((with_reducible refine gate_callee (f:=95) rfl ?_);refine goesL_ (some 4) rfl rfl Try.func95 (by kernel_rfl) rfl #[.int .u8 a0] rfl (by (try simp only [List.map_toArray,List.map_cons,List.map_nil]);first|done|rfl|(simp only [List.length_drop,List.length_take];rfl)) ?_;(with_reducible refine (spindleref5_letter.calls a0 true _ A2.out).mono ?_);rintro e w' ⟨rfl,⟨nd,rfl⟩⟩;refine ⟨_,rfl,?_⟩))
  go_ret
  exact ⟨by first|rfl|(simp;done)|(simp [*];done),by repeat (first|exact Drawn0.refl _|apply Drawn0.step)⟩
 ·replace c3:=Bool.eq_false_iff.mpr c3
  subst c3
  have H1:(if a0≥48 then (if a0≤57 then (some true) else (if a0=46 then (some true) else (some (a0 == 36)))) else (if a0=46 then (some true) else (some (a0 == 36))))=some r:=by rw [if_neg (show ¬ (false=true) by decide)] at H;exact H
  clear H
  have H:=H1
  clear H1
  by_cases c4:a0≥48
  ·rw [if_pos c4] at H
   have c4b0:decide (48≤a0)=true:=decide_eq_true c4
   clear c4
   by_cases c5:a0≤57
   ·rw [if_pos c5] at H
    have c5b0:decide (a0≤57)=true:=decide_eq_true c5
    clear c5
    obtain rfl:=Option.some.inj H
    go_enter Try.func96,Try.ntmps96
    go_wp2_with (first|((with_reducible refine gate_callee (f:=95) rfl ?_);refine goesL_ (some 4) rfl rfl Try.func95 (by kernel_rfl) rfl #[.int .u8 a0] rfl (by (try simp only [List.map_toArray,List.map_cons,List.map_nil]);first|done|rfl|(simp only [List.length_drop,List.length_take];rfl)) ?_;(with_reducible refine (spindleref5_letter.calls a0 false _ A2.out).mono ?_);rintro e w' ⟨rfl,⟨nd,rfl⟩⟩;refine ⟨_,rfl,?_⟩))
    go_ret
    exact ⟨by first|rfl|(simp;done)|(simp [*];done),by repeat (first|exact Drawn0.refl _|apply Drawn0.step)⟩
   ·rw [if_neg c5] at H
    have c5b0:decide (a0≤57)=false:=decide_eq_false c5
    clear c5
    by_cases c6:a0=46
    ·rw [if_pos c6] at H
     have c6b0:(a0 == 46)=true:=beq_iff_eq.mpr c6
     have c6b1:(a0 != 46)=false:=bne_eq_false_iff_eq.mpr c6
     clear c6
     obtain rfl:=Option.some.inj H
     go_enter Try.func96,Try.ntmps96
     go_wp2_with (first|((with_reducible refine gate_callee (f:=95) rfl ?_);refine goesL_ (some 4) rfl rfl Try.func95 (by kernel_rfl) rfl #[.int .u8 a0] rfl (by (try simp only [List.map_toArray,List.map_cons,List.map_nil]);first|done|rfl|(simp only [List.length_drop,List.length_take];rfl)) ?_;(with_reducible refine (spindleref5_letter.calls a0 false _ A2.out).mono ?_);rintro e w' ⟨rfl,⟨nd,rfl⟩⟩;refine ⟨_,rfl,?_⟩))
     go_ret
     exact ⟨by first|rfl|(simp;done)|(simp [*];done),by repeat (first|exact Drawn0.refl _|apply Drawn0.step)⟩
    ·rw [if_neg c6] at H
     have c6b0:(a0 == 46)=false:=beq_eq_false_iff_ne.mpr c6
     have c6b1:(a0 != 46)=true:=bne_iff_ne.mpr c6
     obtain rfl:=Option.some.inj H
     go_enter Try.func96,Try.ntmps96
     go_wp2_with (first|((with_reducible refine gate_callee (f:=95) rfl ?_);refine goesL_ (some 4) rfl rfl Try.func95 (by kernel_rfl) rfl #[.int .u8 a0] rfl (by (try simp only [List.map_toArray,List.map_cons,List.map_nil]);first|done|rfl|(simp only [List.length_drop,List.length_take];rfl)) ?_;(with_reducible refine (spindleref5_letter.calls a0 false _ A2.out).mono ?_);rintro e w' ⟨rfl,⟨nd,rfl⟩⟩;refine ⟨_,rfl,?_⟩))
     go_ret
     exact ⟨by first|rfl|(simp;done)|(simp [*];done),by repeat (first|exact Drawn0.refl _|apply Drawn0.step)⟩
  ·rw [if_neg c4] at H
   have c4b0:decide (48≤a0)=false:=decide_eq_false c4
   clear c4
   by_cases c7:a0=46
   ·rw [if_pos c7] at H
    have c7b0:(a0 == 46)=true:=beq_iff_eq.mpr c7
    have c7b1:(a0 != 46)=false:=bne_eq_false_iff_eq.mpr c7
    clear c7
    obtain rfl:=Option.some.inj H
    go_enter Try.func96,Try.ntmps96
    go_wp2_with (first|((with_reducible refine gate_callee (f:=95) rfl ?_);refine goesL_ (some 4) rfl rfl Try.func95 (by kernel_rfl) rfl #[.int .u8 a0] rfl (by (try simp only [List.map_toArray,List.map_cons,List.map_nil]);first|done|rfl|(simp only [List.length_drop,List.length_take];rfl)) ?_;(with_reducible refine (spindleref5_letter.calls a0 false _ A2.out).mono ?_);rintro e w' ⟨rfl,⟨nd,rfl⟩⟩;refine ⟨_,rfl,?_⟩))
    go_ret
    exact ⟨by first|rfl|(simp;done)|(simp [*];done),by repeat (first|exact Drawn0.refl _|apply Drawn0.step)⟩
   ·rw [if_neg c7] at H
    have c7b0:(a0 == 46)=false:=beq_eq_false_iff_ne.mpr c7
    have c7b1:(a0 != 46)=true:=bne_iff_ne.mpr c7
    obtain rfl:=Option.some.inj H
    go_enter Try.func96,Try.ntmps96
    go_wp2_with (first|((with_reducible refine gate_callee (f:=95) rfl ?_);refine goesL_ (some 4) rfl rfl Try.func95 (by kernel_rfl) rfl #[.int .u8 a0] rfl (by (try simp only [List.map_toArray,List.map_cons,List.map_nil]);first|done|rfl|(simp only [List.length_drop,List.length_take];rfl)) ?_;(with_reducible refine (spindleref5_letter.calls a0 false _ A2.out).mono ?_);rintro e w' ⟨rfl,⟨nd,rfl⟩⟩;refine ⟨_,rfl,?_⟩))
    go_ret
    exact ⟨by first|rfl|(simp;done)|(simp [*];done),by repeat (first|exact Drawn0.refl _|apply Drawn0.step)⟩
end Go.Proofs.Ytbeikcckcjadbaa.PI
end
section
namespace Go.Proofs.Ytbeikcckcjadbaa.Im
theorem leq_less:∀ a b:List UInt8,(Op.bytesLess a b || a == b)=!Op.bytesLess b a
 | [],[]=>by simp [Op.bytesLess]
 | a :: x,[]=>by simp [Op.bytesLess]
 | [],b :: y=>by simp [Op.bytesLess]
 | a :: x,b :: y=>by
  have ih:=leq_less x y
  rcases Nat.lt_trichotomy a.toNat b.toNat with h|h|h
  ·have h1:a<b:=h
   have h2:¬ b<a:=fun h3=>by have h3':b.toNat<a.toNat:=h3;omega
   have h3:¬ b=a:=fun e=>by subst e;omega
   simp [Op.bytesLess,h1,h2,h3]
  ·obtain rfl:a=b:=UInt8.toNat_inj.1 h
   have h2:¬ a<a:=fun h3=>by have h3':a.toNat<a.toNat:=h3;omega
   simpa [Op.bytesLess,h2] using ih
  ·have h1:b<a:=h
   have h2:¬ a<b:=fun h3=>by have h3':a.toNat<b.toNat:=h3;omega
   have h3:¬ a=b:=fun e=>by subst e;omega
   simp [Op.bytesLess,h1,h2,h3]
theorem binOp_leq (t:TypeId) (a b:ByteArray):binOp .leq t (.string a) (.string b)=pure (.bool (!Op.bytesLess b.toList a.toList)):=by
 rw [← leq_less]
 simp [binOp,Op.stringOp]
end Go.Proofs.Ytbeikcckcjadbaa.Im
end
section
namespace Go.Proofs.Ytbeikcckcjadbaa.PI
open Go.RowKit Go.Proofs.YtbeikcckcjadbaaW.PrintWords Go.Proofs.YtbeikcckcjadbaaW.PrintLast Go.Proofs.YtbeikcckcjadbaaW.PrintMore
attribute [local go_sem] isSome_setCell max2_int min2_int max_two min_two max_three min_three max_four min_four
mutual
def spindleref5_Word.j0:Nat→ByteArray→Bool→Option (Bool)
 | 0,_,_=>none
 | k+1,x0,x17=>if x17=true then (some false) else (spindleref5_Word.l0 k x0 0)
def spindleref5_Word.l0:Nat→ByteArray→Int→Option (Bool)
 | 0,_,_=>none
 | k+1,x0,x3=>if x3<(x0.size:Int) then (if 0≤x3 then ((spindleref5_inner.f (bt x0 x3)).bind fun t137=>(if t137=true then (spindleref5_Word.l0 k x0 (wrap64 (x3+1))) else (some false))) else (none)) else (some true)
end
def spindleref5_Word.f (k:Nat) (a0:ByteArray):Option (Bool):=if (a0.size:Int)<1 then (spindleref5_Word.j0 k a0 true) else (if (a0.size:Int) > 64 then (spindleref5_Word.j0 k a0 true) else (if 0<(a0.size:Int) then ((spindleref5_letter.f (bt a0 0)).bind fun t136=>(spindleref5_Word.j0 k a0 (!t136))) else (none)))
theorem spindleref5_Word.calls (k:Nat) (a0:ByteArray) (r:Bool) (w:World) (h:spindleref5_Word.f k a0=some r) :
  Calls Try.prog 81 #[.string a0] w fun e w'=>e=.returned (.bool r)∧Drawn0 w w':=by
 have H:(if (a0.size:Int)<1 then (spindleref5_Word.j0 k a0 true) else (if (a0.size:Int) > 64 then (spindleref5_Word.j0 k a0 true) else (if 0<(a0.size:Int) then ((spindleref5_letter.f (bt a0 0)).bind fun t136=>(spindleref5_Word.j0 k a0 (!t136))) else (none))))=some r:=h
 clear h
 have HC2:=As0.mk H
 clear H
 go_enter Try.func81,Try.ntmps81
 go_upto_region 1 with (fail)
 go_cut [17] (fun v17 wc=>∃ (kq:Nat) (x17_1:Bool),v17=.bool x17_1∧As0 (spindleref5_Word.j0 kq a0 x17_1=some r)∧As0 (kq≤k)∧Drawn0 w wc)
 case first =>
  have H:=HC2.out
  clear HC2
  by_cases c3:(a0.size:Int)<1
  ·rw [if_pos c3] at H
   have c3b0:decide ((a0.size:Int)<1)=true:=decide_eq_true c3
   have c3b1:decide (a0.size<1)=true:=decide_eq_true (by omega)
   clear c3
   (first|rw [c3b0]|(simp only [i64_w,i32_w];rw [c3b0])|skip)
   have H':=As0.mk H
   clear H
   go_wp2
   go_meet
   case rel=>exact ⟨_,(true),(by first|rfl|(simp;done)|(simp [*];done)),H',⟨by first|omega|exact Nat.le_refl _⟩,by repeat (first|exact Drawn0.refl _|apply Drawn0.step)⟩
  ·rw [if_neg c3] at H
   have c3b0:decide ((a0.size:Int)<1)=false:=decide_eq_false c3
   have c3b1:decide (a0.size<1)=false:=decide_eq_false (by omega)
   clear c3
   (first|rw [c3b0]|(simp only [i64_w,i32_w];rw [c3b0])|skip)
   by_cases c4:(a0.size:Int) > 64
   ·rw [if_pos c4] at H
    have c4b0:decide (64<(a0.size:Int))=true:=decide_eq_true c4
    have c4b1:decide (64<a0.size)=true:=decide_eq_true (by omega)
    clear c4
    have H':=As0.mk H
    clear H
    go_wp2
    go_meet
    case rel=>exact ⟨_,(true),(by first|rfl|(simp;done)|(simp [*];done)),H',⟨by first|omega|exact Nat.le_refl _⟩,by repeat (first|exact Drawn0.refl _|apply Drawn0.step)⟩
   ·rw [if_neg c4] at H
    have c4b0:decide (64<(a0.size:Int))=false:=decide_eq_false c4
    have c4b1:decide (64<a0.size)=false:=decide_eq_false (by omega)
    clear c4
    by_cases c5:0<(a0.size:Int)
    ·rw [if_pos c5] at H
     have c5b0:decide (0<(a0.size:Int))=true:=decide_eq_true c5
     have c5b1:decide (0<a0.size)=true:=decide_eq_true (by omega)
     clear c5
     replace H:=Option.bind_eq_some_iff.mp H
     obtain ⟨t136,A70,H⟩:=H
     replace H:(spindleref5_Word.j0 k a0 (!t136))=some r:=H
     have A7:=As0.mk A70
     clear A70
     have H':=As0.mk H
     clear H
     have p6:0≤(0:Int):=(by omega)
     have q6:0<a0.size:=(by have:(0:Int)<(a0.size:Int):=of_decide_eq_true (by first|(with_reducible assumption)|assumption);omega)
     have hx6:∀ h:0<a0.size,((a0[0]'h).toNat:Int)=bt a0 0:=bt_at a0 0
     clear p6
     have qi6:(0<(a0.size:Int))=True:=eq_true (of_decide_eq_true (by first|(with_reducible assumption)|assumption))
     replace q6:=eq_true q6
     go_wp2_with (first|(go_at_call 95;(with_reducible refine (spindleref5_letter.calls (bt a0 0) t136 _ A7.out).mono ?_);rintro e w' ⟨rfl,⟨nd,rfl⟩⟩))
     go_meet
     case rel=>exact ⟨_,(!t136),(by first|rfl|(simp;done)|(simp [*];done)),H',⟨by first|omega|exact Nat.le_refl _⟩,by repeat (first|exact Drawn0.refl _|apply Drawn0.step)⟩
    ·rw [if_neg c5] at H
     exact absurd H (by simp)
 case rest =>
  clear HC2
  try clear p2
  try clear c3
  try clear c3b0
  try clear c3b1
  try clear c4
  try clear c4b0
  try clear c4b1
  try clear c5
  try clear c5b0
  try clear c5b1
  try clear p6
  try clear q6
  try clear hx6
  try clear qi6
  try clear p6
  try clear q6
  obtain ⟨kq,x17_1,rfl,HA,HJ1,⟨mc1,rfl⟩⟩:=hcut
  cases kq with
  | zero=>exact absurd HA.out (by simp [spindleref5_Word.j0])
  | succ kj1 =>
   have H:=HA.out
   clear HA
   simp only [spindleref5_Word.j0] at H
   by_cases c8:x17_1=true
   ·subst c8
    have H1:(some false)=some r:=by rw [if_pos rfl] at H;exact H
    clear H
    have H:=H1
    clear H1
    obtain rfl:=Option.some.inj H
    go_wp2
    go_ret
    exact ⟨by first|rfl|(simp;done)|(simp [*];done),by repeat (first|exact Drawn0.refl _|apply Drawn0.step)⟩
   ·replace c8:=Bool.eq_false_iff.mpr c8
    subst c8
    have H1:(spindleref5_Word.l0 kj1 a0 0)=some r:=by rw [if_neg (show ¬ (false=true) by decide)] at H;exact H
    clear H
    have H:=H1
    clear H1
    have H':=As0.mk H
    clear H
    go_wp2
    go_loopg [3] kj1 (fun kq v3 w'=>∃ (x3_2:Int),v3=.int .i64 x3_2∧As0 (spindleref5_Word.l0 kq a0 x3_2=some r)∧As0 (kq≤kj1)∧Drawn0 w w')
    case atStart=>exact ⟨(0),(by first|rfl|(simp;done)|(simp [*];done)),H',⟨Nat.le_refl _⟩,by repeat (first|exact Drawn0.refl _|apply Drawn0.step)⟩
    case round =>
     clear H'
     try clear c1
     try clear p2
     try clear c3
     try clear c3b0
     try clear c3b1
     try clear c4
     try clear c4b0
     try clear c4b1
     try clear c5
     try clear c5b0
     try clear c5b1
     try clear p6
     try clear q6
     try clear hx6
     try clear qi6
     try clear c8
     try clear p2
     try clear p6
     try clear q6
     obtain ⟨x3_2,rfl,HA,HK2,⟨m2,rfl⟩⟩:=hrel
     cases gk with
     | zero=>exact absurd HA.out (by simp [spindleref5_Word.l0])
     | succ k2 =>
      have H:=HA.out
      clear HA
      simp only [spindleref5_Word.l0] at H
      by_cases c9:x3_2<(a0.size:Int)
      ·rw [if_pos c9] at H
       have c9b0:decide (x3_2<(a0.size:Int))=true:=decide_eq_true c9
       clear c9
       by_cases c10:0≤x3_2
       ·rw [if_pos c10] at H
        have c10b0:decide (0≤x3_2)=true:=decide_eq_true c10
        clear c10
        replace H:=Option.bind_eq_some_iff.mp H
        obtain ⟨t137,A120,H⟩:=H
        replace H:(if t137=true then (spindleref5_Word.l0 k2 a0 (wrap64 (x3_2+1))) else (some false))=some r:=H
        have A12:=As0.mk A120
        clear A120
        by_cases c13:t137=true
        ·subst c13
         have H1:(spindleref5_Word.l0 k2 a0 (wrap64 (x3_2+1)))=some r:=by rw [if_pos rfl] at H;exact H
         clear H
         have H:=H1
         clear H1
         have H':=As0.mk H
         clear H
         have p11:0≤(x3_2:Int):=of_decide_eq_true (by first|(with_reducible assumption)|assumption)
         have q11:x3_2<(a0.size:Int):=of_decide_eq_true (by first|(with_reducible assumption)|assumption)
         have hx11:=bt_at a0 x3_2
         replace p11:=eq_true p11
         replace q11:=eq_true q11
         go_wp2_with (first|((with_reducible refine gate_callee (f:=96) rfl ?_);refine goesL_ (some 27) rfl rfl Try.func96 (by kernel_rfl) rfl #[.int .u8 (bt a0 x3_2)] rfl (by (try simp only [List.map_toArray,List.map_cons,List.map_nil]);first|done|rfl|(simp only [List.length_drop,List.length_take];rfl)) ?_;(with_reducible refine (spindleref5_inner.calls (bt a0 x3_2) true _ A12.out).mono ?_);rintro e w' ⟨rfl,⟨nd,rfl⟩⟩;refine ⟨_,rfl,?_⟩))
         go_roundg k2
         case measure=>have:=HJ1.out;have:=HK2.out;omega
         case rel=>exact ⟨(wrap64 (x3_2+1)),(by first|rfl|(simp;done)|(simp [*];done)),H',⟨by have:=HJ1.out;have:=HK2.out;omega⟩,by repeat (first|exact Drawn0.refl _|apply Drawn0.step)⟩
        ·replace c13:=Bool.eq_false_iff.mpr c13
         subst c13
         have H1:(some false)=some r:=by rw [if_neg (show ¬ (false=true) by decide)] at H;exact H
         clear H
         have H:=H1
         clear H1
         obtain rfl:=Option.some.inj H
         have p11:0≤(x3_2:Int):=of_decide_eq_true (by first|(with_reducible assumption)|assumption)
         have q11:x3_2<(a0.size:Int):=of_decide_eq_true (by first|(with_reducible assumption)|assumption)
         have hx11:=bt_at a0 x3_2
         replace p11:=eq_true p11
         replace q11:=eq_true q11
         go_wp2_with (first|((with_reducible refine gate_callee (f:=96) rfl ?_);refine goesL_ (some 27) rfl rfl Try.func96 (by kernel_rfl) rfl #[.int .u8 (bt a0 x3_2)] rfl (by (try simp only [List.map_toArray,List.map_cons,List.map_nil]);first|done|rfl|(simp only [List.length_drop,List.length_take];rfl)) ?_;(with_reducible refine (spindleref5_inner.calls (bt a0 x3_2) false _ A12.out).mono ?_);rintro e w' ⟨rfl,⟨nd,rfl⟩⟩;refine ⟨_,rfl,?_⟩))
         go_ret
         exact ⟨by first|rfl|(simp;done)|(simp [*];done),by repeat (first|exact Drawn0.refl _|apply Drawn0.step)⟩
       ·rw [if_neg c10] at H
        exact absurd H (by simp)
      ·rw [if_neg c9] at H
       have c9b0:decide (x3_2<(a0.size:Int))=false:=decide_eq_false c9
       clear c9
       obtain rfl:=Option.some.inj H
       go_wp2
       go_ret
       exact ⟨by first|rfl|(simp;done)|(simp [*];done),by repeat (first|exact Drawn0.refl _|apply Drawn0.step)⟩
end Go.Proofs.Ytbeikcckcjadbaa.PI
end
section
namespace Go.Proofs.Ytbeikcckcjadbaa.PI
open Go.RowKit Go.Proofs.YtbeikcckcjadbaaW.PrintWords Go.Proofs.YtbeikcckcjadbaaW.PrintLast Go.Proofs.YtbeikcckcjadbaaW.PrintMore
attribute [local go_sem] Go.Proofs.Ytbeikcckcjadbaa.Im.binOp_leq isSome_setCell max2_int min2_int max_two min_two max_three min_three max_four min_four
mutual
def sr17n.l0:Nat→Int→List (S54)→List (S68)→List (S56)→Int→Option (Int)
 | 0,_,_,_,_,_=>none
 | k+1,x3,x139000,x139001,x139002,x139003=>if x3<(x139001.length:Int) then (if 0≤x3 then ((spindleref5_Word.f k ((rd_T68 x139001 x3).f0)).bind fun t141=>(if t141=true then (if ((rd_T68 x139001 x3).f1)<0 then (sr17n.j1 k x3 true x139000 x139001 x139002 x139003 ((rd_T68 x139001 x3).f0) ((rd_T68 x139001 x3).f1) ((rd_T68 x139001 x3).f2) ((rd_T68 x139001 x3).f3)) else (sr17n.j1 k x3 (decide (((rd_T68 x139001 x3).f1)≥64)) x139000 x139001 x139002 x139003 ((rd_T68 x139001 x3).f0) ((rd_T68 x139001 x3).f1) ((rd_T68 x139001 x3).f2) ((rd_T68 x139001 x3).f3))) else (sr17n.j1 k x3 true x139000 x139001 x139002 x139003 ((rd_T68 x139001 x3).f0) ((rd_T68 x139001 x3).f1) ((rd_T68 x139001 x3).f2) ((rd_T68 x139001 x3).f3)))) else (none)) else (sr17n.l2 k 0 x139000 x139001 x139002 x139003)
def sr17n.j1:Nat→Int→Bool→List (S54)→List (S68)→List (S56)→Int→ByteArray→Int→Int→Int→Option (Int)
 | 0,_,_,_,_,_,_,_,_,_,_=>none
 | k+1,x3,x35,x139000,x139001,x139002,x139003,x141000,x141001,x141002,x141003=>if x35=true then (some x3) else (sr17n.l1 k x3 0 x139000 x139001 x139002 x139003 x141000 x141001 x141002 x141003)
def sr17n.l1:Nat→Int→Int→List (S54)→List (S68)→List (S56)→Int→ByteArray→Int→Int→Int→Option (Int)
 | 0,_,_,_,_,_,_,_,_,_,_=>none
 | k+1,x3,x6,x139000,x139001,x139002,x139003,x141000,x141001,x141002,x141003=>if x6<x3 then (if 0≤x6 then (if x6<(x139001.length:Int) then (if ((rd_T68 x139001 x6).f0).toList=x141000.toList then (if ((rd_T68 x139001 x6).f1)=x141001 then (some x3) else (sr17n.l1 k x3 (wrap64 (x6+1)) x139000 x139001 x139002 x139003 x141000 x141001 x141002 x141003)) else (sr17n.l1 k x3 (wrap64 (x6+1)) x139000 x139001 x139002 x139003 x141000 x141001 x141002 x141003)) else (none)) else (none)) else (sr17n.l0 k (wrap64 (x3+1)) x139000 x139001 x139002 x139003)
def sr17n.l2:Nat→Int→List (S54)→List (S68)→List (S56)→Int→Option (Int)
 | 0,_,_,_,_,_=>none
 | k+1,x7,x139000,x139001,x139002,x139003=>if x7<(x139002.length:Int) then (if 0≤x7 then ((spindleref5_Word.f k ((rd_T56 x139002 x7).f0)).bind fun t145=>(if t145=true then (if x7 > 0 then (if 0≤(wrap64 (x7 - 1)) then (if (wrap64 (x7 - 1))<(x139002.length:Int) then (if ((Op.bytesLess (((rd_T56 x139002 (wrap64 (x7 - 1))).f0).toList) (((rd_T56 x139002 x7).f0).toList))=true) then (sr17n.l2 k (wrap64 (x7+1)) x139000 x139001 x139002 x139003) else (some (wrap64 ((x139001.length:Int)+x7)))) else (none)) else (none)) else (sr17n.l2 k (wrap64 (x7+1)) x139000 x139001 x139002 x139003)) else (some (wrap64 ((x139001.length:Int)+x7))))) else (none)) else (some (-1))
end
def sr17n.f (k:Nat) (l0_0:List (S54)) (l0_1:List (S68)) (l0_2:List (S56)) (a0_3:Int):Option (Int):=sr17n.l0 k 0 l0_0 l0_1 l0_2 a0_3
theorem sr17n.calls (k:Nat) (A0_0:Option Addr) (c0_0:Nat) (l0_0:List (S54)) (A0_1:Option Addr) (c0_1:Nat) (l0_1:List (S68)) (A0_2:Option Addr) (c0_2:Nat) (l0_2:List (S56)) (a0_3:Int) (r:Int) (w:World) (hr0_0:Kd.C k54 w A0_0 l0_0.length l0_0) (hc0_0:l0_0.length≤c0_0) (hr0_1:Kd.C k68 w A0_1 l0_1.length l0_1) (hc0_1:l0_1.length≤c0_1) (hr0_2:Kd.C k56 w A0_2 l0_2.length l0_2) (hc0_2:l0_2.length≤c0_2) (h:sr17n.f k l0_0 l0_1 l0_2 a0_3=some r) :
  Calls Try.prog 50 #[.agg #[.slice A0_0 l0_0.length c0_0,.slice A0_1 l0_1.length c0_1,.slice A0_2 l0_2.length c0_2,.int .i64 a0_3]] w fun e w'=>e=.returned (.int .i64 r)∧Below w.heap.size w w':=by
 have hu26:=Try.underlying26
 have hu68:=Try.underlying68
 have HR0_0:=As0.mk hr0_0
 have HC0_0:=As0.mk hc0_0
 clear hr0_0 hc0_0
 have HR0_1:=As0.mk hr0_1
 have HC0_1:=As0.mk hc0_1
 clear hr0_1 hc0_1
 have HR0_2:=As0.mk hr0_2
 have HC0_2:=As0.mk hc0_2
 clear hr0_2 hc0_2
 have HB:=As0.mk (Below.refl w.heap.size w)
 have H:(sr17n.l0 k 0 l0_0 l0_1 l0_2 a0_3)=some r:=h
 clear h
 have H':=As0.mk H
 clear H
 go_enter Try.func50,Try.ntmps50
 go_wp2_with (first|((with_reducible refine gtD (N:=1) rfl ?_);refine bxE ?hg (N:=1) ?hd (cs:=#[.slice A0_0 l0_0.length c0_0,.slice A0_1 l0_1.length c0_1,.slice A0_2 l0_2.length c0_2,.int .i64 a0_3]) (t:=26) ?hr ?_;(case hd=>rfl);(case hg=>rfl);(case hr=>first|(go_simp;done)|(go_simp;rfl));intro gb138 hg w2 hbox hb;have n0_:=As0.mk (bdT (by repeat (first|(with_reducible first|exact HB.out|apply bdA|apply bdN|apply bd1)|exact HB.out)) hb);have n1_:=As0.mk (hbox);have n2_:=As0.mk ((by rw [hg];exact (bdZ (by repeat (first|(with_reducible first|exact HB.out|apply bdA|apply bdN|apply bd1)|exact HB.out))):w.heap.size≤gb138));have n3_:=As0.mk ((by rw [hg];exact (bdZ (by repeat (first|(with_reducible first|exact HB.out|apply bdA|apply bdN|apply bd1)|exact HB.out))):w.heap.size≤gb138));clear HB;have HB:=n0_;have BK138:=n1_;have GW138:=n2_;have GE138:=n3_;clear n0_ n1_ n2_ n3_;clear hb hbox hg))
 repeat (go_quiet (first|((with_reducible refine gtD (N:=1) rfl ?_);refine bxE ?hg (N:=1) ?hd (cs:=#[.slice A0_0 l0_0.length c0_0,.slice A0_1 l0_1.length c0_1,.slice A0_2 l0_2.length c0_2,.int .i64 a0_3]) (t:=26) ?hr ?_;(case hd=>rfl);(case hg=>rfl);(case hr=>first|(go_simp;done)|(go_simp;rfl));intro gb138 hg w2 hbox hb;have n0_:=As0.mk (bdT (by repeat (first|(with_reducible first|exact HB.out|apply bdA|apply bdN|apply bd1)|exact HB.out)) hb);have n1_:=As0.mk (hbox);have n2_:=As0.mk ((by rw [hg];exact (bdZ (by repeat (first|(with_reducible first|exact HB.out|apply bdA|apply bdN|apply bd1)|exact HB.out))):w.heap.size≤gb138));have n3_:=As0.mk ((by rw [hg];exact (bdZ (by repeat (first|(with_reducible first|exact HB.out|apply bdA|apply bdN|apply bd1)|exact HB.out))):w.heap.size≤gb138));clear HB;have HB:=n0_;have BK138:=n1_;have GW138:=n2_;have GE138:=n3_;clear n0_ n1_ n2_ n3_;clear hb hbox hg));try go_wp2_with (first|((with_reducible refine gtD (N:=1) rfl ?_);refine bxE ?hg (N:=1) ?hd (cs:=#[.slice A0_0 l0_0.length c0_0,.slice A0_1 l0_1.length c0_1,.slice A0_2 l0_2.length c0_2,.int .i64 a0_3]) (t:=26) ?hr ?_;(case hd=>rfl);(case hg=>rfl);(case hr=>first|(go_simp;done)|(go_simp;rfl));intro gb138 hg w2 hbox hb;have n0_:=As0.mk (bdT (by repeat (first|(with_reducible first|exact HB.out|apply bdA|apply bdN|apply bd1)|exact HB.out)) hb);have n1_:=As0.mk (hbox);have n2_:=As0.mk ((by rw [hg];exact (bdZ (by repeat (first|(with_reducible first|exact HB.out|apply bdA|apply bdN|apply bd1)|exact HB.out))):w.heap.size≤gb138));have n3_:=As0.mk ((by rw [hg];exact (bdZ (by repeat (first|(with_reducible first|exact HB.out|apply bdA|apply bdN|apply bd1)|exact HB.out))):w.heap.size≤gb138));clear HB;have HB:=n0_;have BK138:=n1_;have GW138:=n2_;have GE138:=n3_;clear n0_ n1_ n2_ n3_;clear hb hbox hg)))
 go_loopg [3] k (fun kq v3 w'=>∃ (x3_1:Int),v3=.int .i64 x3_1∧As0 (sr17n.l0 kq x3_1 l0_0 l0_1 l0_2 a0_3=some r)∧As0 (kq≤k)∧As0 (w'.heap[gb138]?=some (.cells #[(.slice A0_0 l0_0.length c0_0),(.slice A0_1 l0_1.length c0_1),(.slice A0_2 l0_2.length c0_2),.int .i64 a0_3] 26 (0,0)))∧As0 (Below w.heap.size w w'))
 case atStart=>exact ⟨(0),(by first|rfl|(simp;done)|(simp [*];done)),H',⟨Nat.le_refl _⟩,⟨by (with_reducible repeat (first|refine bkN ?_ _|refine bkD ?_|refine bkA ?_ _));exact BK138.out⟩,⟨by repeat (first|(with_reducible first|exact HB.out|apply bdA|apply bdN|apply bd1|refine bdS ?_ GE138.out)|exact HB.out)⟩⟩
 case round =>
  clear H'
  try clear p2
  obtain ⟨x3_1,rfl,HA,HK1,BK138,HB⟩:=hrel
  cases gk with
  | zero=>exact absurd HA.out (by simp [sr17n.l0])
  | succ k1 =>
   have H:=HA.out
   clear HA
   simp only [sr17n.l0] at H
   by_cases c3:x3_1<(l0_1.length:Int)
   ·rw [if_pos c3] at H
    have c3b0:decide (x3_1<(l0_1.length:Int))=true:=decide_eq_true c3
    clear c3
    by_cases c4:0≤x3_1
    ·rw [if_pos c4] at H
     have c4b0:decide (0≤x3_1)=true:=decide_eq_true c4
     clear c4
     replace H:=Option.bind_eq_some_iff.mp H
     obtain ⟨t141,A50,H⟩:=H
     replace H:(if t141=true then (if ((rd_T68 l0_1 x3_1).f1)<0 then (sr17n.j1 k1 x3_1 true l0_0 l0_1 l0_2 a0_3 ((rd_T68 l0_1 x3_1).f0) ((rd_T68 l0_1 x3_1).f1) ((rd_T68 l0_1 x3_1).f2) ((rd_T68 l0_1 x3_1).f3)) else (sr17n.j1 k1 x3_1 (decide (((rd_T68 l0_1 x3_1).f1)≥64)) l0_0 l0_1 l0_2 a0_3 ((rd_T68 l0_1 x3_1).f0) ((rd_T68 l0_1 x3_1).f1) ((rd_T68 l0_1 x3_1).f2) ((rd_T68 l0_1 x3_1).f3))) else (sr17n.j1 k1 x3_1 true l0_0 l0_1 l0_2 a0_3 ((rd_T68 l0_1 x3_1).f0) ((rd_T68 l0_1 x3_1).f1) ((rd_T68 l0_1 x3_1).f2) ((rd_T68 l0_1 x3_1).f3)))=some r:=H
     have A5:=As0.mk A50
     clear A50
     have HC6:=As0.mk H
     clear H
     have hcz7_0:wr.cell? ⟨gb138,0,none⟩=some (.slice A0_0 l0_0.length c0_0):=(bkC BK138.out 0).trans rfl
     have hcz7_1:wr.cell? ⟨gb138,1,none⟩=some (.slice A0_1 l0_1.length c0_1):=(bkC BK138.out 1).trans rfl
     have hcz7_2:wr.cell? ⟨gb138,2,none⟩=some (.slice A0_2 l0_2.length c0_2):=(bkC BK138.out 2).trans rfl
     have hcz7_3:wr.cell? ⟨gb138,3,none⟩=some (.int .i64 a0_3):=(bkC BK138.out 3).trans rfl
     have hfz7_0:=bkF BK138.out 0
     have hfz7_1:=bkF BK138.out 1
     have hfz7_2:=bkF BK138.out 2
     have hfz7_3:=bkF BK138.out 3
     have p139:0≤(x3_1:Int):=of_decide_eq_true (by first|(with_reducible assumption)|assumption)
     have q139:x3_1<(l0_1.length:Int):=of_decide_eq_true (by first|(with_reducible assumption)|assumption)
     obtain ⟨ad139,e139,hx139_0,hx139_1,hx139_2,hx139_3⟩:=at_T68 HR0_1.out x3_1 p139 q139
     cases e139
     replace hx139_0:=(HB.out.cell (World.block_lt_of_cell? w _ hx139_0)).trans hx139_0
     replace hx139_1:=(HB.out.cell (World.block_lt_of_cell? w _ hx139_1)).trans hx139_1
     replace hx139_2:=(HB.out.cell (World.block_lt_of_cell? w _ hx139_2)).trans hx139_2
     replace hx139_3:=(HB.out.cell (World.block_lt_of_cell? w _ hx139_3)).trans hx139_3
     replace p139:=eq_true p139
     replace q139:=eq_true q139
     go_upto_region 6 with (first|((with_reducible refine gtD (N:=4) rfl ?_);refine bxE ?hg (N:=4) ?hd (cs:=#[.string (⟨#[]⟩:ByteArray),.int .i64 0,.int .i64 0,.int .i64 0]) (t:=68) ?hr ?_;(case hd=>rfl);(case hg=>rfl);(case hr=>first|(go_simp;done)|(go_simp;rfl));intro gb140 hg w8 hbox hb;have n0_:=As0.mk (bkB (g:=gb138) (o:=.cells #[.slice A0_0 l0_0.length c0_0,.slice (some ad139) l0_1.length c0_1,.slice A0_2 l0_2.length c0_2,.int .i64 a0_3] 26 (0,0)) (by (with_reducible repeat (first|refine bkN ?_ _|refine bkD ?_|refine bkA ?_ _));exact BK138.out) hb);have n1_:=As0.mk (bdT (by repeat (first|(with_reducible first|exact HB.out|apply bdA|apply bdN|apply bd1|refine bdS ?_ GE138.out)|exact HB.out)) hb);have n2_:=As0.mk (hbox);have n3_:=As0.mk ((by rw [hg];exact (bdZ (by repeat (first|(with_reducible first|exact HB.out|apply bdA|apply bdN|apply bd1|refine bdS ?_ GE138.out)|exact HB.out))):w.heap.size≤gb140));have n4_:=As0.mk ((by rw [hg];exact (bdZ (by repeat (first|(with_reducible first|exact HB.out|apply bdA|apply bdN|apply bd1|refine bdS ?_ GE138.out)|exact HB.out))):w.heap.size≤gb140));have n5_:=As0.mk ((by rw [hg];exact Nat.ne_of_lt (blk_lt (g:=gb138) (o:=.cells #[.slice A0_0 l0_0.length c0_0,.slice (some ad139) l0_1.length c0_1,.slice A0_2 l0_2.length c0_2,.int .i64 a0_3] 26 (0,0)) (by (with_reducible repeat (first|refine bkN ?_ _|refine bkD ?_|refine bkA ?_ _));exact BK138.out)):gb138≠gb140));have n6_:=As0.mk ((by rw [hg];exact Nat.ne_of_gt (blk_lt (g:=gb138) (o:=.cells #[.slice A0_0 l0_0.length c0_0,.slice (some ad139) l0_1.length c0_1,.slice A0_2 l0_2.length c0_2,.int .i64 a0_3] 26 (0,0)) (by (with_reducible repeat (first|refine bkN ?_ _|refine bkD ?_|refine bkA ?_ _));exact BK138.out)):gb140≠gb138));clear BK138;clear HB;have BK138:=n0_;have HB:=n1_;have BK140:=n2_;have GW140:=n3_;have GE140:=n4_;have NB138_140:=n5_;have NB140_138:=n6_;clear n0_ n1_ n2_ n3_ n4_ n5_ n6_;clear hb hbox hg;have hnb9:=NB140_138.out;have hnc9:=NB138_140.out;have hcz10_0:w8.cell? ⟨gb140,0,none⟩=some (.string (⟨#[]⟩:ByteArray)):=(bkC BK140.out 0).trans rfl;have hcz10_1:w8.cell? ⟨gb140,1,none⟩=some (.int .i64 0):=(bkC BK140.out 1).trans rfl;have hcz10_2:w8.cell? ⟨gb140,2,none⟩=some (.int .i64 0):=(bkC BK140.out 2).trans rfl;have hcz10_3:w8.cell? ⟨gb140,3,none⟩=some (.int .i64 0):=(bkC BK140.out 3).trans rfl;have hfz10_0:=bkF BK140.out 0;have hfz10_1:=bkF BK140.out 1;have hfz10_2:=bkF BK140.out 2;have hfz10_3:=bkF BK140.out 3)|(go_at_call 81;(with_reducible refine (spindleref5_Word.calls k1 ((rd_T68 l0_1 x3_1).f0) t141 _ A5.out).mono ?_);rintro e w' ⟨rfl,⟨nd,rfl⟩⟩;(try first|exact ⟨rfl,_,World.drewN_drewN _ _ _⟩|exact ⟨rfl,_,Eq.trans (World.drewN_drewN _ _ _) (congrArg (World.drewN _) (Nat.add_assoc _ _ _))⟩)))
     repeat (go_quiet (first|((with_reducible refine gtD (N:=4) rfl ?_);refine bxE ?hg (N:=4) ?hd (cs:=#[.string (⟨#[]⟩:ByteArray),.int .i64 0,.int .i64 0,.int .i64 0]) (t:=68) ?hr ?_;(case hd=>rfl);(case hg=>rfl);(case hr=>first|(go_simp;done)|(go_simp;rfl));intro gb140 hg w8 hbox hb;have n0_:=As0.mk (bkB (g:=gb138) (o:=.cells #[.slice A0_0 l0_0.length c0_0,.slice (some ad139) l0_1.length c0_1,.slice A0_2 l0_2.length c0_2,.int .i64 a0_3] 26 (0,0)) (by (with_reducible repeat (first|refine bkN ?_ _|refine bkD ?_|refine bkA ?_ _));exact BK138.out) hb);have n1_:=As0.mk (bdT (by repeat (first|(with_reducible first|exact HB.out|apply bdA|apply bdN|apply bd1|refine bdS ?_ GE138.out)|exact HB.out)) hb);have n2_:=As0.mk (hbox);have n3_:=As0.mk ((by rw [hg];exact (bdZ (by repeat (first|(with_reducible first|exact HB.out|apply bdA|apply bdN|apply bd1|refine bdS ?_ GE138.out)|exact HB.out))):w.heap.size≤gb140));have n4_:=As0.mk ((by rw [hg];exact (bdZ (by repeat (first|(with_reducible first|exact HB.out|apply bdA|apply bdN|apply bd1|refine bdS ?_ GE138.out)|exact HB.out))):w.heap.size≤gb140));have n5_:=As0.mk ((by rw [hg];exact Nat.ne_of_lt (blk_lt (g:=gb138) (o:=.cells #[.slice A0_0 l0_0.length c0_0,.slice (some ad139) l0_1.length c0_1,.slice A0_2 l0_2.length c0_2,.int .i64 a0_3] 26 (0,0)) (by (with_reducible repeat (first|refine bkN ?_ _|refine bkD ?_|refine bkA ?_ _));exact BK138.out)):gb138≠gb140));have n6_:=As0.mk ((by rw [hg];exact Nat.ne_of_gt (blk_lt (g:=gb138) (o:=.cells #[.slice A0_0 l0_0.length c0_0,.slice (some ad139) l0_1.length c0_1,.slice A0_2 l0_2.length c0_2,.int .i64 a0_3] 26 (0,0)) (by (with_reducible repeat (first|refine bkN ?_ _|refine bkD ?_|refine bkA ?_ _));exact BK138.out)):gb140≠gb138));clear BK138;clear HB;have BK138:=n0_;have HB:=n1_;have BK140:=n2_;have GW140:=n3_;have GE140:=n4_;have NB138_140:=n5_;have NB140_138:=n6_;clear n0_ n1_ n2_ n3_ n4_ n5_ n6_;clear hb hbox hg;have hnb9:=NB140_138.out;have hnc9:=NB138_140.out;have hcz10_0:w8.cell? ⟨gb140,0,none⟩=some (.string (⟨#[]⟩:ByteArray)):=(bkC BK140.out 0).trans rfl;have hcz10_1:w8.cell? ⟨gb140,1,none⟩=some (.int .i64 0):=(bkC BK140.out 1).trans rfl;have hcz10_2:w8.cell? ⟨gb140,2,none⟩=some (.int .i64 0):=(bkC BK140.out 2).trans rfl;have hcz10_3:w8.cell? ⟨gb140,3,none⟩=some (.int .i64 0):=(bkC BK140.out 3).trans rfl;have hfz10_0:=bkF BK140.out 0;have hfz10_1:=bkF BK140.out 1;have hfz10_2:=bkF BK140.out 2;have hfz10_3:=bkF BK140.out 3)|(go_at_call 81;(with_reducible refine (spindleref5_Word.calls k1 ((rd_T68 l0_1 x3_1).f0) t141 _ A5.out).mono ?_);rintro e w' ⟨rfl,⟨nd,rfl⟩⟩;(try first|exact ⟨rfl,_,World.drewN_drewN _ _ _⟩|exact ⟨rfl,_,Eq.trans (World.drewN_drewN _ _ _) (congrArg (World.drewN _) (Nat.add_assoc _ _ _))⟩)));go_upto_region 6 with (first|((with_reducible refine gtD (N:=4) rfl ?_);refine bxE ?hg (N:=4) ?hd (cs:=#[.string (⟨#[]⟩:ByteArray),.int .i64 0,.int .i64 0,.int .i64 0]) (t:=68) ?hr ?_;(case hd=>rfl);(case hg=>rfl);(case hr=>first|(go_simp;done)|(go_simp;rfl));intro gb140 hg w8 hbox hb;have n0_:=As0.mk (bkB (g:=gb138) (o:=.cells #[.slice A0_0 l0_0.length c0_0,.slice (some ad139) l0_1.length c0_1,.slice A0_2 l0_2.length c0_2,.int .i64 a0_3] 26 (0,0)) (by (with_reducible repeat (first|refine bkN ?_ _|refine bkD ?_|refine bkA ?_ _));exact BK138.out) hb);have n1_:=As0.mk (bdT (by repeat (first|(with_reducible first|exact HB.out|apply bdA|apply bdN|apply bd1|refine bdS ?_ GE138.out)|exact HB.out)) hb);have n2_:=As0.mk (hbox);have n3_:=As0.mk ((by rw [hg];exact (bdZ (by repeat (first|(with_reducible first|exact HB.out|apply bdA|apply bdN|apply bd1|refine bdS ?_ GE138.out)|exact HB.out))):w.heap.size≤gb140));have n4_:=As0.mk ((by rw [hg];exact (bdZ (by repeat (first|(with_reducible first|exact HB.out|apply bdA|apply bdN|apply bd1|refine bdS ?_ GE138.out)|exact HB.out))):w.heap.size≤gb140));have n5_:=As0.mk ((by rw [hg];exact Nat.ne_of_lt (blk_lt (g:=gb138) (o:=.cells #[.slice A0_0 l0_0.length c0_0,.slice (some ad139) l0_1.length c0_1,.slice A0_2 l0_2.length c0_2,.int .i64 a0_3] 26 (0,0)) (by (with_reducible repeat (first|refine bkN ?_ _|refine bkD ?_|refine bkA ?_ _));exact BK138.out)):gb138≠gb140));have n6_:=As0.mk ((by rw [hg];exact Nat.ne_of_gt (blk_lt (g:=gb138) (o:=.cells #[.slice A0_0 l0_0.length c0_0,.slice (some ad139) l0_1.length c0_1,.slice A0_2 l0_2.length c0_2,.int .i64 a0_3] 26 (0,0)) (by (with_reducible repeat (first|refine bkN ?_ _|refine bkD ?_|refine bkA ?_ _));exact BK138.out)):gb140≠gb138));clear BK138;clear HB;have BK138:=n0_;have HB:=n1_;have BK140:=n2_;have GW140:=n3_;have GE140:=n4_;have NB138_140:=n5_;have NB140_138:=n6_;clear n0_ n1_ n2_ n3_ n4_ n5_ n6_;clear hb hbox hg;have hnb9:=NB140_138.out;have hnc9:=NB138_140.out;have hcz10_0:w8.cell? ⟨gb140,0,none⟩=some (.string (⟨#[]⟩:ByteArray)):=(bkC BK140.out 0).trans rfl;have hcz10_1:w8.cell? ⟨gb140,1,none⟩=some (.int .i64 0):=(bkC BK140.out 1).trans rfl;have hcz10_2:w8.cell? ⟨gb140,2,none⟩=some (.int .i64 0):=(bkC BK140.out 2).trans rfl;have hcz10_3:w8.cell? ⟨gb140,3,none⟩=some (.int .i64 0):=(bkC BK140.out 3).trans rfl;have hfz10_0:=bkF BK140.out 0;have hfz10_1:=bkF BK140.out 1;have hfz10_2:=bkF BK140.out 2;have hfz10_3:=bkF BK140.out 3)|(go_at_call 81;(with_reducible refine (spindleref5_Word.calls k1 ((rd_T68 l0_1 x3_1).f0) t141 _ A5.out).mono ?_);rintro e w' ⟨rfl,⟨nd,rfl⟩⟩;(try first|exact ⟨rfl,_,World.drewN_drewN _ _ _⟩|exact ⟨rfl,_,Eq.trans (World.drewN_drewN _ _ _) (congrArg (World.drewN _) (Nat.add_assoc _ _ _))⟩))))
     (try simp only [Act.put,List.setIfInBounds_toArray,List.set_cons_zero,List.set_cons_succ])
     go_cut [35] (fun v35 wc=>∃ (kq:Nat) (x35_5:Bool),v35=.bool x35_5∧As0 (sr17n.j1 kq x3_1 x35_5 l0_0 l0_1 l0_2 a0_3 ((rd_T68 l0_1 x3_1).f0) ((rd_T68 l0_1 x3_1).f1) ((rd_T68 l0_1 x3_1).f2) ((rd_T68 l0_1 x3_1).f3)=some r)∧As0 (kq≤k1)∧As0 (wc.heap[gb138]?=some (.cells #[(.slice A0_0 l0_0.length c0_0),(.slice (some ad139) l0_1.length c0_1),(.slice A0_2 l0_2.length c0_2),.int .i64 a0_3] 26 (0,0)))∧As0 (wc.heap[gb140]?=some (.cells #[.string ((rd_T68 l0_1 x3_1).f0),.int .i64 ((rd_T68 l0_1 x3_1).f1),.int .i64 ((rd_T68 l0_1 x3_1).f2),.int .i64 ((rd_T68 l0_1 x3_1).f3)] 68 (0,0)))∧As0 (Below w.heap.size w wc))
     case first =>
      have H:=HC6.out
      clear HC6
      by_cases c11:t141=true
      ·subst c11
       have H1:(if ((rd_T68 l0_1 x3_1).f1)<0 then (sr17n.j1 k1 x3_1 true l0_0 l0_1 l0_2 a0_3 ((rd_T68 l0_1 x3_1).f0) ((rd_T68 l0_1 x3_1).f1) ((rd_T68 l0_1 x3_1).f2) ((rd_T68 l0_1 x3_1).f3)) else (sr17n.j1 k1 x3_1 (decide (((rd_T68 l0_1 x3_1).f1)≥64)) l0_0 l0_1 l0_2 a0_3 ((rd_T68 l0_1 x3_1).f0) ((rd_T68 l0_1 x3_1).f1) ((rd_T68 l0_1 x3_1).f2) ((rd_T68 l0_1 x3_1).f3)))=some r:=by rw [if_pos rfl] at H;exact H
       clear H
       have H:=H1
       clear H1
       by_cases c12:((rd_T68 l0_1 x3_1).f1)<0
       ·rw [if_pos c12] at H
        have c12b0:decide (((rd_T68 l0_1 x3_1).f1)<0)=true:=decide_eq_true c12
        clear c12
        (first|rw [c12b0]|(simp only [i64_w,i32_w];rw [c12b0])|skip)
        have H':=As0.mk H
        clear H
        have hnb13:=NB140_138.out
        have hnc13:=NB138_140.out
        have hcz14_0:w8.cell? ⟨gb140,0,none⟩=some (.string (⟨#[]⟩:ByteArray)):=(bkC BK140.out 0).trans rfl
        have hcz14_1:w8.cell? ⟨gb140,1,none⟩=some (.int .i64 0):=(bkC BK140.out 1).trans rfl
        have hcz14_2:w8.cell? ⟨gb140,2,none⟩=some (.int .i64 0):=(bkC BK140.out 2).trans rfl
        have hcz14_3:w8.cell? ⟨gb140,3,none⟩=some (.int .i64 0):=(bkC BK140.out 3).trans rfl
        have hfz14_0:=bkF BK140.out 0
        have hfz14_1:=bkF BK140.out 1
        have hfz14_2:=bkF BK140.out 2
        have hfz14_3:=bkF BK140.out 3
        go_wp2
        repeat (go_quiet (fail);try go_wp2)
        go_meet
        case rel=>exact ⟨_,(true),(by first|rfl|(simp;done)|(simp [*];done)),H',⟨by have:=HK1.out;first|omega|exact Nat.le_refl _⟩,⟨by (with_reducible repeat (first|refine bkN ?_ _|refine bkD ?_|refine bkA ?_ _));refine bkR ?_ NB138_140.out _;(with_reducible repeat (first|refine bkN ?_ _|refine bkD ?_|refine bkA ?_ _));refine bkR ?_ NB138_140.out _;(with_reducible repeat (first|refine bkN ?_ _|refine bkD ?_|refine bkA ?_ _));refine bkR ?_ NB138_140.out _;(with_reducible repeat (first|refine bkN ?_ _|refine bkD ?_|refine bkA ?_ _));refine bkR ?_ NB138_140.out _;(with_reducible repeat (first|refine bkN ?_ _|refine bkD ?_|refine bkA ?_ _));exact BK138.out⟩,⟨by (with_reducible repeat (first|refine bkN ?_ _|refine bkD ?_|refine bkA ?_ _));refine bkP (cs:=#[.string ((rd_T68 l0_1 x3_1).f0),.int .i64 ((rd_T68 l0_1 x3_1).f1),.int .i64 ((rd_T68 l0_1 x3_1).f2),.int .i64 0]) ?_ 3 _ rfl;(with_reducible repeat (first|refine bkN ?_ _|refine bkD ?_|refine bkA ?_ _));refine bkP (cs:=#[.string ((rd_T68 l0_1 x3_1).f0),.int .i64 ((rd_T68 l0_1 x3_1).f1),.int .i64 0,.int .i64 0]) ?_ 2 _ rfl;(with_reducible repeat (first|refine bkN ?_ _|refine bkD ?_|refine bkA ?_ _));refine bkP (cs:=#[.string ((rd_T68 l0_1 x3_1).f0),.int .i64 0,.int .i64 0,.int .i64 0]) ?_ 1 _ rfl;(with_reducible repeat (first|refine bkN ?_ _|refine bkD ?_|refine bkA ?_ _));refine bkP (cs:=#[.string (⟨#[]⟩:ByteArray),.int .i64 0,.int .i64 0,.int .i64 0]) ?_ 0 _ rfl;(with_reducible repeat (first|refine bkN ?_ _|refine bkD ?_|refine bkA ?_ _));exact BK140.out⟩,⟨by repeat (first|(with_reducible first|exact HB.out|apply bdA|apply bdN|apply bd1|refine bdS ?_ GE138.out|refine bdS ?_ GE140.out)|exact HB.out)⟩⟩
       ·rw [if_neg c12] at H
        have c12b0:decide (((rd_T68 l0_1 x3_1).f1)<0)=false:=decide_eq_false c12
        clear c12
        (first|rw [c12b0]|(simp only [i64_w,i32_w];rw [c12b0])|skip)
        have H':=As0.mk H
        clear H
        have hnb15:=NB140_138.out
        have hnc15:=NB138_140.out
        have hcz16_0:w8.cell? ⟨gb140,0,none⟩=some (.string (⟨#[]⟩:ByteArray)):=(bkC BK140.out 0).trans rfl
        have hcz16_1:w8.cell? ⟨gb140,1,none⟩=some (.int .i64 0):=(bkC BK140.out 1).trans rfl
        have hcz16_2:w8.cell? ⟨gb140,2,none⟩=some (.int .i64 0):=(bkC BK140.out 2).trans rfl
        have hcz16_3:w8.cell? ⟨gb140,3,none⟩=some (.int .i64 0):=(bkC BK140.out 3).trans rfl
        have hfz16_0:=bkF BK140.out 0
        have hfz16_1:=bkF BK140.out 1
        have hfz16_2:=bkF BK140.out 2
        have hfz16_3:=bkF BK140.out 3
        go_wp2
        repeat (go_quiet (fail);try go_wp2)
        go_meet
        case rel=>exact ⟨_,(decide (((rd_T68 l0_1 x3_1).f1)≥64)),(by first|rfl|(simp;done)|(simp [*];done)),H',⟨by have:=HK1.out;first|omega|exact Nat.le_refl _⟩,⟨by (with_reducible repeat (first|refine bkN ?_ _|refine bkD ?_|refine bkA ?_ _));refine bkR ?_ NB138_140.out _;(with_reducible repeat (first|refine bkN ?_ _|refine bkD ?_|refine bkA ?_ _));refine bkR ?_ NB138_140.out _;(with_reducible repeat (first|refine bkN ?_ _|refine bkD ?_|refine bkA ?_ _));refine bkR ?_ NB138_140.out _;(with_reducible repeat (first|refine bkN ?_ _|refine bkD ?_|refine bkA ?_ _));refine bkR ?_ NB138_140.out _;(with_reducible repeat (first|refine bkN ?_ _|refine bkD ?_|refine bkA ?_ _));exact BK138.out⟩,⟨by (with_reducible repeat (first|refine bkN ?_ _|refine bkD ?_|refine bkA ?_ _));refine bkP (cs:=#[.string ((rd_T68 l0_1 x3_1).f0),.int .i64 ((rd_T68 l0_1 x3_1).f1),.int .i64 ((rd_T68 l0_1 x3_1).f2),.int .i64 0]) ?_ 3 _ rfl;(with_reducible repeat (first|refine bkN ?_ _|refine bkD ?_|refine bkA ?_ _));refine bkP (cs:=#[.string ((rd_T68 l0_1 x3_1).f0),.int .i64 ((rd_T68 l0_1 x3_1).f1),.int .i64 0,.int .i64 0]) ?_ 2 _ rfl;(with_reducible repeat (first|refine bkN ?_ _|refine bkD ?_|refine bkA ?_ _));refine bkP (cs:=#[.string ((rd_T68 l0_1 x3_1).f0),.int .i64 0,.int .i64 0,.int .i64 0]) ?_ 1 _ rfl;(with_reducible repeat (first|refine bkN ?_ _|refine bkD ?_|refine bkA ?_ _));refine bkP (cs:=#[.string (⟨#[]⟩:ByteArray),.int .i64 0,.int .i64 0,.int .i64 0]) ?_ 0 _ rfl;(with_reducible repeat (first|refine bkN ?_ _|refine bkD ?_|refine bkA ?_ _));exact BK140.out⟩,⟨by repeat (first|(with_reducible first|exact HB.out|apply bdA|apply bdN|apply bd1|refine bdS ?_ GE138.out|refine bdS ?_ GE140.out)|exact HB.out)⟩⟩
      ·replace c11:=Bool.eq_false_iff.mpr c11
       subst c11
       have H1:(sr17n.j1 k1 x3_1 true l0_0 l0_1 l0_2 a0_3 ((rd_T68 l0_1 x3_1).f0) ((rd_T68 l0_1 x3_1).f1) ((rd_T68 l0_1 x3_1).f2) ((rd_T68 l0_1 x3_1).f3))=some r:=by rw [if_neg (show ¬ (false=true) by decide)] at H;exact H
       clear H
       have H:=H1
       clear H1
       have H':=As0.mk H
       clear H
       go_wp2
       repeat (go_quiet (fail);try go_wp2)
       go_meet
       case rel=>exact ⟨_,(true),(by first|rfl|(simp;done)|(simp [*];done)),H',⟨by have:=HK1.out;first|omega|exact Nat.le_refl _⟩,⟨by (with_reducible repeat (first|refine bkN ?_ _|refine bkD ?_|refine bkA ?_ _));refine bkR ?_ NB138_140.out _;(with_reducible repeat (first|refine bkN ?_ _|refine bkD ?_|refine bkA ?_ _));refine bkR ?_ NB138_140.out _;(with_reducible repeat (first|refine bkN ?_ _|refine bkD ?_|refine bkA ?_ _));refine bkR ?_ NB138_140.out _;(with_reducible repeat (first|refine bkN ?_ _|refine bkD ?_|refine bkA ?_ _));refine bkR ?_ NB138_140.out _;(with_reducible repeat (first|refine bkN ?_ _|refine bkD ?_|refine bkA ?_ _));exact BK138.out⟩,⟨by (with_reducible repeat (first|refine bkN ?_ _|refine bkD ?_|refine bkA ?_ _));refine bkP (cs:=#[.string ((rd_T68 l0_1 x3_1).f0),.int .i64 ((rd_T68 l0_1 x3_1).f1),.int .i64 ((rd_T68 l0_1 x3_1).f2),.int .i64 0]) ?_ 3 _ rfl;(with_reducible repeat (first|refine bkN ?_ _|refine bkD ?_|refine bkA ?_ _));refine bkP (cs:=#[.string ((rd_T68 l0_1 x3_1).f0),.int .i64 ((rd_T68 l0_1 x3_1).f1),.int .i64 0,.int .i64 0]) ?_ 2 _ rfl;(with_reducible repeat (first|refine bkN ?_ _|refine bkD ?_|refine bkA ?_ _));refine bkP (cs:=#[.string ((rd_T68 l0_1 x3_1).f0),.int .i64 0,.int .i64 0,.int .i64 0]) ?_ 1 _ rfl;(with_reducible repeat (first|refine bkN ?_ _|refine bkD ?_|refine bkA ?_ _));refine bkP (cs:=#[.string (⟨#[]⟩:ByteArray),.int .i64 0,.int .i64 0,.int .i64 0]) ?_ 0 _ rfl;(with_reducible repeat (first|refine bkN ?_ _|refine bkD ?_|refine bkA ?_ _));exact BK140.out⟩,⟨by repeat (first|(with_reducible first|exact HB.out|apply bdA|apply bdN|apply bd1|refine bdS ?_ GE138.out|refine bdS ?_ GE140.out)|exact HB.out)⟩⟩
     case rest =>
      clear HC6
      try clear c1
      try clear p1
      try clear q1
      try clear hx1
      try clear p2
      try clear c3
      try clear c3b0
      try clear c4
      try clear c4b0
      try clear c5
      try clear c9
      try clear c11
      try clear c12
      try clear c12b0
      try clear c13
      try clear p13
      try clear q13
      try clear hx13
      try clear c15
      try clear hcz10_0
      try clear hcz10_1
      try clear hcz10_2
      try clear hcz10_3
      try clear hcz14_0
      try clear hcz14_1
      try clear hcz14_2
      try clear hcz14_3
      try clear hcz16_0
      try clear hcz16_1
      try clear hcz16_2
      try clear hcz16_3
      try clear hcz7_0
      try clear hcz7_1
      try clear hcz7_2
      try clear hcz7_3
      try clear hfz10_0
      try clear hfz10_1
      try clear hfz10_2
      try clear hfz10_3
      try clear hfz14_0
      try clear hfz14_1
      try clear hfz14_2
      try clear hfz14_3
      try clear hfz16_0
      try clear hfz16_1
      try clear hfz16_2
      try clear hfz16_3
      try clear hfz7_0
      try clear hfz7_1
      try clear hfz7_2
      try clear hfz7_3
      try clear hx139_0
      try clear hx139_1
      try clear hx139_2
      try clear hx139_3
      try clear p139
      try clear p2
      try clear q139
      obtain ⟨kq,x35_5,rfl,HA,HJ5,BK138,BK140,HB⟩:=hcut
      cases kq with
      | zero=>exact absurd HA.out (by simp [sr17n.j1])
      | succ kj5 =>
       have H:=HA.out
       clear HA
       simp only [sr17n.j1] at H
       by_cases c17:x35_5=true
       ·subst c17
        have H1:(some x3_1)=some r:=by rw [if_pos rfl] at H;exact H
        clear H
        have H:=H1
        clear H1
        obtain rfl:=Option.some.inj H
        go_wp2
        repeat (go_quiet (fail);try go_wp2)
        go_ret
        exact ⟨by first|rfl|(simp [errW_none,errW_some] <;> rfl)|(simp [*,errW_none,errW_some] <;> rfl),by repeat (first|(with_reducible first|exact HB.out|apply bdA|apply bdN|apply bd1|refine bdS ?_ GE138.out|refine bdS ?_ GE140.out)|exact HB.out)⟩
       ·replace c17:=Bool.eq_false_iff.mpr c17
        subst c17
        have H1:(sr17n.l1 kj5 x3_1 0 l0_0 l0_1 l0_2 a0_3 ((rd_T68 l0_1 x3_1).f0) ((rd_T68 l0_1 x3_1).f1) ((rd_T68 l0_1 x3_1).f2) ((rd_T68 l0_1 x3_1).f3))=some r:=by rw [if_neg (show ¬ (false=true) by decide)] at H;exact H
        clear H
        have H:=H1
        clear H1
        have H':=As0.mk H
        clear H
        go_wp2
        repeat (go_quiet (fail);try go_wp2)
        go_loopg [6] kj5 (fun kq v6 w'=>∃ (x6_3:Int),v6=.int .i64 x6_3∧As0 (sr17n.l1 kq x3_1 x6_3 l0_0 l0_1 l0_2 a0_3 ((rd_T68 l0_1 x3_1).f0) ((rd_T68 l0_1 x3_1).f1) ((rd_T68 l0_1 x3_1).f2) ((rd_T68 l0_1 x3_1).f3)=some r)∧As0 (kq≤kj5)∧As0 (w'.heap[gb138]?=some (.cells #[(.slice A0_0 l0_0.length c0_0),(.slice (some ad139) l0_1.length c0_1),(.slice A0_2 l0_2.length c0_2),.int .i64 a0_3] 26 (0,0)))∧As0 (w'.heap[gb140]?=some (.cells #[.string ((rd_T68 l0_1 x3_1).f0),.int .i64 ((rd_T68 l0_1 x3_1).f1),.int .i64 ((rd_T68 l0_1 x3_1).f2),.int .i64 ((rd_T68 l0_1 x3_1).f3)] 68 (0,0)))∧As0 (Below w.heap.size w w'))
        case atStart=>exact ⟨(0),(by first|rfl|(simp;done)|(simp [*];done)),H',⟨Nat.le_refl _⟩,⟨by (with_reducible repeat (first|refine bkN ?_ _|refine bkD ?_|refine bkA ?_ _));exact BK138.out⟩,⟨by (with_reducible repeat (first|refine bkN ?_ _|refine bkD ?_|refine bkA ?_ _));exact BK140.out⟩,⟨by repeat (first|(with_reducible first|exact HB.out|apply bdA|apply bdN|apply bd1|refine bdS ?_ GE138.out|refine bdS ?_ GE140.out)|exact HB.out)⟩⟩
        case round =>
         clear H'
         try clear c1
         try clear p1
         try clear q1
         try clear hx1
         try clear p2
         try clear c3
         try clear c3b0
         try clear c4
         try clear c4b0
         try clear c5
         try clear c9
         try clear c11
         try clear c12
         try clear c12b0
         try clear c13
         try clear p13
         try clear q13
         try clear hx13
         try clear c15
         try clear c17
         try clear hcz10_0
         try clear hcz10_1
         try clear hcz10_2
         try clear hcz10_3
         try clear hcz14_0
         try clear hcz14_1
         try clear hcz14_2
         try clear hcz14_3
         try clear hcz16_0
         try clear hcz16_1
         try clear hcz16_2
         try clear hcz16_3
         try clear hcz7_0
         try clear hcz7_1
         try clear hcz7_2
         try clear hcz7_3
         try clear hfz10_0
         try clear hfz10_1
         try clear hfz10_2
         try clear hfz10_3
         try clear hfz14_0
         try clear hfz14_1
         try clear hfz14_2
         try clear hfz14_3
         try clear hfz16_0
         try clear hfz16_1
         try clear hfz16_2
         try clear hfz16_3
         try clear hfz7_0
         try clear hfz7_1
         try clear hfz7_2
         try clear hfz7_3
         try clear hx139_0
         try clear hx139_1
         try clear hx139_2
         try clear hx139_3
         try clear p1
         try clear p13
         try clear p139
         try clear p2
         try clear q1
         try clear q13
         try clear q139
         obtain ⟨x6_3,rfl,HA,HK3,BK138,BK140,HB⟩:=hrel
         cases gk with
         | zero=>exact absurd HA.out (by simp [sr17n.l1])
         | succ k3 =>
          have H:=HA.out
          clear HA
          simp only [sr17n.l1] at H
          by_cases c18:x6_3<x3_1
          ·rw [if_pos c18] at H
           have c18b0:decide (x6_3<x3_1)=true:=decide_eq_true c18
           clear c18
           by_cases c19:0≤x6_3
           ·rw [if_pos c19] at H
            have c19b0:decide (0≤x6_3)=true:=decide_eq_true c19
            clear c19
            by_cases c20:x6_3<(l0_1.length:Int)
            ·rw [if_pos c20] at H
             have c20b0:decide (x6_3<(l0_1.length:Int))=true:=decide_eq_true c20
             clear c20
             by_cases c21:((rd_T68 l0_1 x6_3).f0).toList=((rd_T68 l0_1 x3_1).f0).toList
             ·rw [if_pos c21] at H
              have c21b0:(((rd_T68 l0_1 x6_3).f0).toList == ((rd_T68 l0_1 x3_1).f0).toList)=true:=beq_iff_eq.mpr c21
              have c21b1:(((rd_T68 l0_1 x6_3).f0).toList != ((rd_T68 l0_1 x3_1).f0).toList)=false:=bne_eq_false_iff_eq.mpr c21
              clear c21
              by_cases c22:((rd_T68 l0_1 x6_3).f1)=((rd_T68 l0_1 x3_1).f1)
              ·rw [if_pos c22] at H
               have c22b0:(((rd_T68 l0_1 x6_3).f1) == ((rd_T68 l0_1 x3_1).f1))=true:=beq_iff_eq.mpr c22
               have c22b1:(((rd_T68 l0_1 x6_3).f1) != ((rd_T68 l0_1 x3_1).f1))=false:=bne_eq_false_iff_eq.mpr c22
               clear c22
               obtain rfl:=Option.some.inj H
               have hnb23:=NB138_140.out
               have hnc23:=NB140_138.out
               have hcz24_0:wr.cell? ⟨gb138,0,none⟩=some (.slice A0_0 l0_0.length c0_0):=(bkC BK138.out 0).trans rfl
               have hcz24_1:wr.cell? ⟨gb138,1,none⟩=some (.slice (some ad139) l0_1.length c0_1):=(bkC BK138.out 1).trans rfl
               have hcz24_2:wr.cell? ⟨gb138,2,none⟩=some (.slice A0_2 l0_2.length c0_2):=(bkC BK138.out 2).trans rfl
               have hcz24_3:wr.cell? ⟨gb138,3,none⟩=some (.int .i64 a0_3):=(bkC BK138.out 3).trans rfl
               have hfz24_0:=bkF BK138.out 0
               have hfz24_1:=bkF BK138.out 1
               have hfz24_2:=bkF BK138.out 2
               have hfz24_3:=bkF BK138.out 3
               have p142:0≤(x6_3:Int):=of_decide_eq_true (by first|(with_reducible assumption)|assumption)
               have q142:x6_3<(l0_1.length:Int):=of_decide_eq_true (by first|(with_reducible assumption)|assumption)
               obtain ⟨ad142,e142,hx142_0,hx142_1,hx142_2,hx142_3⟩:=at_T68 HR0_1.out x6_3 p142 q142
               obtain rfl:ad139=ad142:=(by injection e142)
               replace hx142_0:=(HB.out.cell (World.block_lt_of_cell? w _ hx142_0)).trans hx142_0
               replace hx142_1:=(HB.out.cell (World.block_lt_of_cell? w _ hx142_1)).trans hx142_1
               replace hx142_2:=(HB.out.cell (World.block_lt_of_cell? w _ hx142_2)).trans hx142_2
               replace hx142_3:=(HB.out.cell (World.block_lt_of_cell? w _ hx142_3)).trans hx142_3
               replace p142:=eq_true p142
               replace q142:=eq_true q142
               have hcz25_0:wr.cell? ⟨gb140,0,none⟩=some (.string ((rd_T68 l0_1 x3_1).f0)):=(bkC BK140.out 0).trans rfl
               have hcz25_1:wr.cell? ⟨gb140,1,none⟩=some (.int .i64 ((rd_T68 l0_1 x3_1).f1)):=(bkC BK140.out 1).trans rfl
               have hcz25_2:wr.cell? ⟨gb140,2,none⟩=some (.int .i64 ((rd_T68 l0_1 x3_1).f2)):=(bkC BK140.out 2).trans rfl
               have hcz25_3:wr.cell? ⟨gb140,3,none⟩=some (.int .i64 ((rd_T68 l0_1 x3_1).f3)):=(bkC BK140.out 3).trans rfl
               have hfz25_0:=bkF BK140.out 0
               have hfz25_1:=bkF BK140.out 1
               have hfz25_2:=bkF BK140.out 2
               have hfz25_3:=bkF BK140.out 3
               have p143:0≤(x6_3:Int):=of_decide_eq_true (by first|(with_reducible assumption)|assumption)
               have q143:x6_3<(l0_1.length:Int):=of_decide_eq_true (by first|(with_reducible assumption)|assumption)
               obtain ⟨ad143,e143,hx143_0,hx143_1,hx143_2,hx143_3⟩:=at_T68 HR0_1.out x6_3 p143 q143
               obtain rfl:ad139=ad143:=(by injection e143)
               replace hx143_0:=(HB.out.cell (World.block_lt_of_cell? w _ hx143_0)).trans hx143_0
               replace hx143_1:=(HB.out.cell (World.block_lt_of_cell? w _ hx143_1)).trans hx143_1
               replace hx143_2:=(HB.out.cell (World.block_lt_of_cell? w _ hx143_2)).trans hx143_2
               replace hx143_3:=(HB.out.cell (World.block_lt_of_cell? w _ hx143_3)).trans hx143_3
               replace p143:=eq_true p143
               replace q143:=eq_true q143
               go_wp2
               repeat (go_quiet (fail);try go_wp2)
               go_ret
               exact ⟨by first|rfl|(simp [errW_none,errW_some] <;> rfl)|(simp [*,errW_none,errW_some] <;> rfl),by repeat (first|(with_reducible first|exact HB.out|apply bdA|apply bdN|apply bd1|refine bdS ?_ GE138.out|refine bdS ?_ GE140.out)|exact HB.out)⟩
              ·rw [if_neg c22] at H
               have c22b0:(((rd_T68 l0_1 x6_3).f1) == ((rd_T68 l0_1 x3_1).f1))=false:=beq_eq_false_iff_ne.mpr c22
               have c22b1:(((rd_T68 l0_1 x6_3).f1) != ((rd_T68 l0_1 x3_1).f1))=true:=bne_iff_ne.mpr c22
               have H':=As0.mk H
               clear H
               have hnb26:=NB138_140.out
               have hnc26:=NB140_138.out
               have hcz27_0:wr.cell? ⟨gb138,0,none⟩=some (.slice A0_0 l0_0.length c0_0):=(bkC BK138.out 0).trans rfl
               have hcz27_1:wr.cell? ⟨gb138,1,none⟩=some (.slice (some ad139) l0_1.length c0_1):=(bkC BK138.out 1).trans rfl
               have hcz27_2:wr.cell? ⟨gb138,2,none⟩=some (.slice A0_2 l0_2.length c0_2):=(bkC BK138.out 2).trans rfl
               have hcz27_3:wr.cell? ⟨gb138,3,none⟩=some (.int .i64 a0_3):=(bkC BK138.out 3).trans rfl
               have hfz27_0:=bkF BK138.out 0
               have hfz27_1:=bkF BK138.out 1
               have hfz27_2:=bkF BK138.out 2
               have hfz27_3:=bkF BK138.out 3
               have p142:0≤(x6_3:Int):=of_decide_eq_true (by first|(with_reducible assumption)|assumption)
               have q142:x6_3<(l0_1.length:Int):=of_decide_eq_true (by first|(with_reducible assumption)|assumption)
               obtain ⟨ad142,e142,hx142_0,hx142_1,hx142_2,hx142_3⟩:=at_T68 HR0_1.out x6_3 p142 q142
               obtain rfl:ad139=ad142:=(by injection e142)
               replace hx142_0:=(HB.out.cell (World.block_lt_of_cell? w _ hx142_0)).trans hx142_0
               replace hx142_1:=(HB.out.cell (World.block_lt_of_cell? w _ hx142_1)).trans hx142_1
               replace hx142_2:=(HB.out.cell (World.block_lt_of_cell? w _ hx142_2)).trans hx142_2
               replace hx142_3:=(HB.out.cell (World.block_lt_of_cell? w _ hx142_3)).trans hx142_3
               replace p142:=eq_true p142
               replace q142:=eq_true q142
               have hcz28_0:wr.cell? ⟨gb140,0,none⟩=some (.string ((rd_T68 l0_1 x3_1).f0)):=(bkC BK140.out 0).trans rfl
               have hcz28_1:wr.cell? ⟨gb140,1,none⟩=some (.int .i64 ((rd_T68 l0_1 x3_1).f1)):=(bkC BK140.out 1).trans rfl
               have hcz28_2:wr.cell? ⟨gb140,2,none⟩=some (.int .i64 ((rd_T68 l0_1 x3_1).f2)):=(bkC BK140.out 2).trans rfl
               have hcz28_3:wr.cell? ⟨gb140,3,none⟩=some (.int .i64 ((rd_T68 l0_1 x3_1).f3)):=(bkC BK140.out 3).trans rfl
               have hfz28_0:=bkF BK140.out 0
               have hfz28_1:=bkF BK140.out 1
               have hfz28_2:=bkF BK140.out 2
               have hfz28_3:=bkF BK140.out 3
               have p143:0≤(x6_3:Int):=of_decide_eq_true (by first|(with_reducible assumption)|assumption)
               have q143:x6_3<(l0_1.length:Int):=of_decide_eq_true (by first|(with_reducible assumption)|assumption)
               obtain ⟨ad143,e143,hx143_0,hx143_1,hx143_2,hx143_3⟩:=at_T68 HR0_1.out x6_3 p143 q143
               obtain rfl:ad139=ad143:=(by injection e143)
               replace hx143_0:=(HB.out.cell (World.block_lt_of_cell? w _ hx143_0)).trans hx143_0
               replace hx143_1:=(HB.out.cell (World.block_lt_of_cell? w _ hx143_1)).trans hx143_1
               replace hx143_2:=(HB.out.cell (World.block_lt_of_cell? w _ hx143_2)).trans hx143_2
               replace hx143_3:=(HB.out.cell (World.block_lt_of_cell? w _ hx143_3)).trans hx143_3
               replace p143:=eq_true p143
               replace q143:=eq_true q143
               go_wp2
               repeat (go_quiet (fail);try go_wp2)
               go_roundg k3
               case measure=>have:=HK1.out;have:=HJ5.out;have:=HK3.out;omega
               case rel=>exact ⟨(wrap64 (x6_3+1)),(by first|rfl|(simp;done)|(simp [*];done)),H',⟨by have:=HK1.out;have:=HJ5.out;have:=HK3.out;omega⟩,⟨by (with_reducible repeat (first|refine bkN ?_ _|refine bkD ?_|refine bkA ?_ _));exact BK138.out⟩,⟨by (with_reducible repeat (first|refine bkN ?_ _|refine bkD ?_|refine bkA ?_ _));exact BK140.out⟩,⟨by repeat (first|(with_reducible first|exact HB.out|apply bdA|apply bdN|apply bd1|refine bdS ?_ GE138.out|refine bdS ?_ GE140.out)|exact HB.out)⟩⟩
             ·rw [if_neg c21] at H
              have c21b0:(((rd_T68 l0_1 x6_3).f0).toList == ((rd_T68 l0_1 x3_1).f0).toList)=false:=beq_eq_false_iff_ne.mpr c21
              have c21b1:(((rd_T68 l0_1 x6_3).f0).toList != ((rd_T68 l0_1 x3_1).f0).toList)=true:=bne_iff_ne.mpr c21
              have H':=As0.mk H
              clear H
              have hnb29:=NB138_140.out
              have hnc29:=NB140_138.out
              have hcz30_0:wr.cell? ⟨gb138,0,none⟩=some (.slice A0_0 l0_0.length c0_0):=(bkC BK138.out 0).trans rfl
              have hcz30_1:wr.cell? ⟨gb138,1,none⟩=some (.slice (some ad139) l0_1.length c0_1):=(bkC BK138.out 1).trans rfl
              have hcz30_2:wr.cell? ⟨gb138,2,none⟩=some (.slice A0_2 l0_2.length c0_2):=(bkC BK138.out 2).trans rfl
              have hcz30_3:wr.cell? ⟨gb138,3,none⟩=some (.int .i64 a0_3):=(bkC BK138.out 3).trans rfl
              have hfz30_0:=bkF BK138.out 0
              have hfz30_1:=bkF BK138.out 1
              have hfz30_2:=bkF BK138.out 2
              have hfz30_3:=bkF BK138.out 3
              have p142:0≤(x6_3:Int):=of_decide_eq_true (by first|(with_reducible assumption)|assumption)
              have q142:x6_3<(l0_1.length:Int):=of_decide_eq_true (by first|(with_reducible assumption)|assumption)
              obtain ⟨ad142,e142,hx142_0,hx142_1,hx142_2,hx142_3⟩:=at_T68 HR0_1.out x6_3 p142 q142
              obtain rfl:ad139=ad142:=(by injection e142)
              replace hx142_0:=(HB.out.cell (World.block_lt_of_cell? w _ hx142_0)).trans hx142_0
              replace hx142_1:=(HB.out.cell (World.block_lt_of_cell? w _ hx142_1)).trans hx142_1
              replace hx142_2:=(HB.out.cell (World.block_lt_of_cell? w _ hx142_2)).trans hx142_2
              replace hx142_3:=(HB.out.cell (World.block_lt_of_cell? w _ hx142_3)).trans hx142_3
              replace p142:=eq_true p142
              replace q142:=eq_true q142
              have hcz31_0:wr.cell? ⟨gb140,0,none⟩=some (.string ((rd_T68 l0_1 x3_1).f0)):=(bkC BK140.out 0).trans rfl
              have hcz31_1:wr.cell? ⟨gb140,1,none⟩=some (.int .i64 ((rd_T68 l0_1 x3_1).f1)):=(bkC BK140.out 1).trans rfl
              have hcz31_2:wr.cell? ⟨gb140,2,none⟩=some (.int .i64 ((rd_T68 l0_1 x3_1).f2)):=(bkC BK140.out 2).trans rfl
              have hcz31_3:wr.cell? ⟨gb140,3,none⟩=some (.int .i64 ((rd_T68 l0_1 x3_1).f3)):=(bkC BK140.out 3).trans rfl
              have hfz31_0:=bkF BK140.out 0
              have hfz31_1:=bkF BK140.out 1
              have hfz31_2:=bkF BK140.out 2
              have hfz31_3:=bkF BK140.out 3
              go_wp2
              repeat (go_quiet (fail);try go_wp2)
              go_roundg k3
              case measure=>have:=HK1.out;have:=HJ5.out;have:=HK3.out;omega
              case rel=>exact ⟨(wrap64 (x6_3+1)),(by first|rfl|(simp;done)|(simp [*];done)),H',⟨by have:=HK1.out;have:=HJ5.out;have:=HK3.out;omega⟩,⟨by (with_reducible repeat (first|refine bkN ?_ _|refine bkD ?_|refine bkA ?_ _));exact BK138.out⟩,⟨by (with_reducible repeat (first|refine bkN ?_ _|refine bkD ?_|refine bkA ?_ _));exact BK140.out⟩,⟨by repeat (first|(with_reducible first|exact HB.out|apply bdA|apply bdN|apply bd1|refine bdS ?_ GE138.out|refine bdS ?_ GE140.out)|exact HB.out)⟩⟩
            ·rw [if_neg c20] at H
             exact absurd H (by simp)
           ·rw [if_neg c19] at H
            exact absurd H (by simp)
          ·rw [if_neg c18] at H
           have c18b0:decide (x6_3<x3_1)=false:=decide_eq_false c18
           clear c18
           have H':=As0.mk H
           clear H
           go_wp2
           repeat (go_quiet (fail);try go_wp2)
           go_roundg k3
           case measure=>have:=HK1.out;have:=HJ5.out;have:=HK3.out;omega
           case rel=>exact ⟨(wrap64 (x3_1+1)),(by first|rfl|(simp;done)|(simp [*];done)),H',⟨by have:=HK1.out;have:=HJ5.out;have:=HK3.out;omega⟩,⟨by (with_reducible repeat (first|refine bkN ?_ _|refine bkD ?_|refine bkA ?_ _));exact BK138.out⟩,⟨by repeat (first|(with_reducible first|exact HB.out|apply bdA|apply bdN|apply bd1|refine bdS ?_ GE138.out|refine bdS ?_ GE140.out)|exact HB.out)⟩⟩
    ·rw [if_neg c4] at H
     exact absurd H (by simp)
   ·rw [if_neg c3] at H
    have c3b0:decide (x3_1<(l0_1.length:Int))=false:=decide_eq_false c3
    clear c3
    have H':=As0.mk H
    clear H
    have hcz32_0:wr.cell? ⟨gb138,0,none⟩=some (.slice A0_0 l0_0.length c0_0):=(bkC BK138.out 0).trans rfl
    have hcz32_1:wr.cell? ⟨gb138,1,none⟩=some (.slice A0_1 l0_1.length c0_1):=(bkC BK138.out 1).trans rfl
    have hcz32_2:wr.cell? ⟨gb138,2,none⟩=some (.slice A0_2 l0_2.length c0_2):=(bkC BK138.out 2).trans rfl
    have hcz32_3:wr.cell? ⟨gb138,3,none⟩=some (.int .i64 a0_3):=(bkC BK138.out 3).trans rfl
    have hfz32_0:=bkF BK138.out 0
    have hfz32_1:=bkF BK138.out 1
    have hfz32_2:=bkF BK138.out 2
    have hfz32_3:=bkF BK138.out 3
    go_wp2
    repeat (go_quiet (fail);try go_wp2)
    go_loopg [7] k1 (fun kq v7 w'=>∃ (x7_2:Int),v7=.int .i64 x7_2∧As0 (sr17n.l2 kq x7_2 l0_0 l0_1 l0_2 a0_3=some r)∧As0 (kq≤k1)∧As0 (w'.heap[gb138]?=some (.cells #[(.slice A0_0 l0_0.length c0_0),(.slice A0_1 l0_1.length c0_1),(.slice A0_2 l0_2.length c0_2),.int .i64 a0_3] 26 (0,0)))∧As0 (Below w.heap.size w w'))
    case atStart=>exact ⟨(0),(by first|rfl|(simp;done)|(simp [*];done)),H',⟨Nat.le_refl _⟩,⟨by (with_reducible repeat (first|refine bkN ?_ _|refine bkD ?_|refine bkA ?_ _));exact BK138.out⟩,⟨by repeat (first|(with_reducible first|exact HB.out|apply bdA|apply bdN|apply bd1|refine bdS ?_ GE138.out)|exact HB.out)⟩⟩
    case round =>
     clear H'
     try clear c1
     try clear p1
     try clear q1
     try clear hx1
     try clear c2
     try clear p2
     try clear c3
     try clear c3b0
     try clear c4
     try clear c4b0
     try clear c5
     try clear p6
     try clear c9
     try clear c11
     try clear c12
     try clear c12b0
     try clear c13
     try clear p13
     try clear q13
     try clear hx13
     try clear p14
     try clear q14
     try clear hx14
     try clear c15
     try clear c17
     try clear c18
     try clear c18b0
     try clear c19
     try clear c19b0
     try clear c20
     try clear c20b0
     try clear c21
     try clear c21b0
     try clear c21b1
     try clear c22
     try clear c22b0
     try clear c22b1
     try clear c23
     try clear c26
     try clear c29
     try clear hcz10_0
     try clear hcz10_1
     try clear hcz10_2
     try clear hcz10_3
     try clear hcz14_0
     try clear hcz14_1
     try clear hcz14_2
     try clear hcz14_3
     try clear hcz16_0
     try clear hcz16_1
     try clear hcz16_2
     try clear hcz16_3
     try clear hcz24_0
     try clear hcz24_1
     try clear hcz24_2
     try clear hcz24_3
     try clear hcz25_0
     try clear hcz25_1
     try clear hcz25_2
     try clear hcz25_3
     try clear hcz27_0
     try clear hcz27_1
     try clear hcz27_2
     try clear hcz27_3
     try clear hcz28_0
     try clear hcz28_1
     try clear hcz28_2
     try clear hcz28_3
     try clear hcz30_0
     try clear hcz30_1
     try clear hcz30_2
     try clear hcz30_3
     try clear hcz31_0
     try clear hcz31_1
     try clear hcz31_2
     try clear hcz31_3
     try clear hcz32_0
     try clear hcz32_1
     try clear hcz32_2
     try clear hcz32_3
     try clear hcz7_0
     try clear hcz7_1
     try clear hcz7_2
     try clear hcz7_3
     try clear hfz10_0
     try clear hfz10_1
     try clear hfz10_2
     try clear hfz10_3
     try clear hfz14_0
     try clear hfz14_1
     try clear hfz14_2
     try clear hfz14_3
     try clear hfz16_0
     try clear hfz16_1
     try clear hfz16_2
     try clear hfz16_3
     try clear hfz24_0
     try clear hfz24_1
     try clear hfz24_2
     try clear hfz24_3
     try clear hfz25_0
     try clear hfz25_1
     try clear hfz25_2
     try clear hfz25_3
     try clear hfz27_0
     try clear hfz27_1
     try clear hfz27_2
     try clear hfz27_3
     try clear hfz28_0
     try clear hfz28_1
     try clear hfz28_2
     try clear hfz28_3
     try clear hfz30_0
     try clear hfz30_1
     try clear hfz30_2
     try clear hfz30_3
     try clear hfz31_0
     try clear hfz31_1
     try clear hfz31_2
     try clear hfz31_3
     try clear hfz32_0
     try clear hfz32_1
     try clear hfz32_2
     try clear hfz32_3
     try clear hfz7_0
     try clear hfz7_1
     try clear hfz7_2
     try clear hfz7_3
     try clear hx139_0
     try clear hx139_1
     try clear hx139_2
     try clear hx139_3
     try clear hx142_0
     try clear hx142_1
     try clear hx142_2
     try clear hx142_3
     try clear hx143_0
     try clear hx143_1
     try clear hx143_2
     try clear hx143_3
     try clear p1
     try clear p13
     try clear p139
     try clear p142
     try clear p143
     try clear p2
     try clear q1
     try clear q13
     try clear q139
     try clear q142
     try clear q143
     obtain ⟨x7_2,rfl,HA,HK2,BK138,HB⟩:=hrel
     cases gk with
     | zero=>exact absurd HA.out (by simp [sr17n.l2])
     | succ k2 =>
      have H:=HA.out
      clear HA
      simp only [sr17n.l2] at H
      by_cases c33:x7_2<(l0_2.length:Int)
      ·rw [if_pos c33] at H
       have c33b0:decide (x7_2<(l0_2.length:Int))=true:=decide_eq_true c33
       clear c33
       by_cases c34:0≤x7_2
       ·rw [if_pos c34] at H
        have c34b0:decide (0≤x7_2)=true:=decide_eq_true c34
        clear c34
        replace H:=Option.bind_eq_some_iff.mp H
        obtain ⟨t145,A350,H⟩:=H
        replace H:(if t145=true then (if x7_2 > 0 then (if 0≤(wrap64 (x7_2 - 1)) then (if (wrap64 (x7_2 - 1))<(l0_2.length:Int) then (if ((Op.bytesLess (((rd_T56 l0_2 (wrap64 (x7_2 - 1))).f0).toList) (((rd_T56 l0_2 x7_2).f0).toList))=true) then (sr17n.l2 k2 (wrap64 (x7_2+1)) l0_0 l0_1 l0_2 a0_3) else (some (wrap64 ((l0_1.length:Int)+x7_2)))) else (none)) else (none)) else (sr17n.l2 k2 (wrap64 (x7_2+1)) l0_0 l0_1 l0_2 a0_3)) else (some (wrap64 ((l0_1.length:Int)+x7_2))))=some r:=H
        have A35:=As0.mk A350
        clear A350
        by_cases c36:t145=true
        ·subst c36
         have H1:(if x7_2 > 0 then (if 0≤(wrap64 (x7_2 - 1)) then (if (wrap64 (x7_2 - 1))<(l0_2.length:Int) then (if ((Op.bytesLess (((rd_T56 l0_2 (wrap64 (x7_2 - 1))).f0).toList) (((rd_T56 l0_2 x7_2).f0).toList))=true) then (sr17n.l2 k2 (wrap64 (x7_2+1)) l0_0 l0_1 l0_2 a0_3) else (some (wrap64 ((l0_1.length:Int)+x7_2)))) else (none)) else (none)) else (sr17n.l2 k2 (wrap64 (x7_2+1)) l0_0 l0_1 l0_2 a0_3))=some r:=by rw [if_pos rfl] at H;exact H
         clear H
         have H:=H1
         clear H1
         by_cases c37:x7_2 > 0
         ·rw [if_pos c37] at H
          have c37b0:decide (0<x7_2)=true:=decide_eq_true c37
          clear c37
          obtain ⟨ji38,hji38⟩:∃ j_:Int,(wrap64 (x7_2 - 1))=j_:=⟨_,rfl⟩
          replace H:(if 0≤(ji38) then (if (ji38)<(l0_2.length:Int) then (if ((Op.bytesLess (((rd_T56 l0_2 (ji38)).f0).toList) (((rd_T56 l0_2 x7_2).f0).toList))=true) then (sr17n.l2 k2 (wrap64 (x7_2+1)) l0_0 l0_1 l0_2 a0_3) else (some (wrap64 ((l0_1.length:Int)+x7_2)))) else (none)) else (none))=some r:=by first|(rw [hji38] at H;exact H)|(simp only [hji38] at H ⊢;exact H)
          (try rw [hji38] at A35)
          have hji38w:(IntKind.i64.wrap (x7_2 - 1))=ji38:=(i64_w _).trans hji38
          by_cases c39:0≤(ji38)
          ·rw [if_pos c39] at H
           have c39b0:decide (0≤(ji38))=true:=decide_eq_true c39
           clear c39
           by_cases c40:(ji38)<(l0_2.length:Int)
           ·rw [if_pos c40] at H
            have c40b0:decide ((ji38)<(l0_2.length:Int))=true:=decide_eq_true c40
            clear c40
            by_cases c41:((Op.bytesLess (((rd_T56 l0_2 (ji38)).f0).toList) (((rd_T56 l0_2 x7_2).f0).toList))=true)
            ·rw [if_pos c41] at H
             have c41b0:(Op.bytesLess (((rd_T56 l0_2 (ji38)).f0).toList) (((rd_T56 l0_2 x7_2).f0).toList))=true:=c41
             clear c41
             have H':=As0.mk H
             clear H
             have hcz42_0:wr.cell? ⟨gb138,0,none⟩=some (.slice A0_0 l0_0.length c0_0):=(bkC BK138.out 0).trans rfl
             have hcz42_1:wr.cell? ⟨gb138,1,none⟩=some (.slice A0_1 l0_1.length c0_1):=(bkC BK138.out 1).trans rfl
             have hcz42_2:wr.cell? ⟨gb138,2,none⟩=some (.slice A0_2 l0_2.length c0_2):=(bkC BK138.out 2).trans rfl
             have hcz42_3:wr.cell? ⟨gb138,3,none⟩=some (.int .i64 a0_3):=(bkC BK138.out 3).trans rfl
             have hfz42_0:=bkF BK138.out 0
             have hfz42_1:=bkF BK138.out 1
             have hfz42_2:=bkF BK138.out 2
             have hfz42_3:=bkF BK138.out 3
             have p144:0≤(x7_2:Int):=of_decide_eq_true (by first|(with_reducible assumption)|assumption)
             have q144:x7_2<(l0_2.length:Int):=of_decide_eq_true (by first|(with_reducible assumption)|assumption)
             obtain ⟨ad144,e144,hx144_0,hx144_1,hx144_2,hx144_3,hx144_4⟩:=at_T56 HR0_2.out x7_2 p144 q144
             cases e144
             replace hx144_0:=(HB.out.cell (World.block_lt_of_cell? w _ hx144_0)).trans hx144_0
             replace hx144_1:=(HB.out.cell (World.block_lt_of_cell? w _ hx144_1)).trans hx144_1
             replace hx144_2:=(HB.out.cell (World.block_lt_of_cell? w _ hx144_2)).trans hx144_2
             replace hx144_3:=(HB.out.cell (World.block_lt_of_cell? w _ hx144_3)).trans hx144_3
             replace hx144_4:=(HB.out.cell (World.block_lt_of_cell? w _ hx144_4)).trans hx144_4
             replace p144:=eq_true p144
             replace q144:=eq_true q144
             go_wp2_with (first|(go_at_call 81;(with_reducible refine (spindleref5_Word.calls k2 ((rd_T56 l0_2 x7_2).f0) true _ A35.out).mono ?_);rintro e w' ⟨rfl,⟨nd,rfl⟩⟩;(try first|exact ⟨rfl,_,World.drewN_drewN _ _ _⟩|exact ⟨rfl,_,Eq.trans (World.drewN_drewN _ _ _) (congrArg (World.drewN _) (Nat.add_assoc _ _ _))⟩);have p146:0≤(x7_2:Int):=of_decide_eq_true (by first|(with_reducible assumption)|assumption);have q146:x7_2<(l0_2.length:Int):=of_decide_eq_true (by first|(with_reducible assumption)|assumption);obtain ⟨ad146,e146,hx146_0,hx146_1,hx146_2,hx146_3,hx146_4⟩:=at_T56 HR0_2.out x7_2 p146 q146;obtain rfl:ad144=ad146:=(by injection e146);replace hx146_0:=(HB.out.cell (World.block_lt_of_cell? w _ hx146_0)).trans hx146_0;replace hx146_1:=(HB.out.cell (World.block_lt_of_cell? w _ hx146_1)).trans hx146_1;replace hx146_2:=(HB.out.cell (World.block_lt_of_cell? w _ hx146_2)).trans hx146_2;replace hx146_3:=(HB.out.cell (World.block_lt_of_cell? w _ hx146_3)).trans hx146_3;replace hx146_4:=(HB.out.cell (World.block_lt_of_cell? w _ hx146_4)).trans hx146_4;replace p146:=eq_true p146;replace q146:=eq_true q146;have p147:0≤((ji38):Int):=of_decide_eq_true (by first|(with_reducible assumption)|assumption);have q147:(ji38)<(l0_2.length:Int):=of_decide_eq_true (by first|(with_reducible assumption)|assumption);obtain ⟨ad147,e147,hx147_0,hx147_1,hx147_2,hx147_3,hx147_4⟩:=at_T56 HR0_2.out (ji38) p147 q147;obtain rfl:ad144=ad147:=(by injection e147);replace hx147_0:=(HB.out.cell (World.block_lt_of_cell? w _ hx147_0)).trans hx147_0;replace hx147_1:=(HB.out.cell (World.block_lt_of_cell? w _ hx147_1)).trans hx147_1;replace hx147_2:=(HB.out.cell (World.block_lt_of_cell? w _ hx147_2)).trans hx147_2;replace hx147_3:=(HB.out.cell (World.block_lt_of_cell? w _ hx147_3)).trans hx147_3;replace hx147_4:=(HB.out.cell (World.block_lt_of_cell? w _ hx147_4)).trans hx147_4;replace p147:=eq_true p147;replace q147:=eq_true q147))
             repeat (go_quiet (first|(go_at_call 81;(with_reducible refine (spindleref5_Word.calls k2 ((rd_T56 l0_2 x7_2).f0) true _ A35.out).mono ?_);rintro e w' ⟨rfl,⟨nd,rfl⟩⟩;(try first|exact ⟨rfl,_,World.drewN_drewN _ _ _⟩|exact ⟨rfl,_,Eq.trans (World.drewN_drewN _ _ _) (congrArg (World.drewN _) (Nat.add_assoc _ _ _))⟩);have p146:0≤(x7_2:Int):=of_decide_eq_true (by first|(with_reducible assumption)|assumption);have q146:x7_2<(l0_2.length:Int):=of_decide_eq_true (by first|(with_reducible assumption)|assumption);obtain ⟨ad146,e146,hx146_0,hx146_1,hx146_2,hx146_3,hx146_4⟩:=at_T56 HR0_2.out x7_2 p146 q146;obtain rfl:ad144=ad146:=(by injection e146);replace hx146_0:=(HB.out.cell (World.block_lt_of_cell? w _ hx146_0)).trans hx146_0;replace hx146_1:=(HB.out.cell (World.block_lt_of_cell? w _ hx146_1)).trans hx146_1;replace hx146_2:=(HB.out.cell (World.block_lt_of_cell? w _ hx146_2)).trans hx146_2;replace hx146_3:=(HB.out.cell (World.block_lt_of_cell? w _ hx146_3)).trans hx146_3;replace hx146_4:=(HB.out.cell (World.block_lt_of_cell? w _ hx146_4)).trans hx146_4;replace p146:=eq_true p146;replace q146:=eq_true q146;have p147:0≤((ji38):Int):=of_decide_eq_true (by first|(with_reducible assumption)|assumption);have q147:(ji38)<(l0_2.length:Int):=of_decide_eq_true (by first|(with_reducible assumption)|assumption);obtain ⟨ad147,e147,hx147_0,hx147_1,hx147_2,hx147_3,hx147_4⟩:=at_T56 HR0_2.out (ji38) p147 q147;obtain rfl:ad144=ad147:=(by injection e147);replace hx147_0:=(HB.out.cell (World.block_lt_of_cell? w _ hx147_0)).trans hx147_0;replace hx147_1:=(HB.out.cell (World.block_lt_of_cell? w _ hx147_1)).trans hx147_1;replace hx147_2:=(HB.out.cell (World.block_lt_of_cell? w _ hx147_2)).trans hx147_2;replace hx147_3:=(HB.out.cell (World.block_lt_of_cell? w _ hx147_3)).trans hx147_3;replace hx147_4:=(HB.out.cell (World.block_lt_of_cell? w _ hx147_4)).trans hx147_4;replace p147:=eq_true p147;replace q147:=eq_true q147));try go_wp2_with (first|(go_at_call 81;(with_reducible refine (spindleref5_Word.calls k2 ((rd_T56 l0_2 x7_2).f0) true _ A35.out).mono ?_);rintro e w' ⟨rfl,⟨nd,rfl⟩⟩;(try first|exact ⟨rfl,_,World.drewN_drewN _ _ _⟩|exact ⟨rfl,_,Eq.trans (World.drewN_drewN _ _ _) (congrArg (World.drewN _) (Nat.add_assoc _ _ _))⟩);have p146:0≤(x7_2:Int):=of_decide_eq_true (by first|(with_reducible assumption)|assumption);have q146:x7_2<(l0_2.length:Int):=of_decide_eq_true (by first|(with_reducible assumption)|assumption);obtain ⟨ad146,e146,hx146_0,hx146_1,hx146_2,hx146_3,hx146_4⟩:=at_T56 HR0_2.out x7_2 p146 q146;obtain rfl:ad144=ad146:=(by injection e146);replace hx146_0:=(HB.out.cell (World.block_lt_of_cell? w _ hx146_0)).trans hx146_0;replace hx146_1:=(HB.out.cell (World.block_lt_of_cell? w _ hx146_1)).trans hx146_1;replace hx146_2:=(HB.out.cell (World.block_lt_of_cell? w _ hx146_2)).trans hx146_2;replace hx146_3:=(HB.out.cell (World.block_lt_of_cell? w _ hx146_3)).trans hx146_3;replace hx146_4:=(HB.out.cell (World.block_lt_of_cell? w _ hx146_4)).trans hx146_4;replace p146:=eq_true p146;replace q146:=eq_true q146;have p147:0≤((ji38):Int):=of_decide_eq_true (by first|(with_reducible assumption)|assumption);have q147:(ji38)<(l0_2.length:Int):=of_decide_eq_true (by first|(with_reducible assumption)|assumption);obtain ⟨ad147,e147,hx147_0,hx147_1,hx147_2,hx147_3,hx147_4⟩:=at_T56 HR0_2.out (ji38) p147 q147;obtain rfl:ad144=ad147:=(by injection e147);replace hx147_0:=(HB.out.cell (World.block_lt_of_cell? w _ hx147_0)).trans hx147_0;replace hx147_1:=(HB.out.cell (World.block_lt_of_cell? w _ hx147_1)).trans hx147_1;replace hx147_2:=(HB.out.cell (World.block_lt_of_cell? w _ hx147_2)).trans hx147_2;replace hx147_3:=(HB.out.cell (World.block_lt_of_cell? w _ hx147_3)).trans hx147_3;replace hx147_4:=(HB.out.cell (World.block_lt_of_cell? w _ hx147_4)).trans hx147_4;replace p147:=eq_true p147;replace q147:=eq_true q147)))
             go_roundg k2
             case measure=>have:=HK1.out;have:=HK2.out;omega
             case rel=>exact ⟨(wrap64 (x7_2+1)),(by first|rfl|(simp;done)|(simp [*];done)),H',⟨by have:=HK1.out;have:=HK2.out;omega⟩,⟨by (with_reducible repeat (first|refine bkN ?_ _|refine bkD ?_|refine bkA ?_ _));exact BK138.out⟩,⟨by repeat (first|(with_reducible first|exact HB.out|apply bdA|apply bdN|apply bd1|refine bdS ?_ GE138.out)|exact HB.out)⟩⟩
            ·rw [if_neg c41] at H
             have c41b0:(Op.bytesLess (((rd_T56 l0_2 (ji38)).f0).toList) (((rd_T56 l0_2 x7_2).f0).toList))=false:=by simpa using c41
             clear c41
             obtain rfl:=Option.some.inj H
             have hcz43_0:wr.cell? ⟨gb138,0,none⟩=some (.slice A0_0 l0_0.length c0_0):=(bkC BK138.out 0).trans rfl
             have hcz43_1:wr.cell? ⟨gb138,1,none⟩=some (.slice A0_1 l0_1.length c0_1):=(bkC BK138.out 1).trans rfl
             have hcz43_2:wr.cell? ⟨gb138,2,none⟩=some (.slice A0_2 l0_2.length c0_2):=(bkC BK138.out 2).trans rfl
             have hcz43_3:wr.cell? ⟨gb138,3,none⟩=some (.int .i64 a0_3):=(bkC BK138.out 3).trans rfl
             have hfz43_0:=bkF BK138.out 0
             have hfz43_1:=bkF BK138.out 1
             have hfz43_2:=bkF BK138.out 2
             have hfz43_3:=bkF BK138.out 3
             have p144:0≤(x7_2:Int):=of_decide_eq_true (by first|(with_reducible assumption)|assumption)
             have q144:x7_2<(l0_2.length:Int):=of_decide_eq_true (by first|(with_reducible assumption)|assumption)
             obtain ⟨ad144,e144,hx144_0,hx144_1,hx144_2,hx144_3,hx144_4⟩:=at_T56 HR0_2.out x7_2 p144 q144
             cases e144
             replace hx144_0:=(HB.out.cell (World.block_lt_of_cell? w _ hx144_0)).trans hx144_0
             replace hx144_1:=(HB.out.cell (World.block_lt_of_cell? w _ hx144_1)).trans hx144_1
             replace hx144_2:=(HB.out.cell (World.block_lt_of_cell? w _ hx144_2)).trans hx144_2
             replace hx144_3:=(HB.out.cell (World.block_lt_of_cell? w _ hx144_3)).trans hx144_3
             replace hx144_4:=(HB.out.cell (World.block_lt_of_cell? w _ hx144_4)).trans hx144_4
             replace p144:=eq_true p144
             replace q144:=eq_true q144
             go_wp2_with (first|(go_at_call 81;(with_reducible refine (spindleref5_Word.calls k2 ((rd_T56 l0_2 x7_2).f0) true _ A35.out).mono ?_);rintro e w' ⟨rfl,⟨nd,rfl⟩⟩;(try first|exact ⟨rfl,_,World.drewN_drewN _ _ _⟩|exact ⟨rfl,_,Eq.trans (World.drewN_drewN _ _ _) (congrArg (World.drewN _) (Nat.add_assoc _ _ _))⟩);have p146:0≤(x7_2:Int):=of_decide_eq_true (by first|(with_reducible assumption)|assumption);have q146:x7_2<(l0_2.length:Int):=of_decide_eq_true (by first|(with_reducible assumption)|assumption);obtain ⟨ad146,e146,hx146_0,hx146_1,hx146_2,hx146_3,hx146_4⟩:=at_T56 HR0_2.out x7_2 p146 q146;obtain rfl:ad144=ad146:=(by injection e146);replace hx146_0:=(HB.out.cell (World.block_lt_of_cell? w _ hx146_0)).trans hx146_0;replace hx146_1:=(HB.out.cell (World.block_lt_of_cell? w _ hx146_1)).trans hx146_1;replace hx146_2:=(HB.out.cell (World.block_lt_of_cell? w _ hx146_2)).trans hx146_2;replace hx146_3:=(HB.out.cell (World.block_lt_of_cell? w _ hx146_3)).trans hx146_3;replace hx146_4:=(HB.out.cell (World.block_lt_of_cell? w _ hx146_4)).trans hx146_4;replace p146:=eq_true p146;replace q146:=eq_true q146;have p147:0≤((ji38):Int):=of_decide_eq_true (by first|(with_reducible assumption)|assumption);have q147:(ji38)<(l0_2.length:Int):=of_decide_eq_true (by first|(with_reducible assumption)|assumption);obtain ⟨ad147,e147,hx147_0,hx147_1,hx147_2,hx147_3,hx147_4⟩:=at_T56 HR0_2.out (ji38) p147 q147;obtain rfl:ad144=ad147:=(by injection e147);replace hx147_0:=(HB.out.cell (World.block_lt_of_cell? w _ hx147_0)).trans hx147_0;replace hx147_1:=(HB.out.cell (World.block_lt_of_cell? w _ hx147_1)).trans hx147_1;replace hx147_2:=(HB.out.cell (World.block_lt_of_cell? w _ hx147_2)).trans hx147_2;replace hx147_3:=(HB.out.cell (World.block_lt_of_cell? w _ hx147_3)).trans hx147_3;replace hx147_4:=(HB.out.cell (World.block_lt_of_cell? w _ hx147_4)).trans hx147_4;replace p147:=eq_true p147;replace q147:=eq_true q147))
             repeat (go_quiet (first|(go_at_call 81;(with_reducible refine (spindleref5_Word.calls k2 ((rd_T56 l0_2 x7_2).f0) true _ A35.out).mono ?_);rintro e w' ⟨rfl,⟨nd,rfl⟩⟩;(try first|exact ⟨rfl,_,World.drewN_drewN _ _ _⟩|exact ⟨rfl,_,Eq.trans (World.drewN_drewN _ _ _) (congrArg (World.drewN _) (Nat.add_assoc _ _ _))⟩);have p146:0≤(x7_2:Int):=of_decide_eq_true (by first|(with_reducible assumption)|assumption);have q146:x7_2<(l0_2.length:Int):=of_decide_eq_true (by first|(with_reducible assumption)|assumption);obtain ⟨ad146,e146,hx146_0,hx146_1,hx146_2,hx146_3,hx146_4⟩:=at_T56 HR0_2.out x7_2 p146 q146;obtain rfl:ad144=ad146:=(by injection e146);replace hx146_0:=(HB.out.cell (World.block_lt_of_cell? w _ hx146_0)).trans hx146_0;replace hx146_1:=(HB.out.cell (World.block_lt_of_cell? w _ hx146_1)).trans hx146_1;replace hx146_2:=(HB.out.cell (World.block_lt_of_cell? w _ hx146_2)).trans hx146_2;replace hx146_3:=(HB.out.cell (World.block_lt_of_cell? w _ hx146_3)).trans hx146_3;replace hx146_4:=(HB.out.cell (World.block_lt_of_cell? w _ hx146_4)).trans hx146_4;replace p146:=eq_true p146;replace q146:=eq_true q146;have p147:0≤((ji38):Int):=of_decide_eq_true (by first|(with_reducible assumption)|assumption);have q147:(ji38)<(l0_2.length:Int):=of_decide_eq_true (by first|(with_reducible assumption)|assumption);obtain ⟨ad147,e147,hx147_0,hx147_1,hx147_2,hx147_3,hx147_4⟩:=at_T56 HR0_2.out (ji38) p147 q147;obtain rfl:ad144=ad147:=(by injection e147);replace hx147_0:=(HB.out.cell (World.block_lt_of_cell? w _ hx147_0)).trans hx147_0;replace hx147_1:=(HB.out.cell (World.block_lt_of_cell? w _ hx147_1)).trans hx147_1;replace hx147_2:=(HB.out.cell (World.block_lt_of_cell? w _ hx147_2)).trans hx147_2;replace hx147_3:=(HB.out.cell (World.block_lt_of_cell? w _ hx147_3)).trans hx147_3;replace hx147_4:=(HB.out.cell (World.block_lt_of_cell? w _ hx147_4)).trans hx147_4;replace p147:=eq_true p147;replace q147:=eq_true q147));try go_wp2_with (first|(go_at_call 81;(with_reducible refine (spindleref5_Word.calls k2 ((rd_T56 l0_2 x7_2).f0) true _ A35.out).mono ?_);rintro e w' ⟨rfl,⟨nd,rfl⟩⟩;(try first|exact ⟨rfl,_,World.drewN_drewN _ _ _⟩|exact ⟨rfl,_,Eq.trans (World.drewN_drewN _ _ _) (congrArg (World.drewN _) (Nat.add_assoc _ _ _))⟩);have p146:0≤(x7_2:Int):=of_decide_eq_true (by first|(with_reducible assumption)|assumption);have q146:x7_2<(l0_2.length:Int):=of_decide_eq_true (by first|(with_reducible assumption)|assumption);obtain ⟨ad146,e146,hx146_0,hx146_1,hx146_2,hx146_3,hx146_4⟩:=at_T56 HR0_2.out x7_2 p146 q146;obtain rfl:ad144=ad146:=(by injection e146);replace hx146_0:=(HB.out.cell (World.block_lt_of_cell? w _ hx146_0)).trans hx146_0;replace hx146_1:=(HB.out.cell (World.block_lt_of_cell? w _ hx146_1)).trans hx146_1;replace hx146_2:=(HB.out.cell (World.block_lt_of_cell? w _ hx146_2)).trans hx146_2;replace hx146_3:=(HB.out.cell (World.block_lt_of_cell? w _ hx146_3)).trans hx146_3;replace hx146_4:=(HB.out.cell (World.block_lt_of_cell? w _ hx146_4)).trans hx146_4;replace p146:=eq_true p146;replace q146:=eq_true q146;have p147:0≤((ji38):Int):=of_decide_eq_true (by first|(with_reducible assumption)|assumption);have q147:(ji38)<(l0_2.length:Int):=of_decide_eq_true (by first|(with_reducible assumption)|assumption);obtain ⟨ad147,e147,hx147_0,hx147_1,hx147_2,hx147_3,hx147_4⟩:=at_T56 HR0_2.out (ji38) p147 q147;obtain rfl:ad144=ad147:=(by injection e147);replace hx147_0:=(HB.out.cell (World.block_lt_of_cell? w _ hx147_0)).trans hx147_0;replace hx147_1:=(HB.out.cell (World.block_lt_of_cell? w _ hx147_1)).trans hx147_1;replace hx147_2:=(HB.out.cell (World.block_lt_of_cell? w _ hx147_2)).trans hx147_2;replace hx147_3:=(HB.out.cell (World.block_lt_of_cell? w _ hx147_3)).trans hx147_3;replace hx147_4:=(HB.out.cell (World.block_lt_of_cell? w _ hx147_4)).trans hx147_4;replace p147:=eq_true p147;replace q147:=eq_true q147)))
             go_ret
             exact ⟨by first|rfl|(simp [errW_none,errW_some] <;> rfl)|(simp only [← hji38];first|rfl|(simp [errW_none,errW_some] <;> rfl))|(simp [*,errW_none,errW_some] <;> rfl),by repeat (first|(with_reducible first|exact HB.out|apply bdA|apply bdN|apply bd1|refine bdS ?_ GE138.out)|exact HB.out)⟩
           ·rw [if_neg c40] at H
            exact absurd H (by simp)
          ·rw [if_neg c39] at H
           exact absurd H (by simp)
         ·rw [if_neg c37] at H
          have c37b0:decide (0<x7_2)=false:=decide_eq_false c37
          clear c37
          have H':=As0.mk H
          clear H
          have hcz44_0:wr.cell? ⟨gb138,0,none⟩=some (.slice A0_0 l0_0.length c0_0):=(bkC BK138.out 0).trans rfl
          have hcz44_1:wr.cell? ⟨gb138,1,none⟩=some (.slice A0_1 l0_1.length c0_1):=(bkC BK138.out 1).trans rfl
          have hcz44_2:wr.cell? ⟨gb138,2,none⟩=some (.slice A0_2 l0_2.length c0_2):=(bkC BK138.out 2).trans rfl
          have hcz44_3:wr.cell? ⟨gb138,3,none⟩=some (.int .i64 a0_3):=(bkC BK138.out 3).trans rfl
          have hfz44_0:=bkF BK138.out 0
          have hfz44_1:=bkF BK138.out 1
          have hfz44_2:=bkF BK138.out 2
          have hfz44_3:=bkF BK138.out 3
          have p144:0≤(x7_2:Int):=of_decide_eq_true (by first|(with_reducible assumption)|assumption)
          have q144:x7_2<(l0_2.length:Int):=of_decide_eq_true (by first|(with_reducible assumption)|assumption)
          obtain ⟨ad144,e144,hx144_0,hx144_1,hx144_2,hx144_3,hx144_4⟩:=at_T56 HR0_2.out x7_2 p144 q144
          cases e144
          replace hx144_0:=(HB.out.cell (World.block_lt_of_cell? w _ hx144_0)).trans hx144_0
          replace hx144_1:=(HB.out.cell (World.block_lt_of_cell? w _ hx144_1)).trans hx144_1
          replace hx144_2:=(HB.out.cell (World.block_lt_of_cell? w _ hx144_2)).trans hx144_2
          replace hx144_3:=(HB.out.cell (World.block_lt_of_cell? w _ hx144_3)).trans hx144_3
          replace hx144_4:=(HB.out.cell (World.block_lt_of_cell? w _ hx144_4)).trans hx144_4
          replace p144:=eq_true p144
          replace q144:=eq_true q144
          go_wp2_with (first|(go_at_call 81;(with_reducible refine (spindleref5_Word.calls k2 ((rd_T56 l0_2 x7_2).f0) true _ A35.out).mono ?_);rintro e w' ⟨rfl,⟨nd,rfl⟩⟩;(try first|exact ⟨rfl,_,World.drewN_drewN _ _ _⟩|exact ⟨rfl,_,Eq.trans (World.drewN_drewN _ _ _) (congrArg (World.drewN _) (Nat.add_assoc _ _ _))⟩)))
          repeat (go_quiet (first|(go_at_call 81;(with_reducible refine (spindleref5_Word.calls k2 ((rd_T56 l0_2 x7_2).f0) true _ A35.out).mono ?_);rintro e w' ⟨rfl,⟨nd,rfl⟩⟩;(try first|exact ⟨rfl,_,World.drewN_drewN _ _ _⟩|exact ⟨rfl,_,Eq.trans (World.drewN_drewN _ _ _) (congrArg (World.drewN _) (Nat.add_assoc _ _ _))⟩)));try go_wp2_with (first|(go_at_call 81;(with_reducible refine (spindleref5_Word.calls k2 ((rd_T56 l0_2 x7_2).f0) true _ A35.out).mono ?_);rintro e w' ⟨rfl,⟨nd,rfl⟩⟩;(try first|exact ⟨rfl,_,World.drewN_drewN _ _ _⟩|exact ⟨rfl,_,Eq.trans (World.drewN_drewN _ _ _) (congrArg (World.drewN _) (Nat.add_assoc _ _ _))⟩))))
          go_roundg k2
          case measure=>have:=HK1.out;have:=HK2.out;omega
          case rel=>exact ⟨(wrap64 (x7_2+1)),(by first|rfl|(simp;done)|(simp [*];done)),H',⟨by have:=HK1.out;have:=HK2.out;omega⟩,⟨by (with_reducible repeat (first|refine bkN ?_ _|refine bkD ?_|refine bkA ?_ _));exact BK138.out⟩,⟨by repeat (first|(with_reducible first|exact HB.out|apply bdA|apply bdN|apply bd1|refine bdS ?_ GE138.out)|exact HB.out)⟩⟩
        ·replace c36:=Bool.eq_false_iff.mpr c36
         subst c36
         have H1:(some (wrap64 ((l0_1.length:Int)+x7_2)))=some r:=by rw [if_neg (show ¬ (false=true) by decide)] at H;exact H
         clear H
         have H:=H1
         clear H1
         obtain rfl:=Option.some.inj H
         have hcz45_0:wr.cell? ⟨gb138,0,none⟩=some (.slice A0_0 l0_0.length c0_0):=(bkC BK138.out 0).trans rfl
         have hcz45_1:wr.cell? ⟨gb138,1,none⟩=some (.slice A0_1 l0_1.length c0_1):=(bkC BK138.out 1).trans rfl
         have hcz45_2:wr.cell? ⟨gb138,2,none⟩=some (.slice A0_2 l0_2.length c0_2):=(bkC BK138.out 2).trans rfl
         have hcz45_3:wr.cell? ⟨gb138,3,none⟩=some (.int .i64 a0_3):=(bkC BK138.out 3).trans rfl
         have hfz45_0:=bkF BK138.out 0
         have hfz45_1:=bkF BK138.out 1
         have hfz45_2:=bkF BK138.out 2
         have hfz45_3:=bkF BK138.out 3
         have p144:0≤(x7_2:Int):=of_decide_eq_true (by first|(with_reducible assumption)|assumption)
         have q144:x7_2<(l0_2.length:Int):=of_decide_eq_true (by first|(with_reducible assumption)|assumption)
         obtain ⟨ad144,e144,hx144_0,hx144_1,hx144_2,hx144_3,hx144_4⟩:=at_T56 HR0_2.out x7_2 p144 q144
         cases e144
         replace hx144_0:=(HB.out.cell (World.block_lt_of_cell? w _ hx144_0)).trans hx144_0
         replace hx144_1:=(HB.out.cell (World.block_lt_of_cell? w _ hx144_1)).trans hx144_1
         replace hx144_2:=(HB.out.cell (World.block_lt_of_cell? w _ hx144_2)).trans hx144_2
         replace hx144_3:=(HB.out.cell (World.block_lt_of_cell? w _ hx144_3)).trans hx144_3
         replace hx144_4:=(HB.out.cell (World.block_lt_of_cell? w _ hx144_4)).trans hx144_4
         replace p144:=eq_true p144
         replace q144:=eq_true q144
         go_wp2_with (first|(go_at_call 81;(with_reducible refine (spindleref5_Word.calls k2 ((rd_T56 l0_2 x7_2).f0) false _ A35.out).mono ?_);rintro e w' ⟨rfl,⟨nd,rfl⟩⟩;(try first|exact ⟨rfl,_,World.drewN_drewN _ _ _⟩|exact ⟨rfl,_,Eq.trans (World.drewN_drewN _ _ _) (congrArg (World.drewN _) (Nat.add_assoc _ _ _))⟩)))
         repeat (go_quiet (first|(go_at_call 81;(with_reducible refine (spindleref5_Word.calls k2 ((rd_T56 l0_2 x7_2).f0) false _ A35.out).mono ?_);rintro e w' ⟨rfl,⟨nd,rfl⟩⟩;(try first|exact ⟨rfl,_,World.drewN_drewN _ _ _⟩|exact ⟨rfl,_,Eq.trans (World.drewN_drewN _ _ _) (congrArg (World.drewN _) (Nat.add_assoc _ _ _))⟩)));try go_wp2_with (first|(go_at_call 81;(with_reducible refine (spindleref5_Word.calls k2 ((rd_T56 l0_2 x7_2).f0) false _ A35.out).mono ?_);rintro e w' ⟨rfl,⟨nd,rfl⟩⟩;(try first|exact ⟨rfl,_,World.drewN_drewN _ _ _⟩|exact ⟨rfl,_,Eq.trans (World.drewN_drewN _ _ _) (congrArg (World.drewN _) (Nat.add_assoc _ _ _))⟩))))
         go_ret
         exact ⟨by first|rfl|(simp [errW_none,errW_some] <;> rfl)|(simp [*,errW_none,errW_some] <;> rfl),by repeat (first|(with_reducible first|exact HB.out|apply bdA|apply bdN|apply bd1|refine bdS ?_ GE138.out)|exact HB.out)⟩
       ·rw [if_neg c34] at H
        exact absurd H (by simp)
      ·rw [if_neg c33] at H
       have c33b0:decide (x7_2<(l0_2.length:Int))=false:=decide_eq_false c33
       clear c33
       obtain rfl:=Option.some.inj H
       have hcz46_0:wr.cell? ⟨gb138,0,none⟩=some (.slice A0_0 l0_0.length c0_0):=(bkC BK138.out 0).trans rfl
       have hcz46_1:wr.cell? ⟨gb138,1,none⟩=some (.slice A0_1 l0_1.length c0_1):=(bkC BK138.out 1).trans rfl
       have hcz46_2:wr.cell? ⟨gb138,2,none⟩=some (.slice A0_2 l0_2.length c0_2):=(bkC BK138.out 2).trans rfl
       have hcz46_3:wr.cell? ⟨gb138,3,none⟩=some (.int .i64 a0_3):=(bkC BK138.out 3).trans rfl
       have hfz46_0:=bkF BK138.out 0
       have hfz46_1:=bkF BK138.out 1
       have hfz46_2:=bkF BK138.out 2
       have hfz46_3:=bkF BK138.out 3
       go_wp2
       repeat (go_quiet (fail);try go_wp2)
       go_ret
       exact ⟨by first|rfl|(simp [errW_none,errW_some] <;> rfl)|(simp [*,errW_none,errW_some] <;> rfl),by repeat (first|(with_reducible first|exact HB.out|apply bdA|apply bdN|apply bd1|refine bdS ?_ GE138.out)|exact HB.out)⟩
end Go.Proofs.Ytbeikcckcjadbaa.PI
end
