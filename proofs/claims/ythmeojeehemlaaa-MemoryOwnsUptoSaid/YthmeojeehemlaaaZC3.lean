/- Parts of the proof, laid together by a program of this session (pack.py): ZA3. Of the kit's print what the claim does not use is left out. -/
import Derived.Test.YthmeojeehemlaaaZC2
set_option linter.unusedVariables false
set_option linter.unusedSimpArgs false
set_option maxRecDepth 100000
set_option maxHeartbeats 16000000
section
section
namespace Go.Proofs.Ythmeojeehemlaaa.PM
open Go.RowKit Go.Proofs.YthmeojeehemlaaaW.PrintWords Go.Proofs.YthmeojeehemlaaaW.PrintLast Go.Proofs.YthmeojeehemlaaaW.PrintMore
attribute [local go_sem] isSome_setCell max2_int min2_int max_two min_two max_three min_three max_four min_four
def spindlelaw0_Num.f (a0:Int):Option (Int):=some a0
theorem spindlelaw0_Num.calls (a0:Int) (r:Int) (w:World) (h:spindlelaw0_Num.f a0=some r) :
  Calls Try.prog 37 #[.int .i64 a0] w fun e w'=>e=.returned (.int .i64 r)∧Drawn0 w w':=by
 have H:(some a0)=some r:=h
 clear h
 obtain rfl:=Option.some.inj H
 go_enter Try.func37,Try.ntmps37
 go_wp2
 go_ret
 exact ⟨by first|rfl|(simp;done)|(simp [*];done),by repeat (first|exact Drawn0.refl _|apply Drawn0.step)⟩
def IsS85 (w0 W:World) (g:Nat) (f0:List Int) (f1:Int):Prop:=∃ A0 c0,W.heap[g]?=some (.cells #[.slice A0 f0.length c0,.int .i64 f1] 85 (0,0))∧w0.heap.size≤g∧Kd.C (Kd.int .u8) w0 A0 f0.length f0
theorem IsS85.grown {w0 W:World} {g:Nat} {f0:List Int} {f1:Int} {W1:World} {row:Option Nat} (h:IsS85 w0 W g f0 f1) (hw:W.grownBy W1 row) (hne:some g≠row):IsS85 w0 W1 g f0 f1:=by
 obtain ⟨A0,c0,hb,hg,hr0⟩:=h
 exact ⟨A0,c0,blk_grown hb hw hne,hg,hr0⟩
theorem IsS85.below {w0 W:World} {g:Nat} {f0:List Int} {f1:Int} {W1:World} (h:IsS85 w0 W g f0 f1) (hw:Below W.heap.size W W1):IsS85 w0 W1 g f0 f1:=h.grown (grown_of_below hw none) (by simp)
theorem IsS85.alloc {w0 W:World} {g:Nat} {f0:List Int} {f1:Int} (h:IsS85 w0 W g f0 f1) (o:Obj):IsS85 w0 (W.alloc o) g f0 f1:=h.below (below_alloc (Below.refl _ _) o)
theorem IsS85.drewN {w0 W:World} {g:Nat} {f0:List Int} {f1:Int} (h:IsS85 w0 W g f0 f1) (m:Nat):IsS85 w0 (W.drewN m) g f0 f1:=h
theorem IsS85.drew {w0 W:World} {g:Nat} {f0:List Int} {f1:Int} (h:IsS85 w0 W g f0 f1):IsS85 w0 W.drew g f0 f1:=h
theorem IsS85.lt {w0 W:World} {g:Nat} {f0:List Int} {f1:Int} (h:IsS85 w0 W g f0 f1):g<W.heap.size:=by
 obtain ⟨A0,c0,hb,hg,hr0⟩:=h
 exact blk_lt hb
def spindlelaw0_Lender_mark.f (s0_0:List Int) (s0_1:Int) (a1:Int):Option (Int × Int):=some ((wrap64 (203 - (wrap64 (5*a1)))) % 256,s0_1)
def spindleref20_Space_Remove.l0:Nat→Int→Int→Int→List (S39)→List (S39)→Option ((List (S39)) × Int)
 | 0,_,_,_,_,_=>none
 | k+1,x1,x7,x8,x233000,x235000=>if x8<(x233000.length:Int) then (if 0≤x8 then (if ((rd_T39 x233000 x8).f0)=x1 then (spindleref20_Space_Remove.l0 k x1 0 (wrap64 (x8+1)) x233000 x235000) else ((spindleref20_copied.f ((rd_T39 x233000 x8).f0) ((rd_T39 x233000 x8).f1)).bind fun bt237=>(if x235000.length<4398046511104 then (spindleref20_Space_Remove.l0 k x1 x7 (wrap64 (x8+1)) x233000 (x235000 ++ [(⟨bt237.1,bt237.2⟩:S39)])) else (none)))) else (none)) else (if x7=0 then (some (x235000,0)) else (some (x233000,x7)))
def spindleref20_Space_Remove.f (k:Nat) (l0_0:List (S39)) (a1:Int):Option ((List (S39)) × Int):=spindleref20_Space_Remove.l0 k a1 201 0 l0_0 ([]:List (S39))
def spindleref20_Space_Remove.T8:Bool × List (List Nat × List Nat):=(true,[([],[]),([0],[0]),([],[]),([2],[2]),([],[]),([3,4],[3,4]),([5],[5]),([6],[6]),([7],[7]),([1,8,7],[1,8]),([0,1,2,3,4,5,6,7,8,9],[]),([10,9,9,0,1,2,3,4,5,6,7,8,9],[9,10])])
def spindleref20_Space_Remove.B8:List Nat:=[0,1,0,4,0,28,60,124,252,511,1023,2047]
theorem spindleref20_Space_Remove.tab8:rtab .any (opsOf Try.f42 8)=spindleref20_Space_Remove.T8:=by kernel_rfl
theorem spindleref20_Space_Remove.bits8:waitsOk spindleref20_Space_Remove.T8.2 spindleref20_Space_Remove.B8=true:=by kernel_rfl
theorem spindleref20_Space_Remove.calls (k:Nat) (P0_0_:Nat→Prop) (A0_0:Option Addr) (c0_0:Nat) (l0_0:List (S39)) (a1:Int) (r1:List (S39)) (r2:Int) (w:World) (hs0_0:Kd.V k39 39 w w.heap.size (fun k_=>P0_0_ k_) (.slice A0_0 l0_0.length c0_0) l0_0) (h:spindleref20_Space_Remove.f k l0_0 a1=some (r1,r2)) :
  Calls Try.prog 42 #[.agg #[.slice A0_0 l0_0.length c0_0],.int .u64 a1] w fun e w'=>∃ v0_:Value,e=.returned (.tuple #[.agg #[v0_],.int .i64 r2])∧Kd.V k39 39 w' w.heap.size (fun k_=>(P0_0_ k_∨w.heap.size≤k_)) v0_ r1∧Below w.heap.size w w':=by
 have hu78:=Try.underlying78
 have hu39:=Try.underlying39
 have HO0_0:=Aside0.mk (show Kd.V k39 39 w w.heap.size (fun k_=>(P0_0_ k_∨w.heap.size≤k_)) (.slice A0_0 l0_0.length c0_0) l0_0 from Kd.V_mono hs0_0 (fun k_ hk=>.inl hk))
 have HB:=Aside0.mk (Below.refl w.heap.size w)
 have H:(spindleref20_Space_Remove.l0 k a1 201 0 l0_0 ([]:List (S39)))=some (r1,r2):=h
 clear h
 have H':=Aside0.mk H
 clear H
 go_enter Try.func42,Try.ntmps42
 go_wp2_with (first|((with_reducible refine gate_dst (N:=2) rfl ?_);refine box_event ?hg (N:=2) ?hd (cs:=#[.slice A0_0 l0_0.length c0_0]) (t:=78) ?hr ?_;(case hd=>rfl);(case hg=>rfl);(case hr=>first|(go_simp;done)|(go_simp;rfl));intro gb232 hg w3 hbox hb;have n0_:=Aside0.mk (Kd.V_below (Kd.V_elderB (by (with_reducible repeat (first|apply Kd.V_alloc|apply Kd.V_drewN|apply Kd.V_drew));exact HO0_0.out) gb232 (Nat.le_of_eq hg.symm)) hb);have n1_:=Aside0.mk (below_step (by repeat (first|(with_reducible first|exact HB.out|apply below_alloc|apply pw_below_drewN|apply below_drew1)|exact HB.out)) hb);have n2_:=Aside0.mk (hbox);have n3_:=Aside0.mk ((by rw [hg];exact (below_size (by repeat (first|(with_reducible first|exact HB.out|apply below_alloc|apply pw_below_drewN|apply below_drew1)|exact HB.out))):w.heap.size≤gb232));have n4_:=Aside0.mk ((by rw [hg];exact (below_size (by repeat (first|(with_reducible first|exact HB.out|apply below_alloc|apply pw_below_drewN|apply below_drew1)|exact HB.out))):w.heap.size≤gb232));clear HO0_0;clear HB;have HO0_0:=n0_;have HB:=n1_;have BK232:=n2_;have GW232:=n3_;have GE232:=n4_;clear n0_ n1_ n2_ n3_ n4_;clear hb hbox hg)|((with_reducible refine gate_dst (N:=4) rfl ?_);refine box_event ?hg (N:=4) ?hd (cs:=#[.slice none 0 0]) (t:=78) ?hr ?_;(case hd=>rfl);(case hg=>rfl);(case hr=>first|(go_simp;done)|(go_simp;rfl));intro gb233 hg w4 hbox hb;have n0_:=Aside0.mk (Kd.V_below (Kd.V_elderB (by (with_reducible repeat (first|apply Kd.V_alloc|apply Kd.V_drewN|apply Kd.V_drew));exact HO0_0.out) gb233 (Nat.le_of_eq hg.symm)) hb);have n1_:=Aside0.mk (blk_below (g:=gb232) (o:=.cells #[.slice A0_0 l0_0.length c0_0] 78 (0,0)) (by (with_reducible repeat (first|refine blk_drewN ?_ _|refine blk_drew ?_|refine blk_alloc ?_ _));exact BK232.out) hb);have n2_:=Aside0.mk (below_step (by repeat (first|(with_reducible first|exact HB.out|apply below_alloc|apply pw_below_drewN|apply below_drew1|refine below_set ?_ GE232.out)|exact HB.out)) hb);have n3_:=Aside0.mk (hbox);have n4_:=Aside0.mk ((by rw [hg];exact (below_size (by repeat (first|(with_reducible first|exact HB.out|apply below_alloc|apply pw_below_drewN|apply below_drew1|refine below_set ?_ GE232.out)|exact HB.out))):w.heap.size≤gb233));have n5_:=Aside0.mk ((by rw [hg];exact (below_size (by repeat (first|(with_reducible first|exact HB.out|apply below_alloc|apply pw_below_drewN|apply below_drew1|refine below_set ?_ GE232.out)|exact HB.out))):w.heap.size≤gb233));have n6_:=Aside0.mk ((by rw [hg];exact Nat.ne_of_lt (blk_lt (g:=gb232) (o:=.cells #[.slice A0_0 l0_0.length c0_0] 78 (0,0)) (by (with_reducible repeat (first|refine blk_drewN ?_ _|refine blk_drew ?_|refine blk_alloc ?_ _));exact BK232.out)):gb232≠gb233));have n7_:=Aside0.mk ((by rw [hg];exact Nat.ne_of_gt (blk_lt (g:=gb232) (o:=.cells #[.slice A0_0 l0_0.length c0_0] 78 (0,0)) (by (with_reducible repeat (first|refine blk_drewN ?_ _|refine blk_drew ?_|refine blk_alloc ?_ _));exact BK232.out)):gb233≠gb232));clear HO0_0;clear BK232;clear HB;have HO0_0:=n0_;have BK232:=n1_;have HB:=n2_;have BK233:=n3_;have GW233:=n4_;have GE233:=n5_;have NB232_233:=n6_;have NB233_232:=n7_;clear n0_ n1_ n2_ n3_ n4_ n5_ n6_ n7_;clear hb hbox hg)|((with_reducible refine gate_dst (N:=6) rfl ?_);refine box_event ?hg (N:=6) ?hd (cs:=#[.slice none 0 0]) (t:=78) ?hr ?_;(case hd=>rfl);(case hg=>rfl);(case hr=>first|(go_simp;done)|(go_simp;rfl));intro gb234 hg w5 hbox hb;have n0_:=Aside0.mk (Kd.V_below (Kd.V_elderB (by (with_reducible repeat (first|apply Kd.V_alloc|apply Kd.V_drewN|apply Kd.V_drew));exact HO0_0.out) gb234 (Nat.le_of_eq hg.symm)) hb);have n1_:=Aside0.mk (blk_below (g:=gb232) (o:=.cells #[.slice A0_0 l0_0.length c0_0] 78 (0,0)) (by (with_reducible repeat (first|refine blk_drewN ?_ _|refine blk_drew ?_|refine blk_alloc ?_ _));exact BK232.out) hb);have n2_:=Aside0.mk (blk_below (g:=gb233) (o:=.cells #[.slice none 0 0] 78 (0,0)) (by (with_reducible repeat (first|refine blk_drewN ?_ _|refine blk_drew ?_|refine blk_alloc ?_ _));exact BK233.out) hb);have n3_:=Aside0.mk (below_step (by repeat (first|(with_reducible first|exact HB.out|apply below_alloc|apply pw_below_drewN|apply below_drew1|refine below_set ?_ GE232.out|refine below_set ?_ GE233.out)|exact HB.out)) hb);have n4_:=Aside0.mk (hbox);have n5_:=Aside0.mk ((by rw [hg];exact (below_size (by repeat (first|(with_reducible first|exact HB.out|apply below_alloc|apply pw_below_drewN|apply below_drew1|refine below_set ?_ GE232.out|refine below_set ?_ GE233.out)|exact HB.out))):w.heap.size≤gb234));have n6_:=Aside0.mk ((by rw [hg];exact (below_size (by repeat (first|(with_reducible first|exact HB.out|apply below_alloc|apply pw_below_drewN|apply below_drew1|refine below_set ?_ GE232.out|refine below_set ?_ GE233.out)|exact HB.out))):w.heap.size≤gb234));have n7_:=Aside0.mk ((by rw [hg];exact Nat.ne_of_lt (blk_lt (g:=gb232) (o:=.cells #[.slice A0_0 l0_0.length c0_0] 78 (0,0)) (by (with_reducible repeat (first|refine blk_drewN ?_ _|refine blk_drew ?_|refine blk_alloc ?_ _));exact BK232.out)):gb232≠gb234));have n8_:=Aside0.mk ((by rw [hg];exact Nat.ne_of_gt (blk_lt (g:=gb232) (o:=.cells #[.slice A0_0 l0_0.length c0_0] 78 (0,0)) (by (with_reducible repeat (first|refine blk_drewN ?_ _|refine blk_drew ?_|refine blk_alloc ?_ _));exact BK232.out)):gb234≠gb232));have n9_:=Aside0.mk ((by rw [hg];exact Nat.ne_of_lt (blk_lt (g:=gb233) (o:=.cells #[.slice none 0 0] 78 (0,0)) (by (with_reducible repeat (first|refine blk_drewN ?_ _|refine blk_drew ?_|refine blk_alloc ?_ _));exact BK233.out)):gb233≠gb234));have n10_:=Aside0.mk ((by rw [hg];exact Nat.ne_of_gt (blk_lt (g:=gb233) (o:=.cells #[.slice none 0 0] 78 (0,0)) (by (with_reducible repeat (first|refine blk_drewN ?_ _|refine blk_drew ?_|refine blk_alloc ?_ _));exact BK233.out)):gb234≠gb233));clear HO0_0;clear BK232;clear BK233;clear HB;have HO0_0:=n0_;have BK232:=n1_;have BK233:=n2_;have HB:=n3_;have BK234:=n4_;have GW234:=n5_;have GE234:=n6_;have NB232_234:=n7_;have NB234_232:=n8_;have NB233_234:=n9_;have NB234_233:=n10_;clear n0_ n1_ n2_ n3_ n4_ n5_ n6_ n7_ n8_ n9_ n10_;clear hb hbox hg))
 go_loopg [7,8] k (fun kq v7 v8 w'=>∃ (x7_1:Int) (x8_1:Int) (x235000_1:List (S39)) (u235000:Value),v7=.int .i64 x7_1∧v8=.int .i64 x8_1∧Aside0 (spindleref20_Space_Remove.l0 kq a1 x7_1 x8_1 l0_0 x235000_1=some (r1,r2))∧Aside0 (kq≤k)∧Aside0 (Kd.V k39 39 w' w.heap.size (fun k_=>(P0_0_ k_∨w.heap.size≤k_)∧some k_≠(u235000:Value).ownBlock∧k_≠gb232∧k_≠gb233∧k_≠gb234) (.slice A0_0 l0_0.length c0_0) l0_0)∧Aside0 (Kd.S k39 39 w' w.heap.size (fun k_=>(w.heap.size≤k_)) u235000 x235000_1)∧Aside0 (w'.heap[gb232]?=some (.cells #[(.slice A0_0 l0_0.length c0_0)] 78 (0,0)))∧Aside0 (w'.heap[gb233]?=some (.cells #[(.slice none 0 0)] 78 (0,0)))∧Aside0 (w'.heap[gb234]?=some (.cells #[u235000] 78 (0,0)))∧Aside0 (Below w.heap.size w w'))
 case atStart=>exact ⟨(201),(0),(([]:List (S39))),(.slice none 0 0),(by first|rfl|(simp;done)|(simp [*];done)),(by first|rfl|(simp;done)|(simp [*];done)),H',⟨Nat.le_refl _⟩,⟨by (with_reducible repeat (first|apply Kd.V_alloc|apply Kd.V_drewN|apply Kd.V_drew));exact Kd.V_mono HO0_0.out (fun _ hk=>⟨hk.1.1.1,⟨(by simp [Value.ownBlock]),⟨hk.1.1.2,⟨hk.1.2,hk.2⟩⟩⟩⟩)⟩,⟨by first|exact Kd.S_nil _ _ _ _ _|exact Kd.N_nil _ _ _ _ _|exact Kd.V_nil _ _ _ _ _|exact Kd.Q_nil _ _ _ _ _|exact Kd.R_nil _ _ _ _ _⟩,⟨by (with_reducible repeat (first|refine blk_drewN ?_ _|refine blk_drew ?_|refine blk_alloc ?_ _));exact BK232.out⟩,⟨by (with_reducible repeat (first|refine blk_drewN ?_ _|refine blk_drew ?_|refine blk_alloc ?_ _));exact BK233.out⟩,⟨by (with_reducible repeat (first|refine blk_drewN ?_ _|refine blk_drew ?_|refine blk_alloc ?_ _));exact BK234.out⟩,⟨by repeat (first|(with_reducible first|exact HB.out|apply below_alloc|apply pw_below_drewN|apply below_drew1|refine below_set ?_ GE232.out|refine below_set ?_ GE233.out|refine below_set ?_ GE234.out)|exact HB.out)⟩⟩
 case round =>
  clear H'
  try clear p2
  try clear c4
  obtain ⟨x7_1,x8_1,x235000_1,u235000,rfl,rfl,HA,HK1,HO_233000,HO_235000,BK232,BK233,BK234,HB⟩:=hrel
  cases gk with
  | zero=>exact absurd HA.out (by simp [spindleref20_Space_Remove.l0])
  | succ k1 =>
   have H:=HA.out
   clear HA
   simp only [spindleref20_Space_Remove.l0] at H
   by_cases c6:x8_1<(l0_0.length:Int)
   ·rw [if_pos c6] at H
    have c6b0:decide (x8_1<(l0_0.length:Int))=true:=decide_eq_true c6
    clear c6
    by_cases c7:0≤x8_1
    ·rw [if_pos c7] at H
     have c7b0:decide (0≤x8_1)=true:=decide_eq_true c7
     clear c7
     by_cases c8:((rd_T39 l0_0 x8_1).f0)=a1
     ·rw [if_pos c8] at H
      have c8b0:(((rd_T39 l0_0 x8_1).f0) == a1)=true:=beq_iff_eq.mpr c8
      have c8b1:(((rd_T39 l0_0 x8_1).f0) != a1)=false:=bne_eq_false_iff_eq.mpr c8
      clear c8
      have H':=Aside0.mk H
      clear H
      have hnb9:=NB232_233.out
      have hnc9:=NB233_232.out
      have hnb10:=NB232_234.out
      have hnc10:=NB234_232.out
      have hcz11_0:wr.cell? ⟨gb232,0,none⟩=some (.slice A0_0 l0_0.length c0_0):=(blk_cell BK232.out 0).trans rfl
      have hfz11_0:=blk_frozen BK232.out 0
      have p235:0≤(x8_1:Int):=of_decide_eq_true (by first|(with_reducible assumption)|assumption)
      have q235:x8_1<(l0_0.length:Int):=of_decide_eq_true (by first|(with_reducible assumption)|assumption)
      obtain ⟨ad235,A235_1,c235_1,e235,hx235_0,hx235_1,hl235_1,hi235_1⟩:=at_T39 (Kd.V_reads' HO_233000.out).2.2 x8_1 p235 q235
      cases e235
      obtain ⟨ce235,hce235,hMe235,hcc235⟩:=Kd.V_get HO_233000.out z39 x8_1 p235 (by first|exact q235|exact of_decide_eq_true (by first|(with_reducible assumption)|assumption)|(have e_:=(Kd.V_reads' HO_233000.out).1;omega))
      obtain ⟨ua235_1,uc235_1,rfl,ul235_1,ge235_1⟩:=k39_openF hMe235
      have hv235_1:=hcc235 1 _ rfl
      rw [add_field _ _ 1 (by omega)] at hv235_1
      replace hv235_1:=Option.some.inj (hv235_1.symm.trans hx235_1)
      injection hv235_1 with hva_ hvn_ hvc_
      rw [hva_] at ge235_1
      rw [hvc_] at ul235_1
      have HL235_1:=Aside0.mk (show Kd.V (Kd.int .u8) 5 _ w.heap.size _ _ ((rd_T39 l0_0 x8_1).f1) from Kd.V_mk ul235_1 ge235_1)
      clear hva_ hvn_ hvc_ ge235_1 ul235_1 hcc235 hce235
      have HR235_1:=Aside0.mk hi235_1
      have HC235_1:=Aside0.mk hl235_1
      clear hi235_1 hl235_1
      replace p235:=eq_true p235
      replace q235:=eq_true q235
      go_wp2
      go_roundg k1
      case measure=>have:=HK1.out;omega
      case rel=>exact ⟨(0),(wrap64 (x8_1+1)),(x235000_1),(u235000),(by first|rfl|(simp;done)|(simp [*];done)),(by first|rfl|(simp;done)|(simp [*];done)),H',⟨by have:=HK1.out;omega⟩,⟨by (with_reducible repeat (first|apply Kd.V_alloc|apply Kd.V_drewN|apply Kd.V_drew));exact HO_233000.out⟩,⟨by (with_reducible repeat (first|apply Kd.S_alloc|apply Kd.S_drewN|apply Kd.S_drew));exact HO_235000.out⟩,⟨by (with_reducible repeat (first|refine blk_drewN ?_ _|refine blk_drew ?_|refine blk_alloc ?_ _));exact BK232.out⟩,⟨by (with_reducible repeat (first|refine blk_drewN ?_ _|refine blk_drew ?_|refine blk_alloc ?_ _));exact BK233.out⟩,⟨by (with_reducible repeat (first|refine blk_drewN ?_ _|refine blk_drew ?_|refine blk_alloc ?_ _));exact BK234.out⟩,⟨by repeat (first|(with_reducible first|exact HB.out|apply below_alloc|apply pw_below_drewN|apply below_drew1|refine below_set ?_ GE232.out|refine below_set ?_ GE233.out|refine below_set ?_ GE234.out)|exact HB.out)⟩⟩
     ·rw [if_neg c8] at H
      have c8b0:(((rd_T39 l0_0 x8_1).f0) == a1)=false:=beq_eq_false_iff_ne.mpr c8
      have c8b1:(((rd_T39 l0_0 x8_1).f0) != a1)=true:=bne_iff_ne.mpr c8
      replace H:=Option.bind_eq_some_iff.mp H
      obtain ⟨⟨t237,t238⟩,A120,H⟩:=H
      replace H:(if x235000_1.length<4398046511104 then (spindleref20_Space_Remove.l0 k1 a1 x7_1 (wrap64 (x8_1+1)) l0_0 (x235000_1 ++ [(⟨t237,t238⟩:S39)])) else (none))=some (r1,r2):=H
      have A12:=Aside0.mk A120
      clear A120
      by_cases c13:x235000_1.length<4398046511104
      ·rw [if_pos c13] at H
       have LMc13:=Aside0.mk c13
       clear c13
       obtain ⟨y241,hy241⟩:∃ y_:List (S39),y_=(x235000_1 ++ [(⟨t237,t238⟩:S39)]):=⟨_,rfl⟩
       replace H:(spindleref20_Space_Remove.l0 k1 a1 x7_1 (wrap64 (x8_1+1)) l0_0 y241)=some (r1,r2):=by first|(rw [hy241];with_reducible exact H)|(have H2_:=(Option.bind_some _ _).symm.trans H;rw [hy241];with_reducible exact H2_)|(have H2_:=(Option.bind_some _ _).symm.trans H;with_reducible exact H2_)|with_reducible exact H|(rw [hy241];exact H)|exact H
       have Ny241:=Aside0.mk hy241
       clear hy241
       have H':=Aside0.mk H
       clear H
       have hnb14:=NB232_233.out
       have hnc14:=NB233_232.out
       have hnb15:=NB232_234.out
       have hnc15:=NB234_232.out
       have hcz16_0:wr.cell? ⟨gb232,0,none⟩=some (.slice A0_0 l0_0.length c0_0):=(blk_cell BK232.out 0).trans rfl
       have hfz16_0:=blk_frozen BK232.out 0
       have p235:0≤(x8_1:Int):=of_decide_eq_true (by first|(with_reducible assumption)|assumption)
       have q235:x8_1<(l0_0.length:Int):=of_decide_eq_true (by first|(with_reducible assumption)|assumption)
       obtain ⟨ad235,A235_1,c235_1,e235,hx235_0,hx235_1,hl235_1,hi235_1⟩:=at_T39 (Kd.V_reads' HO_233000.out).2.2 x8_1 p235 q235
       cases e235
       obtain ⟨ce235,hce235,hMe235,hcc235⟩:=Kd.V_get HO_233000.out z39 x8_1 p235 (by first|exact q235|exact of_decide_eq_true (by first|(with_reducible assumption)|assumption)|(have e_:=(Kd.V_reads' HO_233000.out).1;omega))
       obtain ⟨ua235_1,uc235_1,rfl,ul235_1,ge235_1⟩:=k39_openF hMe235
       have hv235_1:=hcc235 1 _ rfl
       rw [add_field _ _ 1 (by omega)] at hv235_1
       replace hv235_1:=Option.some.inj (hv235_1.symm.trans hx235_1)
       injection hv235_1 with hva_ hvn_ hvc_
       rw [hva_] at ge235_1
       rw [hvc_] at ul235_1
       have HL235_1:=Aside0.mk (show Kd.V (Kd.int .u8) 5 _ w.heap.size _ _ ((rd_T39 l0_0 x8_1).f1) from Kd.V_mk ul235_1 ge235_1)
       clear hva_ hvn_ hvc_ ge235_1 ul235_1 hcc235 hce235
       have HR235_1:=Aside0.mk hi235_1
       have HC235_1:=Aside0.mk hl235_1
       clear hi235_1 hl235_1
       replace p235:=eq_true p235
       replace q235:=eq_true q235
       try go_wp2
       have n0_:=Aside0.mk (Kd.V_drew HO_233000.out)
       have n1_:=Aside0.mk (Kd.S_drew HO_235000.out)
       have n2_:=Aside0.mk (Kd.V_drew HL235_1.out)
       have n3_:=Aside0.mk (blk_drew BK232.out)
       have n4_:=Aside0.mk (blk_drew BK233.out)
       have n5_:=Aside0.mk (blk_drew BK234.out)
       have n6_:=Aside0.mk (Kd.C_drew HR235_1.out)
       have n7_:=Aside0.mk (below_drew1 HB.out)
       clear HO_233000 HO_235000 HL235_1 BK232 BK233 BK234 HR235_1 HB
       have HO_233000:=n0_
       have HO_235000:=n1_
       have HL235_1:=n2_
       have BK232:=n3_
       have BK233:=n4_
       have BK234:=n5_
       have HR235_1:=n6_
       have HB:=n7_
       clear n0_ n1_ n2_ n3_ n4_ n5_ n6_ n7_
       have p236:0≤(x8_1:Int):=of_decide_eq_true (by first|(with_reducible assumption)|assumption)
       have q236:x8_1<(l0_0.length:Int):=of_decide_eq_true (by first|(with_reducible assumption)|assumption)
       obtain ⟨ad236,A236_1,c236_1,e236,hx236_0,hx236_1,hl236_1,hi236_1⟩:=at_T39 (Kd.V_reads' HO_233000.out).2.2 x8_1 p236 q236
       obtain rfl:ad235=ad236:=(by injection e236)
       obtain ⟨ce236,hce236,hMe236,hcc236⟩:=Kd.V_get HO_233000.out z39 x8_1 p236 (by first|exact q236|exact of_decide_eq_true (by first|(with_reducible assumption)|assumption)|(have e_:=(Kd.V_reads' HO_233000.out).1;omega))
       obtain ⟨ua236_1,uc236_1,rfl,ul236_1,ge236_1⟩:=k39_openF hMe236
       have hv236_1:=hcc236 1 _ rfl
       rw [add_field _ _ 1 (by omega)] at hv236_1
       replace hv236_1:=Option.some.inj (hv236_1.symm.trans hx236_1)
       injection hv236_1 with hva_ hvn_ hvc_
       rw [hva_] at ge236_1
       rw [hvc_] at ul236_1
       have HL236_1:=Aside0.mk (show Kd.V (Kd.int .u8) 5 _ w.heap.size _ _ ((rd_T39 l0_0 x8_1).f1) from Kd.V_mk ul236_1 ge236_1)
       clear hva_ hvn_ hvc_ ge236_1 ul236_1 hcc236 hce236
       have HR236_1:=Aside0.mk hi236_1
       have HC236_1:=Aside0.mk hl236_1
       clear hi236_1 hl236_1
       replace p236:=eq_true p236
       replace q236:=eq_true q236
       refine start_ (n:=12) (S:=fun w'=>w'.cell? ⟨gb234,0,none⟩=some (u235000)∧w'.cell? ⟨gb232,0,none⟩=some (.slice (some ad235) l0_0.length c0_0)∧w'.cell? (ad235.add ((x8_1).toNat*2))=some (.int .u64 ((rd_T39 l0_0 x8_1).f0))∧w'.cell? ⟨(ad235.add ((x8_1).toNat*2)).block,(ad235.add ((x8_1).toNat*2)).off+1,none⟩=some (.slice A236_1 ((rd_T39 l0_0 x8_1).f1).length c236_1)) (ds:=[9,11]) #[false,false,false,false,false,false,false,false,false,false,false,false] (by kernel_rfl) rfl rfl ⟨(blk_cell BK234.out 0).trans rfl,(blk_cell BK232.out 0).trans rfl,hx236_0,hx236_1⟩ (fun hHeld=>?_);refine with_tabW spindleref20_Space_Remove.tab8 spindleref20_Space_Remove.bits8 (fun HT_ HW_=>?_)
       generalize wr.drew=w17 at HO_233000 HO_235000 HL235_1 BK232 BK233 BK234 HR235_1 HB HL236_1 HR236_1 hx236_0 hx236_1 hHeld ⊢
       refine pure_ (i:=0) (N:=some 24) (v:=?_) (a':=?_) #[true,false,false,false,false,false,false,false,false,false,false,false] rfl rfl (any_of HT_.out (by kernel_rfl)) (fun _ _ _ h=>h) (Or.inl ⟨by rfl,?_⟩) ?_ ?_
       rotate_left
       ·intro w'
        go_simp
        with_reducible rfl
       rotate_left
       ·simp only [Act.put,List.setIfInBounds_toArray,List.set_cons_zero,List.set_cons_succ,i64_w,i32_w]
        rfl
       refine pure_ (i:=2) (N:=some 26) (v:=?_) (a':=?_) #[true,false,true,false,false,false,false,false,false,false,false,false] rfl rfl (any_of HT_.out (by kernel_rfl)) (fun _ _ _ h=>h) (Or.inl ⟨by rfl,?_⟩) ?_ ?_
       rotate_left
       ·intro w'
        go_simp
        with_reducible rfl
       rotate_left
       ·simp only [Act.put,List.setIfInBounds_toArray,List.set_cons_zero,List.set_cons_succ,i64_w,i32_w]
        rfl
       refine pure_ (i:=4) (N:=some 28) (v:=?_) (a':=?_) #[true,false,true,false,true,false,false,false,false,false,false,false] rfl rfl (any_of HT_.out (by kernel_rfl)) (fun _ _ _ h=>h) (Or.inl ⟨by rfl,?_⟩) ?_ ?_
       rotate_left
       ·intro w'
        go_simp
        with_reducible rfl
       rotate_left
       ·simp only [Act.put,List.setIfInBounds_toArray,List.set_cons_zero,List.set_cons_succ,i64_w,i32_w]
        rfl
       refine take_ (i:=1) (N:=some 25) (v:=?_) (a':=?_) #[true,true,true,false,true,false,false,false,false,false,false,false] rfl rfl (take_ofW HT_.out HW_.out (by kernel_rfl)) (fun _ _ _ h=>h) (Or.inl ⟨by rfl,?_⟩) hHeld ?_ ?_
       rotate_left
       ·rintro w' ⟨s0,s1,s2,s3⟩
        go_simp
        with_reducible rfl
       rotate_left
       ·simp only [Act.put,List.setIfInBounds_toArray,List.set_cons_zero,List.set_cons_succ,i64_w,i32_w]
        rfl
       refine take_ (i:=3) (N:=some 27) (v:=?_) (a':=?_) #[true,true,true,true,true,false,false,false,false,false,false,false] rfl rfl (take_ofW HT_.out HW_.out (by kernel_rfl)) (fun _ _ _ h=>h) (Or.inl ⟨by rfl,?_⟩) hHeld ?_ ?_
       rotate_left
       ·rintro w' ⟨s0,s1,s2,s3⟩
        go_simp
        with_reducible rfl
       rotate_left
       ·simp only [Act.put,List.setIfInBounds_toArray,List.set_cons_zero,List.set_cons_succ,i64_w,i32_w]
        rfl
       refine pure_ (i:=5) (N:=some 29) (v:=?_) (a':=?_) #[true,true,true,true,true,true,false,false,false,false,false,false] rfl rfl (any_of HT_.out (by kernel_rfl)) (fun _ _ _ h=>h) (Or.inl ⟨by rfl,?_⟩) ?_ ?_
       rotate_left
       ·intro w'
        go_simp
        with_reducible rfl
       rotate_left
       ·simp only [Act.put,List.setIfInBounds_toArray,List.set_cons_zero,List.set_cons_succ,i64_w,i32_w]
        rfl
       refine take_ (i:=6) (N:=some 30) (v:=?_) (a':=?_) #[true,true,true,true,true,true,true,false,false,false,false,false] rfl rfl (take_ofW HT_.out HW_.out (by kernel_rfl)) (fun _ _ _ h=>h) (Or.inl ⟨by rfl,?_⟩) hHeld ?_ ?_
       rotate_left
       ·rintro w' ⟨s0,s1,s2,s3⟩
        go_simp
        with_reducible rfl
       rotate_left
       ·simp only [Act.put,List.setIfInBounds_toArray,List.set_cons_zero,List.set_cons_succ,i64_w,i32_w]
        rfl
       refine one_ (i:=7) (N:=some 31) #[true,true,true,true,true,true,true,true,false,false,false,false] rfl rfl (one_of HT_.out (by kernel_rfl)) (by decide) (fun K hK=>?_)
       refine goes_ Try.func72 (by kernel_rfl) rfl #[.agg #[.int .u64 ((rd_T39 l0_0 x8_1).f0),.slice A236_1 ((rd_T39 l0_0 x8_1).f1).length c236_1]] (by rfl) rfl rfl (by (try simp only [List.map_toArray,List.map_cons,List.map_nil]);first|done|rfl|(simp only [List.length_drop,List.length_take];rfl)) ?_
       with_reducible refine (spindleref20_copied.calls ((rd_T39 l0_0 x8_1).f0) _ _ ((rd_T39 l0_0 x8_1).f1) t237 t238 _ ?side1 ?side2 A12.out).mono ?_
       (case side1=>repeat (first|exact (by repeat (first|(with_reducible exact HR236_1.out)|(with_reducible refine Kd.C_alloc ?_ _)|(with_reducible refine Kd.C_drewN ?_ _)|(with_reducible refine Kd.C_drew ?_)|exact HR236_1.out))|(with_reducible refine Kd.C_alloc ?_ _)|(with_reducible refine Kd.C_drewN ?_ _)|(with_reducible refine Kd.C_drew ?_)))
       (case side2=>exact HC236_1.out)
       rintro e w18 ⟨v239,rfl,ho0,hb⟩
       have HS2_:=(hb.cell (World.block_lt_of_cell? _ _ (hHeld.2.2.1))).trans (hHeld.2.2.1)
       have HS3_:=(hb.cell (World.block_lt_of_cell? _ _ (hHeld.2.2.2))).trans (hHeld.2.2.2)
       refine ⟨_,rfl,?_⟩
       have n0_:=Aside0.mk (Kd.V_elder' (by (with_reducible repeat (first|apply Kd.V_alloc|apply Kd.V_drewN|apply Kd.V_drew));exact HO_233000.out) (Kd.R_base ho0) hb)
       have n1_:=Aside0.mk (Kd.S_elder' (by (with_reducible repeat (first|apply Kd.S_alloc|apply Kd.S_drewN|apply Kd.S_drew));exact HO_235000.out) (Kd.R_base ho0) hb)
       have n2_:=Aside0.mk (Kd.V_elder' (by (with_reducible repeat (first|apply Kd.V_alloc|apply Kd.V_drewN|apply Kd.V_drew));exact HL235_1.out) (Kd.R_base ho0) hb)
       have n3_:=Aside0.mk (Kd.V_elder' (by (with_reducible repeat (first|apply Kd.V_alloc|apply Kd.V_drewN|apply Kd.V_drew));exact HL236_1.out) (Kd.R_base ho0) hb)
       have n4_:=Aside0.mk (Kd.R_lower (Kd.R_newM (M:=fun k_=>(w.heap.size≤k_)) ho0 (below_size (by repeat (first|(with_reducible first|exact HB.out|apply below_alloc|apply pw_below_drewN|apply below_drew1|refine below_set ?_ GE232.out|refine below_set ?_ GE233.out|refine below_set ?_ GE234.out)|exact HB.out))) (fun k_ h_=>h_)) (below_size (by repeat (first|(with_reducible first|exact HB.out|apply below_alloc|apply pw_below_drewN|apply below_drew1|refine below_set ?_ GE232.out|refine below_set ?_ GE233.out|refine below_set ?_ GE234.out)|exact HB.out))))
       have n5_:=Aside0.mk (blk_below (g:=gb232) (o:=.cells #[.slice (some ad235) l0_0.length c0_0] 78 (0,0)) (by (with_reducible repeat (first|refine blk_drewN ?_ _|refine blk_drew ?_|refine blk_alloc ?_ _));exact BK232.out) hb)
       have n6_:=Aside0.mk (blk_below (g:=gb233) (o:=.cells #[.slice none 0 0] 78 (0,0)) (by (with_reducible repeat (first|refine blk_drewN ?_ _|refine blk_drew ?_|refine blk_alloc ?_ _));exact BK233.out) hb)
       have n7_:=Aside0.mk (blk_below (g:=gb234) (o:=.cells #[u235000] 78 (0,0)) (by (with_reducible repeat (first|refine blk_drewN ?_ _|refine blk_drew ?_|refine blk_alloc ?_ _));exact BK234.out) hb)
       have n8_:=Aside0.mk (Kd.C_below (by repeat (first|(with_reducible exact HR235_1.out)|(with_reducible refine Kd.C_alloc ?_ _)|(with_reducible refine Kd.C_drewN ?_ _)|(with_reducible refine Kd.C_drew ?_)|exact HR235_1.out)) hb)
       have n9_:=Aside0.mk (Kd.C_below (by repeat (first|(with_reducible exact HR236_1.out)|(with_reducible refine Kd.C_alloc ?_ _)|(with_reducible refine Kd.C_drewN ?_ _)|(with_reducible refine Kd.C_drew ?_)|exact HR236_1.out)) hb)
       have n10_:=Aside0.mk (below_step (by repeat (first|(with_reducible first|exact HB.out|apply below_alloc|apply pw_below_drewN|apply below_drew1|refine below_set ?_ GE232.out|refine below_set ?_ GE233.out|refine below_set ?_ GE234.out)|exact HB.out)) hb)
       clear HO_233000 HO_235000 HL235_1 HL236_1 BK232 BK233 BK234 HR235_1 HR236_1 HB
       have HO_233000:=n0_
       have HO_235000:=n1_
       have HL235_1:=n2_
       have HL236_1:=n3_
       have HO240:=n4_
       have BK232:=n5_
       have BK233:=n6_
       have BK234:=n7_
       have HR235_1:=n8_
       have HR236_1:=n9_
       have HB:=n10_
       clear n0_ n1_ n2_ n3_ n4_ n5_ n6_ n7_ n8_ n9_ n10_
       (try clear hb)
       (try clear hb2)
       (try clear hk)
       (try clear hi)
       (try clear ho0)
       obtain ⟨Ao20,co20,eo20⟩:=Kd.R_slice HO240.out
       (first|subst eo20|(injection eo20 with f1_ f2_ f3_;have f4_:=f1_.symm;have f5_:=f3_.symm;clear f1_ f2_ f3_;subst f4_;subst f5_))
       refine hK.out _ _ ⟨(blk_cell BK234.out 0).trans rfl,(blk_cell BK232.out 0).trans rfl,HS2_,HS3_⟩ (fun hHeld=>?_)
       clear hK K
       refine norm_ (a':=?_) ?_ ?_
       rotate_left
       ·show Act.put _ (some 31) _=_
        simp only [Act.put,List.setIfInBounds_toArray,List.set_cons_zero,List.set_cons_succ,i64_w,i32_w]
        rfl
       refine one_ (i:=8) (N:=some 32) #[true,true,true,true,true,true,true,true,true,false,false,false] rfl rfl (one_of HT_.out (by kernel_rfl)) (by decide) (fun K hK=>?_)
       refine value_ (w1:=?_) (v:=?_) (by rfl) rfl ?_ ?_
       rotate_left 2
       ·go_simp
        constructor
        ·rfl
        ·rfl
       refine hK.out _ _ ⟨(blk_cell (blk_alloc BK234.out _) 0).trans rfl,(blk_cell (blk_alloc BK232.out _) 0).trans rfl,(World.cell?_alloc_lt _ _ _ (World.block_lt_of_cell? _ _ (hHeld.2.2.1))).trans (hHeld.2.2.1),(World.cell?_alloc_lt _ _ _ (World.block_lt_of_cell? _ _ (hHeld.2.2.2))).trans (hHeld.2.2.2)⟩ (fun hHeld=>?_)
       clear hK K
       refine norm_ (a':=?_) ?_ ?_
       rotate_left
       ·show Act.put _ (some 32) _=_
        simp only [Act.put,List.setIfInBounds_toArray,List.set_cons_zero,List.set_cons_succ,i64_w,i32_w]
        rfl
       refine last_ (i:=9) (N:=some 33) #[true,true,true,true,true,true,true,true,true,true,false,false] rfl rfl (one_of HT_.out (by kernel_rfl)) (by decide) (fun K hK=>?_)
       refine Kd.S_append_step k39 (w0:=w) w.heap.size (by rfl) (.tmp 25) (.tmp 32) 22 39 (.agg #[(.int .u64 0),(.slice none 0 0)]) 32 rfl Try.underlying22 info39 rfl (by decide) (by omega) u235000 x235000_1 (⟨t237,t238⟩:S39) [.int .u64 t237,.slice Ao20 t238.length co20] (fun k_=>(w.heap.size≤k_)) (fun k_=>some k_=(.slice Ao20 t238.length co20:Value).ownBlock) rfl rfl ?aP (fun k_ hk_=>((Kd.R_mono (ok':=fun k_=>((fun k_=>(w.heap.size≤k_))) k_∧some k_≠(u235000:Value).ownBlock) (Kd.R_apart' (HO240.out) (Kd.S_typed HO_235000.out) (by decide)) (fun k_ hk=>⟨hk.1.1,hk.2⟩))).1 k_ hk_.symm) ?aF ?aO ?aB ?aS ?aL ?_
       (case aP=>exact k39_mkM _ _ _ (⟨t237,t238⟩:S39) (Kd.R_mono (Kd.R_tight rfl (Kd.R_mono (ok':=fun k_=>((fun k_=>(w.heap.size≤k_))) k_∧some k_≠(u235000:Value).ownBlock) (Kd.R_apart' (HO240.out) (Kd.S_typed HO_235000.out) (by decide)) (fun k_ hk=>⟨hk.1.1,hk.2⟩))) (fun _ h_=>h_)))
       (case aB=>exact (by repeat (first|(with_reducible first|exact HB.out|apply below_alloc|apply pw_below_drewN|apply below_drew1|refine below_set ?_ GE232.out|refine below_set ?_ GE233.out|refine below_set ?_ GE234.out)|exact HB.out)))
       (case aF=>exact (fun k_ hk=>(Nat.le_trans (below_size (by repeat (first|(with_reducible first|exact HB.out|apply below_alloc|apply pw_below_drewN|apply below_drew1|refine below_set ?_ GE232.out|refine below_set ?_ GE233.out|refine below_set ?_ GE234.out)|exact HB.out))) hk)))
       (case aO=>exact (by (with_reducible repeat (first|apply Kd.S_alloc|apply Kd.S_drewN|apply Kd.S_drew));exact Kd.S_mono HO_235000.out (fun k_ hk=>⟨hk.1,fun e_=>hk.2 e_⟩)))
       (case aS=>exact (below_size (by repeat (first|(with_reducible first|exact HB.out|apply below_alloc|apply pw_below_drewN|apply below_drew1|refine below_set ?_ GE232.out|refine below_set ?_ GE233.out|refine below_set ?_ GE234.out)|exact HB.out))))
       (case aL=>have:=LMc13.out;omega)
       intro v242 w19 ho hb hg hat
       rw [← Ny241.out] at ho
       have n0_:=Aside0.mk (Kd.V_afterv (ok:=(fun k_=>(P0_0_ k_∨w.heap.size≤k_)∧some k_≠(.slice Ao20 t238.length co20:Value).ownBlock∧k_≠gb232∧k_≠gb233∧k_≠gb234)) (by (with_reducible repeat (first|apply Kd.V_alloc|apply Kd.V_drewN|apply Kd.V_drew));exact Kd.V_mono HO_233000.out (fun _ hk=>⟨⟨hk.1.1,⟨hk.2,⟨hk.1.2.2.1,⟨hk.1.2.2.2.1,hk.1.2.2.2.2⟩⟩⟩⟩,hk.1.2.1⟩)) hg hat)
       have n1_:=Aside0.mk (blk_grown (g:=gb232) (o:=.cells #[.slice (some ad235) l0_0.length c0_0] 78 (0,0)) (by (with_reducible repeat (first|refine blk_drewN ?_ _|refine blk_drew ?_|refine blk_alloc ?_ _));exact BK232.out) hg (Kd.S_ne HO_235000.out BK232.out (by decide)))
       have n2_:=Aside0.mk (blk_grown (g:=gb233) (o:=.cells #[.slice none 0 0] 78 (0,0)) (by (with_reducible repeat (first|refine blk_drewN ?_ _|refine blk_drew ?_|refine blk_alloc ?_ _));exact BK233.out) hg (Kd.S_ne HO_235000.out BK233.out (by decide)))
       have n3_:=Aside0.mk (blk_grown (g:=gb234) (o:=.cells #[u235000] 78 (0,0)) (by (with_reducible repeat (first|refine blk_drewN ?_ _|refine blk_drew ?_|refine blk_alloc ?_ _));exact BK234.out) hg (Kd.S_ne HO_235000.out BK234.out (by decide)))
       have n4_:=Aside0.mk (Kd.V_afterv (ok:=(fun k_=>(P0_0_ k_∨w.heap.size≤k_)∧some k_≠(.slice Ao20 t238.length co20:Value).ownBlock∧k_≠gb232∧k_≠gb233∧k_≠gb234)) (by (with_reducible repeat (first|apply Kd.V_alloc|apply Kd.V_drewN|apply Kd.V_drew));exact Kd.V_mono HL235_1.out (fun _ hk=>⟨⟨hk.1.1,⟨hk.2,⟨hk.1.2.2.1,⟨hk.1.2.2.2.1,hk.1.2.2.2.2⟩⟩⟩⟩,hk.1.2.1⟩)) hg hat)
       have n5_:=Aside0.mk (Kd.V_afterv (ok:=(fun k_=>(P0_0_ k_∨w.heap.size≤k_)∧some k_≠(.slice Ao20 t238.length co20:Value).ownBlock∧k_≠gb232∧k_≠gb233∧k_≠gb234)) (by (with_reducible repeat (first|apply Kd.V_alloc|apply Kd.V_drewN|apply Kd.V_drew));exact Kd.V_mono HL236_1.out (fun _ hk=>⟨⟨hk.1.1,⟨hk.2,⟨hk.1.2.2.1,⟨hk.1.2.2.2.1,hk.1.2.2.2.2⟩⟩⟩⟩,hk.1.2.1⟩)) hg hat)
       have n6_:=Aside0.mk (hb)
       have n7_:=Aside0.mk (ho)
       clear HO_233000 BK232 BK233 BK234 HL235_1 HL236_1 HB HO_235000 HO240
       have HO_233000:=n0_
       have BK232:=n1_
       have BK233:=n2_
       have BK234:=n3_
       have HL235_1:=n4_
       have HL236_1:=n5_
       have HB:=n6_
       have HO243:=n7_
       clear n0_ n1_ n2_ n3_ n4_ n5_ n6_ n7_ ho hb hg hat
       obtain ⟨Ao21,co21,eo21⟩:=Kd.S_slice HO243.out
       (first|subst eo21|(injection eo21 with f1_ f2_ f3_;have f4_:=f1_.symm;have f5_:=f3_.symm;clear f1_ f2_ f3_;subst f4_;subst f5_))
       refine hK.out _ _ ?_
       clear hK K
       refine norm_ (a':=?_) ?_ ?_
       rotate_left
       ·show Act.put _ (some 33) _=_
        simp only [Act.put,List.setIfInBounds_toArray,List.set_cons_zero,List.set_cons_succ,i64_w,i32_w]
        rfl
       refine pure_ (i:=10) (N:=some 34) (v:=?_) (a':=?_) #[true,true,true,true,true,true,true,true,true,true,true,false] rfl rfl (any_of HT_.out (by kernel_rfl)) (fun _ _ _ h=>h) (Or.inl ⟨by rfl,?_⟩) ?_ ?_
       rotate_left
       ·intro w'
        go_simp
        with_reducible rfl
       rotate_left
       ·simp only [Act.put,List.setIfInBounds_toArray,List.set_cons_zero,List.set_cons_succ,i64_w,i32_w]
        rfl
       refine last_ (i:=11) (N:=none) #[true,true,true,true,true,true,true,true,true,true,true,true] rfl rfl (one_of HT_.out (by kernel_rfl)) (by decide) (fun K hK=>?_)
       have hs22:w19.cell? ⟨gb234,0,none⟩=some (u235000):=(blk_cell BK234.out 0).trans rfl
       have hfs22:=blk_frozen BK234.out 0
       have hns22_0:=NB232_234.out
       have hns22_1:=NB233_234.out
       have hms22_0:=NB234_232.out
       have hms22_1:=NB234_233.out
       refine skip_ (w1:=?_) (by rfl) rfl ?_ ?_
       rotate_left
       ·go_simp
        rfl
       refine hK.out _ _ ?_
       clear hK K
       refine done_ (done_of HT_.out (by kernel_rfl)) ?_
       try go_wp2
       go_roundg k1
       case measure=>have:=HK1.out;omega
       case rel=>exact ⟨(x7_1),(wrap64 (x8_1+1)),(y241),(.slice Ao21 y241.length co21),(by first|rfl|(simp;done)|(simp [*];done)),(by first|rfl|(simp;done)|(simp [*];done)),H',⟨by have:=HK1.out;omega⟩,⟨by (with_reducible repeat (first|apply Kd.V_alloc|apply Kd.V_drewN|apply Kd.V_drew));exact Kd.V_mono (Kd.V_far (p:=⟨gb234,0,none⟩) (Kd.V_mono HO_233000.out (fun k_ hk=>(⟨hk,hk.1.2.2.2.2⟩:_∧k_≠gb234))) (fun _ hk=>hk.2) (.slice Ao21 y241.length co21)) (fun _ hk=>⟨hk.1.1.1,⟨hk.1.2,⟨hk.1.1.2.2.1,⟨hk.1.1.2.2.2.1,hk.1.1.2.2.2.2⟩⟩⟩⟩)⟩,⟨by (with_reducible repeat (first|apply Kd.S_alloc|apply Kd.S_drewN|apply Kd.S_drew));exact Kd.S_mono (Kd.S_far (p:=⟨gb234,0,none⟩) (Kd.S_types HO243.out BK234.out (by decide)) (fun _ hk=>hk.2) (.slice Ao21 y241.length co21)) (fun _ hk=>hk.1)⟩,⟨by (with_reducible repeat (first|refine blk_drewN ?_ _|refine blk_drew ?_|refine blk_alloc ?_ _));refine blk_far ?_ NB232_234.out _;(with_reducible repeat (first|refine blk_drewN ?_ _|refine blk_drew ?_|refine blk_alloc ?_ _));exact BK232.out⟩,⟨by (with_reducible repeat (first|refine blk_drewN ?_ _|refine blk_drew ?_|refine blk_alloc ?_ _));refine blk_far ?_ NB233_234.out _;(with_reducible repeat (first|refine blk_drewN ?_ _|refine blk_drew ?_|refine blk_alloc ?_ _));exact BK233.out⟩,⟨by (with_reducible repeat (first|refine blk_drewN ?_ _|refine blk_drew ?_|refine blk_alloc ?_ _));refine blk_put (cs:=#[u235000]) ?_ 0 _ rfl;(with_reducible repeat (first|refine blk_drewN ?_ _|refine blk_drew ?_|refine blk_alloc ?_ _));exact BK234.out⟩,⟨by repeat (first|(with_reducible first|exact HB.out|apply below_alloc|apply pw_below_drewN|apply below_drew1|refine below_set ?_ GE232.out|refine below_set ?_ GE233.out|refine below_set ?_ GE234.out)|exact HB.out)⟩⟩
      ·rw [if_neg c13] at H
       exact absurd H (by simp)
    ·rw [if_neg c7] at H
     exact absurd H (by simp)
   ·rw [if_neg c6] at H
    have c6b0:decide (x8_1<(l0_0.length:Int))=false:=decide_eq_false c6
    clear c6
    by_cases c23:x7_1=0
    ·rw [if_pos c23] at H
     have c23b0:(x7_1 == 0)=true:=beq_iff_eq.mpr c23
     have c23b1:(x7_1 != 0)=false:=bne_eq_false_iff_eq.mpr c23
     clear c23
     simp only [Option.some.injEq,Prod.mk.injEq] at H
     obtain ⟨rfl,rfl⟩:=H
     have hnb24:=NB232_233.out
     have hnc24:=NB233_232.out
     have hnb25:=NB232_234.out
     have hnc25:=NB234_232.out
     have hcz26_0:wr.cell? ⟨gb232,0,none⟩=some (.slice A0_0 l0_0.length c0_0):=(blk_cell BK232.out 0).trans rfl
     have hfz26_0:=blk_frozen BK232.out 0
     have hnb27:=NB234_233.out
     have hnc27:=NB233_234.out
     have hcz28_0:wr.cell? ⟨gb234,0,none⟩=some (u235000):=(blk_cell BK234.out 0).trans rfl
     have hfz28_0:=blk_frozen BK234.out 0
     obtain ⟨Ao29,co29,eo29⟩:=Kd.S_slice HO_235000.out
     subst eo29
     have hcz30_0:wr.cell? ⟨gb233,0,none⟩=some (.slice none 0 0):=(blk_cell BK233.out 0).trans rfl
     have hfz30_0:=blk_frozen BK233.out 0
     go_wp2
     refine bodyPost_ret (results_ct rfl _ _ gb233 78 #[.slice Ao29 x235000_1.length co29] (0,0) _ rfl (by (with_reducible repeat (first|refine blk_drewN ?_ _|refine blk_drew ?_|refine blk_alloc ?_ _));refine blk_put (cs:=#[.slice none 0 0]) ?_ 0 _ rfl;(with_reducible repeat (first|refine blk_drewN ?_ _|refine blk_drew ?_|refine blk_alloc ?_ _));exact BK233.out) Try.underlying78 rfl (by kernel_rfl)) rfl ?_
     exact ⟨_,by first|rfl|(simp [errW_none,errW_some] <;> rfl)|(simp [*,errW_none,errW_some] <;> rfl),Kd.V_mono (Kd.S_V (by (with_reducible repeat (first|apply Kd.S_alloc|apply Kd.S_drewN|apply Kd.S_drew));exact Kd.S_mono (Kd.S_far (p:=⟨gb233,0,none⟩) (Kd.S_types HO_235000.out BK233.out (by decide)) (fun _ hk=>hk.2) (.slice Ao29 x235000_1.length co29)) (fun _ hk=>hk.1))) (fun k_ hk=>by first|exact ⟨(.inr (hk.1)),hk.2⟩|exact (.inr (hk))),by repeat (first|(with_reducible first|exact HB.out|apply below_alloc|apply pw_below_drewN|apply below_drew1|refine below_set ?_ GE232.out|refine below_set ?_ GE233.out|refine below_set ?_ GE234.out)|exact HB.out)⟩
    ·rw [if_neg c23] at H
     have c23b0:(x7_1 == 0)=false:=beq_eq_false_iff_ne.mpr c23
     have c23b1:(x7_1 != 0)=true:=bne_iff_ne.mpr c23
     simp only [Option.some.injEq,Prod.mk.injEq] at H
     obtain ⟨rfl,rfl⟩:=H
     have hnb31:=NB232_233.out
     have hnc31:=NB233_232.out
     have hnb32:=NB232_234.out
     have hnc32:=NB234_232.out
     have hcz33_0:wr.cell? ⟨gb232,0,none⟩=some (.slice A0_0 l0_0.length c0_0):=(blk_cell BK232.out 0).trans rfl
     have hfz33_0:=blk_frozen BK232.out 0
     have hnb34:=NB233_234.out
     have hnc34:=NB234_233.out
     have hcz35_0:wr.cell? ⟨gb233,0,none⟩=some (.slice none 0 0):=(blk_cell BK233.out 0).trans rfl
     have hfz35_0:=blk_frozen BK233.out 0
     go_wp2
     refine bodyPost_ret (results_ct rfl _ _ gb233 78 #[.slice A0_0 l0_0.length c0_0] (0,0) _ rfl (by (with_reducible repeat (first|refine blk_drewN ?_ _|refine blk_drew ?_|refine blk_alloc ?_ _));refine blk_put (cs:=#[.slice none 0 0]) ?_ 0 _ rfl;(with_reducible repeat (first|refine blk_drewN ?_ _|refine blk_drew ?_|refine blk_alloc ?_ _));exact BK233.out) Try.underlying78 rfl (by kernel_rfl)) rfl ?_
     exact ⟨_,by first|rfl|(simp [errW_none,errW_some] <;> rfl)|(simp [*,errW_none,errW_some] <;> rfl),by (with_reducible repeat (first|apply Kd.V_alloc|apply Kd.V_drewN|apply Kd.V_drew));exact Kd.V_mono (Kd.V_far (p:=⟨gb233,0,none⟩) (Kd.V_mono HO_233000.out (fun k_ hk=>(⟨hk,hk.2.2.2.1⟩:_∧k_≠gb233))) (fun _ hk=>hk.2) (.slice A0_0 l0_0.length c0_0)) (fun _ hk=>hk.1.1),by repeat (first|(with_reducible first|exact HB.out|apply below_alloc|apply pw_below_drewN|apply below_drew1|refine below_set ?_ GE232.out|refine below_set ?_ GE233.out|refine below_set ?_ GE234.out)|exact HB.out)⟩
def spindleref20_wide.f (a0:Int):Option (Int):=if a0=8 then (some (wrap64 (Int.tdiv a0 8))) else (if a0=16 then (some (wrap64 (Int.tdiv a0 8))) else (if a0=32 then (some (wrap64 (Int.tdiv a0 8))) else (some 8)))
theorem spindleref20_wide.calls (a0:Int) (r:Int) (w:World) (h:spindleref20_wide.f a0=some r) :
  Calls Try.prog 76 #[.int .i64 a0] w fun e w'=>e=.returned (.int .i64 r)∧Drawn0 w w':=by
 have H:(if a0=8 then (some (wrap64 (Int.tdiv a0 8))) else (if a0=16 then (some (wrap64 (Int.tdiv a0 8))) else (if a0=32 then (some (wrap64 (Int.tdiv a0 8))) else (some 8))))=some r:=h
 clear h
 by_cases c2:a0=8
 ·rw [if_pos c2] at H
  have c2b0:(a0 == 8)=true:=beq_iff_eq.mpr c2
  have c2b1:(a0 != 8)=false:=bne_eq_false_iff_eq.mpr c2
  clear c2
  obtain rfl:=Option.some.inj H
  go_enter Try.func76,Try.ntmps76
  go_wp2
  go_ret
  exact ⟨by first|rfl|(simp;done)|(simp [*];done),by repeat (first|exact Drawn0.refl _|apply Drawn0.step)⟩
 ·rw [if_neg c2] at H
  have c2b0:(a0 == 8)=false:=beq_eq_false_iff_ne.mpr c2
  have c2b1:(a0 != 8)=true:=bne_iff_ne.mpr c2
  by_cases c3:a0=16
  ·rw [if_pos c3] at H
   have c3b0:(a0 == 16)=true:=beq_iff_eq.mpr c3
   have c3b1:(a0 != 16)=false:=bne_eq_false_iff_eq.mpr c3
   clear c3
   obtain rfl:=Option.some.inj H
   go_enter Try.func76,Try.ntmps76
   go_wp2
   go_ret
   exact ⟨by first|rfl|(simp;done)|(simp [*];done),by repeat (first|exact Drawn0.refl _|apply Drawn0.step)⟩
  ·rw [if_neg c3] at H
   have c3b0:(a0 == 16)=false:=beq_eq_false_iff_ne.mpr c3
   have c3b1:(a0 != 16)=true:=bne_iff_ne.mpr c3
   by_cases c4:a0=32
   ·rw [if_pos c4] at H
    have c4b0:(a0 == 32)=true:=beq_iff_eq.mpr c4
    have c4b1:(a0 != 32)=false:=bne_eq_false_iff_eq.mpr c4
    clear c4
    obtain rfl:=Option.some.inj H
    go_enter Try.func76,Try.ntmps76
    go_wp2
    go_ret
    exact ⟨by first|rfl|(simp;done)|(simp [*];done),by repeat (first|exact Drawn0.refl _|apply Drawn0.step)⟩
   ·rw [if_neg c4] at H
    have c4b0:(a0 == 32)=false:=beq_eq_false_iff_ne.mpr c4
    have c4b1:(a0 != 32)=true:=bne_iff_ne.mpr c4
    obtain rfl:=Option.some.inj H
    go_enter Try.func76,Try.ntmps76
    go_wp2
    go_ret
    exact ⟨by first|rfl|(simp;done)|(simp [*];done),by repeat (first|exact Drawn0.refl _|apply Drawn0.step)⟩
def spindleref20_Space_find.l0:Nat→Int→Int→Int→List (S39)→Option (Int)
 | 0,_,_,_,_=>none
 | k+1,x1,x2,x7,x245000=>if x7<(x245000.length:Int) then (if 0≤x7 then (if x1≥((rd_T39 x245000 x7).f0) then (if (IntKind.u64.wrap (x1 - ((rd_T39 x245000 x7).f0)))<(IntKind.u64.wrap ((((rd_T39 x245000 x7).f1).length:Int))) then (if (IntKind.u64.wrap (x2))≤(IntKind.u64.wrap ((IntKind.u64.wrap ((((rd_T39 x245000 x7).f1).length:Int))) - (IntKind.u64.wrap (x1 - ((rd_T39 x245000 x7).f0))))) then (some x7) else (spindleref20_Space_find.l0 k x1 x2 (wrap64 (x7+1)) x245000)) else (spindleref20_Space_find.l0 k x1 x2 (wrap64 (x7+1)) x245000)) else (spindleref20_Space_find.l0 k x1 x2 (wrap64 (x7+1)) x245000)) else (none)) else (some (-1))
def spindleref20_Space_find.f (k:Nat) (l0_0:List (S39)) (a1:Int) (a2:Int):Option (Int):=spindleref20_Space_find.l0 k a1 a2 0 l0_0
theorem spindleref20_Space_find.calls (k:Nat) (A0_0:Option Addr) (c0_0:Nat) (l0_0:List (S39)) (a1:Int) (a2:Int) (r:Int) (w:World) (hr0_0:Kd.C k39 w A0_0 l0_0.length l0_0) (hc0_0:l0_0.length≤c0_0) (h:spindleref20_Space_find.f k l0_0 a1 a2=some r) :
  Calls Try.prog 77 #[.agg #[.slice A0_0 l0_0.length c0_0],.int .u64 a1,.int .i64 a2] w fun e w'=>e=.returned (.int .i64 r)∧Below w.heap.size w w':=by
 have hu78:=Try.underlying78
 have hu39:=Try.underlying39
 have HR0_0:=Aside0.mk hr0_0
 have HC0_0:=Aside0.mk hc0_0
 clear hr0_0 hc0_0
 have HB:=Aside0.mk (Below.refl w.heap.size w)
 have H:(spindleref20_Space_find.l0 k a1 a2 0 l0_0)=some r:=h
 clear h
 have H':=Aside0.mk H
 clear H
 go_enter Try.func77,Try.ntmps77
 go_wp2_with (first|((with_reducible refine gate_dst (N:=3) rfl ?_);refine box_event ?hg (N:=3) ?hd (cs:=#[.slice A0_0 l0_0.length c0_0]) (t:=78) ?hr ?_;(case hd=>rfl);(case hg=>rfl);(case hr=>first|(go_simp;done)|(go_simp;rfl));intro gb244 hg w4 hbox hb;have n0_:=Aside0.mk (below_step (by repeat (first|(with_reducible first|exact HB.out|apply below_alloc|apply pw_below_drewN|apply below_drew1)|exact HB.out)) hb);have n1_:=Aside0.mk (hbox);have n2_:=Aside0.mk ((by rw [hg];exact (below_size (by repeat (first|(with_reducible first|exact HB.out|apply below_alloc|apply pw_below_drewN|apply below_drew1)|exact HB.out))):w.heap.size≤gb244));have n3_:=Aside0.mk ((by rw [hg];exact (below_size (by repeat (first|(with_reducible first|exact HB.out|apply below_alloc|apply pw_below_drewN|apply below_drew1)|exact HB.out))):w.heap.size≤gb244));clear HB;have HB:=n0_;have BK244:=n1_;have GW244:=n2_;have GE244:=n3_;clear n0_ n1_ n2_ n3_;clear hb hbox hg))
 go_loopg [7] k (fun kq v7 w'=>∃ (x7_1:Int),v7=.int .i64 x7_1∧Aside0 (spindleref20_Space_find.l0 kq a1 a2 x7_1 l0_0=some r)∧Aside0 (kq≤k)∧Aside0 (w'.heap[gb244]?=some (.cells #[(.slice A0_0 l0_0.length c0_0)] 78 (0,0)))∧Aside0 (Below w.heap.size w w'))
 case atStart=>exact ⟨(0),(by first|rfl|(simp;done)|(simp [*];done)),H',⟨Nat.le_refl _⟩,⟨by (with_reducible repeat (first|refine blk_drewN ?_ _|refine blk_drew ?_|refine blk_alloc ?_ _));exact BK244.out⟩,⟨by repeat (first|(with_reducible first|exact HB.out|apply below_alloc|apply pw_below_drewN|apply below_drew1|refine below_set ?_ GE244.out)|exact HB.out)⟩⟩
 case round =>
  clear H'
  try clear p2
  obtain ⟨x7_1,rfl,HA,HK1,BK244,HB⟩:=hrel
  cases gk with
  | zero=>exact absurd HA.out (by simp [spindleref20_Space_find.l0])
  | succ k1 =>
   have H:=HA.out
   clear HA
   simp only [spindleref20_Space_find.l0] at H
   by_cases c5:x7_1<(l0_0.length:Int)
   ·rw [if_pos c5] at H
    have c5b0:decide (x7_1<(l0_0.length:Int))=true:=decide_eq_true c5
    clear c5
    by_cases c6:0≤x7_1
    ·rw [if_pos c6] at H
     have c6b0:decide (0≤x7_1)=true:=decide_eq_true c6
     clear c6
     by_cases c7:a1≥((rd_T39 l0_0 x7_1).f0)
     ·rw [if_pos c7] at H
      have c7b0:decide (((rd_T39 l0_0 x7_1).f0)≤a1)=true:=decide_eq_true c7
      clear c7
      by_cases c8:(IntKind.u64.wrap (a1 - ((rd_T39 l0_0 x7_1).f0)))<(IntKind.u64.wrap ((((rd_T39 l0_0 x7_1).f1).length:Int)))
      ·rw [if_pos c8] at H
       have c8b0:decide ((IntKind.u64.wrap (a1 - ((rd_T39 l0_0 x7_1).f0)))<(IntKind.u64.wrap ((((rd_T39 l0_0 x7_1).f1).length:Int))))=true:=decide_eq_true c8
       clear c8
       by_cases c9:(IntKind.u64.wrap (a2))≤(IntKind.u64.wrap ((IntKind.u64.wrap ((((rd_T39 l0_0 x7_1).f1).length:Int))) - (IntKind.u64.wrap (a1 - ((rd_T39 l0_0 x7_1).f0)))))
       ·rw [if_pos c9] at H
        have c9b0:decide ((IntKind.u64.wrap (a2))≤(IntKind.u64.wrap ((IntKind.u64.wrap ((((rd_T39 l0_0 x7_1).f1).length:Int))) - (IntKind.u64.wrap (a1 - ((rd_T39 l0_0 x7_1).f0))))))=true:=decide_eq_true c9
        clear c9
        obtain rfl:=Option.some.inj H
        have hcz10_0:wr.cell? ⟨gb244,0,none⟩=some (.slice A0_0 l0_0.length c0_0):=(blk_cell BK244.out 0).trans rfl
        have hfz10_0:=blk_frozen BK244.out 0
        have p245:0≤(x7_1:Int):=of_decide_eq_true (by first|(with_reducible assumption)|assumption)
        have q245:x7_1<(l0_0.length:Int):=of_decide_eq_true (by first|(with_reducible assumption)|assumption)
        obtain ⟨ad245,A245_1,c245_1,e245,hx245_0,hx245_1,hl245_1,hi245_1⟩:=at_T39 HR0_0.out x7_1 p245 q245
        cases e245
        replace hx245_0:=(HB.out.cell (World.block_lt_of_cell? w _ hx245_0)).trans hx245_0
        replace hx245_1:=(HB.out.cell (World.block_lt_of_cell? w _ hx245_1)).trans hx245_1
        have HR245_1:=Aside0.mk hi245_1
        have HC245_1:=Aside0.mk hl245_1
        clear hi245_1 hl245_1
        replace p245:=eq_true p245
        replace q245:=eq_true q245
        go_wp2_with (first|((with_reducible refine gate_dst (N:=8) rfl ?_);refine box_event ?hg (N:=8) ?hd (cs:=#[.int .u64 0,.slice none 0 0]) (t:=39) ?hr ?_;(case hd=>rfl);(case hg=>rfl);(case hr=>first|(go_simp;done)|(go_simp;rfl));intro gb246 hg w11 hbox hb;have n0_:=Aside0.mk (blk_below (g:=gb244) (o:=.cells #[.slice (some ad245) l0_0.length c0_0] 78 (0,0)) (by (with_reducible repeat (first|refine blk_drewN ?_ _|refine blk_drew ?_|refine blk_alloc ?_ _));exact BK244.out) hb);have n1_:=Aside0.mk (below_step (by repeat (first|(with_reducible first|exact HB.out|apply below_alloc|apply pw_below_drewN|apply below_drew1|refine below_set ?_ GE244.out)|exact HB.out)) hb);have n2_:=Aside0.mk (hbox);have n3_:=Aside0.mk ((by rw [hg];exact (below_size (by repeat (first|(with_reducible first|exact HB.out|apply below_alloc|apply pw_below_drewN|apply below_drew1|refine below_set ?_ GE244.out)|exact HB.out))):w.heap.size≤gb246));have n4_:=Aside0.mk ((by rw [hg];exact (below_size (by repeat (first|(with_reducible first|exact HB.out|apply below_alloc|apply pw_below_drewN|apply below_drew1|refine below_set ?_ GE244.out)|exact HB.out))):w.heap.size≤gb246));have n5_:=Aside0.mk ((by rw [hg];exact Nat.ne_of_lt (blk_lt (g:=gb244) (o:=.cells #[.slice (some ad245) l0_0.length c0_0] 78 (0,0)) (by (with_reducible repeat (first|refine blk_drewN ?_ _|refine blk_drew ?_|refine blk_alloc ?_ _));exact BK244.out)):gb244≠gb246));have n6_:=Aside0.mk ((by rw [hg];exact Nat.ne_of_gt (blk_lt (g:=gb244) (o:=.cells #[.slice (some ad245) l0_0.length c0_0] 78 (0,0)) (by (with_reducible repeat (first|refine blk_drewN ?_ _|refine blk_drew ?_|refine blk_alloc ?_ _));exact BK244.out)):gb246≠gb244));clear BK244;clear HB;have BK244:=n0_;have HB:=n1_;have BK246:=n2_;have GW246:=n3_;have GE246:=n4_;have NB244_246:=n5_;have NB246_244:=n6_;clear n0_ n1_ n2_ n3_ n4_ n5_ n6_;clear hb hbox hg;have hnb12:=NB246_244.out;have hnc12:=NB244_246.out;have hcz13_0:w11.cell? ⟨gb246,0,none⟩=some (.int .u64 0):=(blk_cell BK246.out 0).trans rfl;have hcz13_1:w11.cell? ⟨gb246,1,none⟩=some (.slice none 0 0):=(blk_cell BK246.out 1).trans rfl;have hfz13_0:=blk_frozen BK246.out 0;have hfz13_1:=blk_frozen BK246.out 1))
        go_ret
        exact ⟨by first|rfl|(simp [errW_none,errW_some] <;> rfl)|(simp [*,errW_none,errW_some] <;> rfl),by repeat (first|(with_reducible first|exact HB.out|apply below_alloc|apply pw_below_drewN|apply below_drew1|refine below_set ?_ GE244.out|refine below_set ?_ GE246.out)|exact HB.out)⟩
       ·rw [if_neg c9] at H
        have c9b0:decide ((IntKind.u64.wrap (a2))≤(IntKind.u64.wrap ((IntKind.u64.wrap ((((rd_T39 l0_0 x7_1).f1).length:Int))) - (IntKind.u64.wrap (a1 - ((rd_T39 l0_0 x7_1).f0))))))=false:=decide_eq_false c9
        clear c9
        have H':=Aside0.mk H
        clear H
        have hcz14_0:wr.cell? ⟨gb244,0,none⟩=some (.slice A0_0 l0_0.length c0_0):=(blk_cell BK244.out 0).trans rfl
        have hfz14_0:=blk_frozen BK244.out 0
        have p245:0≤(x7_1:Int):=of_decide_eq_true (by first|(with_reducible assumption)|assumption)
        have q245:x7_1<(l0_0.length:Int):=of_decide_eq_true (by first|(with_reducible assumption)|assumption)
        obtain ⟨ad245,A245_1,c245_1,e245,hx245_0,hx245_1,hl245_1,hi245_1⟩:=at_T39 HR0_0.out x7_1 p245 q245
        cases e245
        replace hx245_0:=(HB.out.cell (World.block_lt_of_cell? w _ hx245_0)).trans hx245_0
        replace hx245_1:=(HB.out.cell (World.block_lt_of_cell? w _ hx245_1)).trans hx245_1
        have HR245_1:=Aside0.mk hi245_1
        have HC245_1:=Aside0.mk hl245_1
        clear hi245_1 hl245_1
        replace p245:=eq_true p245
        replace q245:=eq_true q245
        go_wp2_with (first|((with_reducible refine gate_dst (N:=8) rfl ?_);refine box_event ?hg (N:=8) ?hd (cs:=#[.int .u64 0,.slice none 0 0]) (t:=39) ?hr ?_;(case hd=>rfl);(case hg=>rfl);(case hr=>first|(go_simp;done)|(go_simp;rfl));intro gb246 hg w15 hbox hb;have n0_:=Aside0.mk (blk_below (g:=gb244) (o:=.cells #[.slice (some ad245) l0_0.length c0_0] 78 (0,0)) (by (with_reducible repeat (first|refine blk_drewN ?_ _|refine blk_drew ?_|refine blk_alloc ?_ _));exact BK244.out) hb);have n1_:=Aside0.mk (below_step (by repeat (first|(with_reducible first|exact HB.out|apply below_alloc|apply pw_below_drewN|apply below_drew1|refine below_set ?_ GE244.out)|exact HB.out)) hb);have n2_:=Aside0.mk (hbox);have n3_:=Aside0.mk ((by rw [hg];exact (below_size (by repeat (first|(with_reducible first|exact HB.out|apply below_alloc|apply pw_below_drewN|apply below_drew1|refine below_set ?_ GE244.out)|exact HB.out))):w.heap.size≤gb246));have n4_:=Aside0.mk ((by rw [hg];exact (below_size (by repeat (first|(with_reducible first|exact HB.out|apply below_alloc|apply pw_below_drewN|apply below_drew1|refine below_set ?_ GE244.out)|exact HB.out))):w.heap.size≤gb246));have n5_:=Aside0.mk ((by rw [hg];exact Nat.ne_of_lt (blk_lt (g:=gb244) (o:=.cells #[.slice (some ad245) l0_0.length c0_0] 78 (0,0)) (by (with_reducible repeat (first|refine blk_drewN ?_ _|refine blk_drew ?_|refine blk_alloc ?_ _));exact BK244.out)):gb244≠gb246));have n6_:=Aside0.mk ((by rw [hg];exact Nat.ne_of_gt (blk_lt (g:=gb244) (o:=.cells #[.slice (some ad245) l0_0.length c0_0] 78 (0,0)) (by (with_reducible repeat (first|refine blk_drewN ?_ _|refine blk_drew ?_|refine blk_alloc ?_ _));exact BK244.out)):gb246≠gb244));clear BK244;clear HB;have BK244:=n0_;have HB:=n1_;have BK246:=n2_;have GW246:=n3_;have GE246:=n4_;have NB244_246:=n5_;have NB246_244:=n6_;clear n0_ n1_ n2_ n3_ n4_ n5_ n6_;clear hb hbox hg;have hnb16:=NB246_244.out;have hnc16:=NB244_246.out;have hcz17_0:w15.cell? ⟨gb246,0,none⟩=some (.int .u64 0):=(blk_cell BK246.out 0).trans rfl;have hcz17_1:w15.cell? ⟨gb246,1,none⟩=some (.slice none 0 0):=(blk_cell BK246.out 1).trans rfl;have hfz17_0:=blk_frozen BK246.out 0;have hfz17_1:=blk_frozen BK246.out 1))
        go_roundg k1
        case measure=>have:=HK1.out;omega
        case rel=>exact ⟨(wrap64 (x7_1+1)),(by first|rfl|(simp;done)|(simp [*];done)),H',⟨by have:=HK1.out;omega⟩,⟨by (with_reducible repeat (first|refine blk_drewN ?_ _|refine blk_drew ?_|refine blk_alloc ?_ _));refine blk_far ?_ NB244_246.out _;(with_reducible repeat (first|refine blk_drewN ?_ _|refine blk_drew ?_|refine blk_alloc ?_ _));refine blk_far ?_ NB244_246.out _;(with_reducible repeat (first|refine blk_drewN ?_ _|refine blk_drew ?_|refine blk_alloc ?_ _));exact BK244.out⟩,⟨by repeat (first|(with_reducible first|exact HB.out|apply below_alloc|apply pw_below_drewN|apply below_drew1|refine below_set ?_ GE244.out|refine below_set ?_ GE246.out)|exact HB.out)⟩⟩
      ·rw [if_neg c8] at H
       have c8b0:decide ((IntKind.u64.wrap (a1 - ((rd_T39 l0_0 x7_1).f0)))<(IntKind.u64.wrap ((((rd_T39 l0_0 x7_1).f1).length:Int))))=false:=decide_eq_false c8
       clear c8
       have H':=Aside0.mk H
       clear H
       have hcz18_0:wr.cell? ⟨gb244,0,none⟩=some (.slice A0_0 l0_0.length c0_0):=(blk_cell BK244.out 0).trans rfl
       have hfz18_0:=blk_frozen BK244.out 0
       have p245:0≤(x7_1:Int):=of_decide_eq_true (by first|(with_reducible assumption)|assumption)
       have q245:x7_1<(l0_0.length:Int):=of_decide_eq_true (by first|(with_reducible assumption)|assumption)
       obtain ⟨ad245,A245_1,c245_1,e245,hx245_0,hx245_1,hl245_1,hi245_1⟩:=at_T39 HR0_0.out x7_1 p245 q245
       cases e245
       replace hx245_0:=(HB.out.cell (World.block_lt_of_cell? w _ hx245_0)).trans hx245_0
       replace hx245_1:=(HB.out.cell (World.block_lt_of_cell? w _ hx245_1)).trans hx245_1
       have HR245_1:=Aside0.mk hi245_1
       have HC245_1:=Aside0.mk hl245_1
       clear hi245_1 hl245_1
       replace p245:=eq_true p245
       replace q245:=eq_true q245
       go_wp2_with (first|((with_reducible refine gate_dst (N:=8) rfl ?_);refine box_event ?hg (N:=8) ?hd (cs:=#[.int .u64 0,.slice none 0 0]) (t:=39) ?hr ?_;(case hd=>rfl);(case hg=>rfl);(case hr=>first|(go_simp;done)|(go_simp;rfl));intro gb246 hg w19 hbox hb;have n0_:=Aside0.mk (blk_below (g:=gb244) (o:=.cells #[.slice (some ad245) l0_0.length c0_0] 78 (0,0)) (by (with_reducible repeat (first|refine blk_drewN ?_ _|refine blk_drew ?_|refine blk_alloc ?_ _));exact BK244.out) hb);have n1_:=Aside0.mk (below_step (by repeat (first|(with_reducible first|exact HB.out|apply below_alloc|apply pw_below_drewN|apply below_drew1|refine below_set ?_ GE244.out)|exact HB.out)) hb);have n2_:=Aside0.mk (hbox);have n3_:=Aside0.mk ((by rw [hg];exact (below_size (by repeat (first|(with_reducible first|exact HB.out|apply below_alloc|apply pw_below_drewN|apply below_drew1|refine below_set ?_ GE244.out)|exact HB.out))):w.heap.size≤gb246));have n4_:=Aside0.mk ((by rw [hg];exact (below_size (by repeat (first|(with_reducible first|exact HB.out|apply below_alloc|apply pw_below_drewN|apply below_drew1|refine below_set ?_ GE244.out)|exact HB.out))):w.heap.size≤gb246));have n5_:=Aside0.mk ((by rw [hg];exact Nat.ne_of_lt (blk_lt (g:=gb244) (o:=.cells #[.slice (some ad245) l0_0.length c0_0] 78 (0,0)) (by (with_reducible repeat (first|refine blk_drewN ?_ _|refine blk_drew ?_|refine blk_alloc ?_ _));exact BK244.out)):gb244≠gb246));have n6_:=Aside0.mk ((by rw [hg];exact Nat.ne_of_gt (blk_lt (g:=gb244) (o:=.cells #[.slice (some ad245) l0_0.length c0_0] 78 (0,0)) (by (with_reducible repeat (first|refine blk_drewN ?_ _|refine blk_drew ?_|refine blk_alloc ?_ _));exact BK244.out)):gb246≠gb244));clear BK244;clear HB;have BK244:=n0_;have HB:=n1_;have BK246:=n2_;have GW246:=n3_;have GE246:=n4_;have NB244_246:=n5_;have NB246_244:=n6_;clear n0_ n1_ n2_ n3_ n4_ n5_ n6_;clear hb hbox hg;have hnb20:=NB246_244.out;have hnc20:=NB244_246.out;have hcz21_0:w19.cell? ⟨gb246,0,none⟩=some (.int .u64 0):=(blk_cell BK246.out 0).trans rfl;have hcz21_1:w19.cell? ⟨gb246,1,none⟩=some (.slice none 0 0):=(blk_cell BK246.out 1).trans rfl;have hfz21_0:=blk_frozen BK246.out 0;have hfz21_1:=blk_frozen BK246.out 1))
       go_roundg k1
       case measure=>have:=HK1.out;omega
       case rel=>exact ⟨(wrap64 (x7_1+1)),(by first|rfl|(simp;done)|(simp [*];done)),H',⟨by have:=HK1.out;omega⟩,⟨by (with_reducible repeat (first|refine blk_drewN ?_ _|refine blk_drew ?_|refine blk_alloc ?_ _));refine blk_far ?_ NB244_246.out _;(with_reducible repeat (first|refine blk_drewN ?_ _|refine blk_drew ?_|refine blk_alloc ?_ _));refine blk_far ?_ NB244_246.out _;(with_reducible repeat (first|refine blk_drewN ?_ _|refine blk_drew ?_|refine blk_alloc ?_ _));exact BK244.out⟩,⟨by repeat (first|(with_reducible first|exact HB.out|apply below_alloc|apply pw_below_drewN|apply below_drew1|refine below_set ?_ GE244.out|refine below_set ?_ GE246.out)|exact HB.out)⟩⟩
     ·rw [if_neg c7] at H
      have c7b0:decide (((rd_T39 l0_0 x7_1).f0)≤a1)=false:=decide_eq_false c7
      clear c7
      have H':=Aside0.mk H
      clear H
      have hcz22_0:wr.cell? ⟨gb244,0,none⟩=some (.slice A0_0 l0_0.length c0_0):=(blk_cell BK244.out 0).trans rfl
      have hfz22_0:=blk_frozen BK244.out 0
      have p245:0≤(x7_1:Int):=of_decide_eq_true (by first|(with_reducible assumption)|assumption)
      have q245:x7_1<(l0_0.length:Int):=of_decide_eq_true (by first|(with_reducible assumption)|assumption)
      obtain ⟨ad245,A245_1,c245_1,e245,hx245_0,hx245_1,hl245_1,hi245_1⟩:=at_T39 HR0_0.out x7_1 p245 q245
      cases e245
      replace hx245_0:=(HB.out.cell (World.block_lt_of_cell? w _ hx245_0)).trans hx245_0
      replace hx245_1:=(HB.out.cell (World.block_lt_of_cell? w _ hx245_1)).trans hx245_1
      have HR245_1:=Aside0.mk hi245_1
      have HC245_1:=Aside0.mk hl245_1
      clear hi245_1 hl245_1
      replace p245:=eq_true p245
      replace q245:=eq_true q245
      go_wp2_with (first|((with_reducible refine gate_dst (N:=8) rfl ?_);refine box_event ?hg (N:=8) ?hd (cs:=#[.int .u64 0,.slice none 0 0]) (t:=39) ?hr ?_;(case hd=>rfl);(case hg=>rfl);(case hr=>first|(go_simp;done)|(go_simp;rfl));intro gb246 hg w23 hbox hb;have n0_:=Aside0.mk (blk_below (g:=gb244) (o:=.cells #[.slice (some ad245) l0_0.length c0_0] 78 (0,0)) (by (with_reducible repeat (first|refine blk_drewN ?_ _|refine blk_drew ?_|refine blk_alloc ?_ _));exact BK244.out) hb);have n1_:=Aside0.mk (below_step (by repeat (first|(with_reducible first|exact HB.out|apply below_alloc|apply pw_below_drewN|apply below_drew1|refine below_set ?_ GE244.out)|exact HB.out)) hb);have n2_:=Aside0.mk (hbox);have n3_:=Aside0.mk ((by rw [hg];exact (below_size (by repeat (first|(with_reducible first|exact HB.out|apply below_alloc|apply pw_below_drewN|apply below_drew1|refine below_set ?_ GE244.out)|exact HB.out))):w.heap.size≤gb246));have n4_:=Aside0.mk ((by rw [hg];exact (below_size (by repeat (first|(with_reducible first|exact HB.out|apply below_alloc|apply pw_below_drewN|apply below_drew1|refine below_set ?_ GE244.out)|exact HB.out))):w.heap.size≤gb246));have n5_:=Aside0.mk ((by rw [hg];exact Nat.ne_of_lt (blk_lt (g:=gb244) (o:=.cells #[.slice (some ad245) l0_0.length c0_0] 78 (0,0)) (by (with_reducible repeat (first|refine blk_drewN ?_ _|refine blk_drew ?_|refine blk_alloc ?_ _));exact BK244.out)):gb244≠gb246));have n6_:=Aside0.mk ((by rw [hg];exact Nat.ne_of_gt (blk_lt (g:=gb244) (o:=.cells #[.slice (some ad245) l0_0.length c0_0] 78 (0,0)) (by (with_reducible repeat (first|refine blk_drewN ?_ _|refine blk_drew ?_|refine blk_alloc ?_ _));exact BK244.out)):gb246≠gb244));clear BK244;clear HB;have BK244:=n0_;have HB:=n1_;have BK246:=n2_;have GW246:=n3_;have GE246:=n4_;have NB244_246:=n5_;have NB246_244:=n6_;clear n0_ n1_ n2_ n3_ n4_ n5_ n6_;clear hb hbox hg;have hnb24:=NB246_244.out;have hnc24:=NB244_246.out;have hcz25_0:w23.cell? ⟨gb246,0,none⟩=some (.int .u64 0):=(blk_cell BK246.out 0).trans rfl;have hcz25_1:w23.cell? ⟨gb246,1,none⟩=some (.slice none 0 0):=(blk_cell BK246.out 1).trans rfl;have hfz25_0:=blk_frozen BK246.out 0;have hfz25_1:=blk_frozen BK246.out 1))
      go_roundg k1
      case measure=>have:=HK1.out;omega
      case rel=>exact ⟨(wrap64 (x7_1+1)),(by first|rfl|(simp;done)|(simp [*];done)),H',⟨by have:=HK1.out;omega⟩,⟨by (with_reducible repeat (first|refine blk_drewN ?_ _|refine blk_drew ?_|refine blk_alloc ?_ _));refine blk_far ?_ NB244_246.out _;(with_reducible repeat (first|refine blk_drewN ?_ _|refine blk_drew ?_|refine blk_alloc ?_ _));refine blk_far ?_ NB244_246.out _;(with_reducible repeat (first|refine blk_drewN ?_ _|refine blk_drew ?_|refine blk_alloc ?_ _));exact BK244.out⟩,⟨by repeat (first|(with_reducible first|exact HB.out|apply below_alloc|apply pw_below_drewN|apply below_drew1|refine below_set ?_ GE244.out|refine below_set ?_ GE246.out)|exact HB.out)⟩⟩
    ·rw [if_neg c6] at H
     exact absurd H (by simp)
   ·rw [if_neg c5] at H
    have c5b0:decide (x7_1<(l0_0.length:Int))=false:=decide_eq_false c5
    clear c5
    obtain rfl:=Option.some.inj H
    have hcz26_0:wr.cell? ⟨gb244,0,none⟩=some (.slice A0_0 l0_0.length c0_0):=(blk_cell BK244.out 0).trans rfl
    have hfz26_0:=blk_frozen BK244.out 0
    go_wp2
    go_ret
    exact ⟨by first|rfl|(simp [errW_none,errW_some] <;> rfl)|(simp [*,errW_none,errW_some] <;> rfl),by repeat (first|(with_reducible first|exact HB.out|apply below_alloc|apply pw_below_drewN|apply below_drew1|refine below_set ?_ GE244.out)|exact HB.out)⟩
def spindleref20_Space_Load.l0:Nat→Int→Int→Int→Int→List (S39)→Option (Int × Int)
 | 0,_,_,_,_,_=>none
 | k+1,x9,x10,x11,x12,x248000=>if x12≥0 then (if 0≤x9 then (if x9<(x248000.length:Int) then (if 0≤(wrap64 (x11+x12)) then (if (wrap64 (x11+x12))<(((rd_T39 x248000 x9).f1).length:Int) then (spindleref20_Space_Load.l0 k x9 (IntKind.u64.wrap ((IntKind.u64.wrap (x10*256))+(IntKind.u64.wrap (rd ((rd_T39 x248000 x9).f1) (wrap64 (x11+x12)))))) x11 (wrap64 (x12 - 1)) x248000) else (none)) else (none)) else (none)) else (none)) else (some (x10,0))
def spindleref20_Space_Load.f (k:Nat) (l0_0:List (S39)) (a1:Int) (a2:Int):Option (Int × Int):=(spindleref20_wide.f a2).bind fun t248=>((spindleref20_Space_find.f k l0_0 a1 t248).bind fun t249=>(if t249<0 then (some (0,200)) else (if 0≤t249 then (if t249<(l0_0.length:Int) then (spindleref20_Space_Load.l0 k t249 0 (wrap64 (IntKind.u64.wrap (a1 - ((rd_T39 l0_0 t249).f0)))) (wrap64 (t248 - 1)) l0_0) else (none)) else (none))))
theorem spindleref20_Space_Load.calls (k:Nat) (A0_0:Option Addr) (c0_0:Nat) (l0_0:List (S39)) (a1:Int) (a2:Int) (r1:Int) (r2:Int) (w:World) (hr0_0:Kd.C k39 w A0_0 l0_0.length l0_0) (hc0_0:l0_0.length≤c0_0) (h:spindleref20_Space_Load.f k l0_0 a1 a2=some (r1,r2)) :
  Calls Try.prog 44 #[.agg #[.slice A0_0 l0_0.length c0_0],.int .u64 a1,.int .i64 a2] w fun e w'=>e=.returned (.tuple #[.int .u64 r1,.int .i64 r2])∧Below w.heap.size w w':=by
 have hu78:=Try.underlying78
 have HR0_0:=Aside0.mk hr0_0
 have HC0_0:=Aside0.mk hc0_0
 clear hr0_0 hc0_0
 have HB:=Aside0.mk (Below.refl w.heap.size w)
 have H:((spindleref20_wide.f a2).bind fun t248=>((spindleref20_Space_find.f k l0_0 a1 t248).bind fun t249=>(if t249<0 then (some (0,200)) else (if 0≤t249 then (if t249<(l0_0.length:Int) then (spindleref20_Space_Load.l0 k t249 0 (wrap64 (IntKind.u64.wrap (a1 - ((rd_T39 l0_0 t249).f0)))) (wrap64 (t248 - 1)) l0_0) else (none)) else (none)))))=some (r1,r2):=h
 clear h
 replace H:=Option.bind_eq_some_iff.mp H
 obtain ⟨t248,A40,H⟩:=H
 replace H:((spindleref20_Space_find.f k l0_0 a1 t248).bind fun t249=>(if t249<0 then (some (0,200)) else (if 0≤t249 then (if t249<(l0_0.length:Int) then (spindleref20_Space_Load.l0 k t249 0 (wrap64 (IntKind.u64.wrap (a1 - ((rd_T39 l0_0 t249).f0)))) (wrap64 (t248 - 1)) l0_0) else (none)) else (none))))=some (r1,r2):=H
 have A4:=Aside0.mk A40
 clear A40
 replace H:=Option.bind_eq_some_iff.mp H
 obtain ⟨t249,A50,H⟩:=H
 replace H:(if t249<0 then (some (0,200)) else (if 0≤t249 then (if t249<(l0_0.length:Int) then (spindleref20_Space_Load.l0 k t249 0 (wrap64 (IntKind.u64.wrap (a1 - ((rd_T39 l0_0 t249).f0)))) (wrap64 (t248 - 1)) l0_0) else (none)) else (none)))=some (r1,r2):=H
 have A5:=Aside0.mk A50
 clear A50
 by_cases c6:t249<0
 ·rw [if_pos c6] at H
  have c6b0:decide (t249<0)=true:=decide_eq_true c6
  clear c6
  simp only [Option.some.injEq,Prod.mk.injEq] at H
  obtain ⟨rfl,rfl⟩:=H
  go_enter Try.func44,Try.ntmps44
  go_wp2_with (first|((with_reducible refine gate_dst (N:=3) rfl ?_);refine box_event ?hg (N:=3) ?hd (cs:=#[.slice A0_0 l0_0.length c0_0]) (t:=78) ?hr ?_;(case hd=>rfl);(case hg=>rfl);(case hr=>first|(go_simp;done)|(go_simp;rfl));intro gb247 hg w7 hbox hb;have n0_:=Aside0.mk (below_step (by repeat (first|(with_reducible first|exact HB.out|apply below_alloc|apply pw_below_drewN|apply below_drew1)|exact HB.out)) hb);have n1_:=Aside0.mk (hbox);have n2_:=Aside0.mk ((by rw [hg];exact (below_size (by repeat (first|(with_reducible first|exact HB.out|apply below_alloc|apply pw_below_drewN|apply below_drew1)|exact HB.out))):w.heap.size≤gb247));have n3_:=Aside0.mk ((by rw [hg];exact (below_size (by repeat (first|(with_reducible first|exact HB.out|apply below_alloc|apply pw_below_drewN|apply below_drew1)|exact HB.out))):w.heap.size≤gb247));clear HB;have HB:=n0_;have BK247:=n1_;have GW247:=n2_;have GE247:=n3_;clear n0_ n1_ n2_ n3_;clear hb hbox hg)|((with_reducible refine gate_callee (f:=76) rfl ?_);refine goesL_ (some 14) rfl rfl Try.func76 (by kernel_rfl) rfl #[.int .i64 a2] rfl (by (try simp only [List.map_toArray,List.map_cons,List.map_nil]);first|done|rfl|(simp only [List.length_drop,List.length_take];rfl)) ?_;(with_reducible refine (spindleref20_wide.calls a2 t248 _ A4.out).mono ?_);rintro e w' ⟨rfl,⟨nd,rfl⟩⟩;refine ⟨_,rfl,?_⟩;have hcz8_0:w7.cell? ⟨gb247,0,none⟩=some (.slice A0_0 l0_0.length c0_0):=(blk_cell BK247.out 0).trans rfl;have hfz8_0:=blk_frozen BK247.out 0)|((with_reducible refine gate_callee (f:=77) rfl ?_);refine goesL_ (some 18) rfl rfl Try.func77 (by kernel_rfl) rfl #[.agg #[.slice A0_0 l0_0.length c0_0],.int .u64 a1,.int .i64 t248] rfl (by (try simp only [List.map_toArray,List.map_cons,List.map_nil]);first|done|rfl|(simp only [List.length_drop,List.length_take];rfl)) ?_;(with_reducible refine (spindleref20_Space_find.calls k _ _ l0_0 a1 t248 t249 _ ?side1 ?side2 A5.out).mono ?_);(case side1=>repeat (first|exact (Kd.C_below HR0_0.out (by repeat (first|(with_reducible first|exact HB.out|apply below_alloc|apply pw_below_drewN|apply below_drew1|refine below_set ?_ GE247.out)|exact HB.out)))|(with_reducible refine Kd.C_alloc ?_ _)|(with_reducible refine Kd.C_drewN ?_ _)|(with_reducible refine Kd.C_drew ?_)));(case side2=>exact HC0_0.out);rintro e w9 ⟨rfl,hb⟩;refine ⟨_,rfl,?_⟩;have n0_:=Aside0.mk (blk_below (g:=gb247) (o:=.cells #[.slice A0_0 l0_0.length c0_0] 78 (0,0)) (by (with_reducible repeat (first|refine blk_drewN ?_ _|refine blk_drew ?_|refine blk_alloc ?_ _));exact BK247.out) hb);have n1_:=Aside0.mk (below_step (by repeat (first|(with_reducible first|exact HB.out|apply below_alloc|apply pw_below_drewN|apply below_drew1|refine below_set ?_ GE247.out)|exact HB.out)) hb);clear BK247;clear HB;have BK247:=n0_;have HB:=n1_;clear n0_ n1_;(try clear hb);(try clear hb2);(try clear hk);(try clear hi)))
  go_ret2
  exact ⟨by first|rfl|(simp [errW_none,errW_some] <;> rfl)|(simp [*,errW_none,errW_some] <;> rfl),by repeat (first|(with_reducible first|exact HB.out|apply below_alloc|apply pw_below_drewN|apply below_drew1|refine below_set ?_ GE247.out)|exact HB.out)⟩
 ·rw [if_neg c6] at H
  have c6b0:decide (t249<0)=false:=decide_eq_false c6
  clear c6
  by_cases c10:0≤t249
  ·rw [if_pos c10] at H
   have c10b0:decide (0≤t249)=true:=decide_eq_true c10
   clear c10
   by_cases c11:t249<(l0_0.length:Int)
   ·rw [if_pos c11] at H
    have c11b0:decide (t249<(l0_0.length:Int))=true:=decide_eq_true c11
    clear c11
    have H':=Aside0.mk H
    clear H
    go_enter Try.func44,Try.ntmps44
    go_wp2_with (first|((with_reducible refine gate_dst (N:=3) rfl ?_);refine box_event ?hg (N:=3) ?hd (cs:=#[.slice A0_0 l0_0.length c0_0]) (t:=78) ?hr ?_;(case hd=>rfl);(case hg=>rfl);(case hr=>first|(go_simp;done)|(go_simp;rfl));intro gb247 hg w12 hbox hb;have n0_:=Aside0.mk (below_step (by repeat (first|(with_reducible first|exact HB.out|apply below_alloc|apply pw_below_drewN|apply below_drew1)|exact HB.out)) hb);have n1_:=Aside0.mk (hbox);have n2_:=Aside0.mk ((by rw [hg];exact (below_size (by repeat (first|(with_reducible first|exact HB.out|apply below_alloc|apply pw_below_drewN|apply below_drew1)|exact HB.out))):w.heap.size≤gb247));have n3_:=Aside0.mk ((by rw [hg];exact (below_size (by repeat (first|(with_reducible first|exact HB.out|apply below_alloc|apply pw_below_drewN|apply below_drew1)|exact HB.out))):w.heap.size≤gb247));clear HB;have HB:=n0_;have BK247:=n1_;have GW247:=n2_;have GE247:=n3_;clear n0_ n1_ n2_ n3_;clear hb hbox hg)|((with_reducible refine gate_callee (f:=76) rfl ?_);refine goesL_ (some 14) rfl rfl Try.func76 (by kernel_rfl) rfl #[.int .i64 a2] rfl (by (try simp only [List.map_toArray,List.map_cons,List.map_nil]);first|done|rfl|(simp only [List.length_drop,List.length_take];rfl)) ?_;(with_reducible refine (spindleref20_wide.calls a2 t248 _ A4.out).mono ?_);rintro e w' ⟨rfl,⟨nd,rfl⟩⟩;refine ⟨_,rfl,?_⟩;have hcz13_0:w12.cell? ⟨gb247,0,none⟩=some (.slice A0_0 l0_0.length c0_0):=(blk_cell BK247.out 0).trans rfl;have hfz13_0:=blk_frozen BK247.out 0)|((with_reducible refine gate_callee (f:=77) rfl ?_);refine goesL_ (some 18) rfl rfl Try.func77 (by kernel_rfl) rfl #[.agg #[.slice A0_0 l0_0.length c0_0],.int .u64 a1,.int .i64 t248] rfl (by (try simp only [List.map_toArray,List.map_cons,List.map_nil]);first|done|rfl|(simp only [List.length_drop,List.length_take];rfl)) ?_;(with_reducible refine (spindleref20_Space_find.calls k _ _ l0_0 a1 t248 t249 _ ?side1 ?side2 A5.out).mono ?_);(case side1=>repeat (first|exact (Kd.C_below HR0_0.out (by repeat (first|(with_reducible first|exact HB.out|apply below_alloc|apply pw_below_drewN|apply below_drew1|refine below_set ?_ GE247.out)|exact HB.out)))|(with_reducible refine Kd.C_alloc ?_ _)|(with_reducible refine Kd.C_drewN ?_ _)|(with_reducible refine Kd.C_drew ?_)));(case side2=>exact HC0_0.out);rintro e w14 ⟨rfl,hb⟩;refine ⟨_,rfl,?_⟩;have n0_:=Aside0.mk (blk_below (g:=gb247) (o:=.cells #[.slice A0_0 l0_0.length c0_0] 78 (0,0)) (by (with_reducible repeat (first|refine blk_drewN ?_ _|refine blk_drew ?_|refine blk_alloc ?_ _));exact BK247.out) hb);have n1_:=Aside0.mk (below_step (by repeat (first|(with_reducible first|exact HB.out|apply below_alloc|apply pw_below_drewN|apply below_drew1|refine below_set ?_ GE247.out)|exact HB.out)) hb);clear BK247;clear HB;have BK247:=n0_;have HB:=n1_;clear n0_ n1_;(try clear hb);(try clear hb2);(try clear hk);(try clear hi);have hcz15_0:w14.cell? ⟨gb247,0,none⟩=some (.slice A0_0 l0_0.length c0_0):=(blk_cell BK247.out 0).trans rfl;have hfz15_0:=blk_frozen BK247.out 0;have p250:0≤(t249:Int):=of_decide_eq_true (by first|(with_reducible assumption)|assumption);have q250:t249<(l0_0.length:Int):=of_decide_eq_true (by first|(with_reducible assumption)|assumption);obtain ⟨ad250,A250_1,c250_1,e250,hx250_0,hx250_1,hl250_1,hi250_1⟩:=at_T39 HR0_0.out t249 p250 q250;cases e250;replace hx250_0:=(HB.out.cell (World.block_lt_of_cell? w _ hx250_0)).trans hx250_0;replace hx250_1:=(HB.out.cell (World.block_lt_of_cell? w _ hx250_1)).trans hx250_1;have HR250_1:=Aside0.mk hi250_1;have HC250_1:=Aside0.mk hl250_1;clear hi250_1 hl250_1;replace p250:=eq_true p250;replace q250:=eq_true q250))
    go_loopg [10,12] k (fun kq v10 v12 w'=>∃ (x10_1:Int) (x12_1:Int),v10=.int .u64 x10_1∧v12=.int .i64 x12_1∧Aside0 (spindleref20_Space_Load.l0 kq t249 x10_1 (wrap64 (IntKind.u64.wrap (a1 - ((rd_T39 l0_0 t249).f0)))) x12_1 l0_0=some (r1,r2))∧Aside0 (kq≤k)∧Aside0 (w'.heap[gb247]?=some (.cells #[(.slice (some ad250) l0_0.length c0_0)] 78 (0,0)))∧Aside0 (Below w.heap.size w w'))
    case atStart=>exact ⟨(0),(wrap64 (t248 - 1)),(by first|rfl|(simp;done)|(simp [*];done)),(by first|rfl|(simp;done)|(simp [*];done)),H',⟨Nat.le_refl _⟩,⟨by (with_reducible repeat (first|refine blk_drewN ?_ _|refine blk_drew ?_|refine blk_alloc ?_ _));exact BK247.out⟩,⟨by repeat (first|(with_reducible first|exact HB.out|apply below_alloc|apply pw_below_drewN|apply below_drew1|refine below_set ?_ GE247.out)|exact HB.out)⟩⟩
    case round =>
     clear H'
     try clear c1
     try clear c2
     try clear p2
     try clear q2
     try clear hx2
     try clear c4
     try clear c6
     try clear c6b0
     try clear p6
     try clear c7
     try clear c10
     try clear c10b0
     try clear c11
     try clear c11b0
     try clear hcz13_0
     try clear hcz15_0
     try clear hcz8_0
     try clear hfz13_0
     try clear hfz15_0
     try clear hfz8_0
     try clear hx250_0
     try clear hx250_1
     try clear p250
     try clear q250
     obtain ⟨x10_1,x12_1,rfl,rfl,HA,HK1,BK247,HB⟩:=hrel
     cases gk with
     | zero=>exact absurd HA.out (by simp [spindleref20_Space_Load.l0])
     | succ k1 =>
      have H:=HA.out
      clear HA
      simp only [spindleref20_Space_Load.l0] at H
      by_cases c16:x12_1≥0
      ·rw [if_pos c16] at H
       have c16b0:decide (0≤x12_1)=true:=decide_eq_true c16
       clear c16
       by_cases c17:0≤t249
       ·rw [if_pos c17] at H
        have c17b0:decide (0≤t249)=true:=decide_eq_true c17
        clear c17
        by_cases c18:t249<(l0_0.length:Int)
        ·rw [if_pos c18] at H
         have c18b0:decide (t249<(l0_0.length:Int))=true:=decide_eq_true c18
         clear c18
         obtain ⟨ji19,hji19⟩:∃ j_:Int,(wrap64 ((wrap64 (IntKind.u64.wrap (a1 - ((rd_T39 l0_0 t249).f0))))+x12_1))=j_:=⟨_,rfl⟩
         replace H:(if 0≤(ji19) then (if (ji19)<(((rd_T39 l0_0 t249).f1).length:Int) then (spindleref20_Space_Load.l0 k1 t249 (IntKind.u64.wrap ((IntKind.u64.wrap (x10_1*256))+(IntKind.u64.wrap (rd ((rd_T39 l0_0 t249).f1) (ji19))))) (wrap64 (IntKind.u64.wrap (a1 - ((rd_T39 l0_0 t249).f0)))) (wrap64 (x12_1 - 1)) l0_0) else (none)) else (none))=some (r1,r2):=by first|(rw [hji19] at H;exact H)|(simp only [hji19] at H ⊢;exact H)
         have hji19w:(IntKind.i64.wrap ((wrap64 (IntKind.u64.wrap (a1 - ((rd_T39 l0_0 t249).f0))))+x12_1))=ji19:=(i64_w _).trans hji19
         by_cases c20:0≤(ji19)
         ·rw [if_pos c20] at H
          have c20b0:decide (0≤(ji19))=true:=decide_eq_true c20
          clear c20
          by_cases c21:(ji19)<(((rd_T39 l0_0 t249).f1).length:Int)
          ·rw [if_pos c21] at H
           have c21b0:decide ((ji19)<(((rd_T39 l0_0 t249).f1).length:Int))=true:=decide_eq_true c21
           clear c21
           have H':=Aside0.mk H
           clear H
           have hcz22_0:wr.cell? ⟨gb247,0,none⟩=some (.slice (some ad250) l0_0.length c0_0):=(blk_cell BK247.out 0).trans rfl
           have hfz22_0:=blk_frozen BK247.out 0
           have p251:0≤(t249:Int):=of_decide_eq_true (by first|(with_reducible assumption)|assumption)
           have q251:t249<(l0_0.length:Int):=of_decide_eq_true (by first|(with_reducible assumption)|assumption)
           obtain ⟨ad251,A251_1,c251_1,e251,hx251_0,hx251_1,hl251_1,hi251_1⟩:=at_T39 HR0_0.out t249 p251 q251
           obtain rfl:ad250=ad251:=(by injection e251)
           replace hx251_0:=(HB.out.cell (World.block_lt_of_cell? w _ hx251_0)).trans hx251_0
           replace hx251_1:=(HB.out.cell (World.block_lt_of_cell? w _ hx251_1)).trans hx251_1
           have HR251_1:=Aside0.mk hi251_1
           have HC251_1:=Aside0.mk hl251_1
           clear hi251_1 hl251_1
           replace p251:=eq_true p251
           replace q251:=eq_true q251
           have p252:0≤((ji19):Int):=of_decide_eq_true (by first|(with_reducible assumption)|assumption)
           have q252:(ji19)<(((rd_T39 l0_0 t249).f1).length:Int):=of_decide_eq_true (by first|(with_reducible assumption)|assumption)
           obtain ⟨ad252,e252,hx252_0⟩:=Kd.at_int HR251_1.out (ji19) p252 q252
           cases e252
           replace hx252_0:=(HB.out.cell (World.block_lt_of_cell? w _ hx252_0)).trans hx252_0
           replace p252:=eq_true p252
           replace q252:=eq_true q252
           go_wp2
           go_roundg k1
           case measure=>have:=HK1.out;omega
           case rel=>exact ⟨(IntKind.u64.wrap ((IntKind.u64.wrap (x10_1*256))+(IntKind.u64.wrap (rd ((rd_T39 l0_0 t249).f1) (ji19))))),(wrap64 (x12_1 - 1)),(by first|rfl|(simp;done)|(simp only [← hji19] <;> (first|rfl|simp))|(simp [*];done)),(by first|rfl|(simp;done)|(simp [*];done)),H',⟨by have:=HK1.out;omega⟩,⟨by (with_reducible repeat (first|refine blk_drewN ?_ _|refine blk_drew ?_|refine blk_alloc ?_ _));exact BK247.out⟩,⟨by repeat (first|(with_reducible first|exact HB.out|apply below_alloc|apply pw_below_drewN|apply below_drew1|refine below_set ?_ GE247.out)|exact HB.out)⟩⟩
          ·rw [if_neg c21] at H
           exact absurd H (by simp)
         ·rw [if_neg c20] at H
          exact absurd H (by simp)
        ·rw [if_neg c18] at H
         exact absurd H (by simp)
       ·rw [if_neg c17] at H
        exact absurd H (by simp)
      ·rw [if_neg c16] at H
       have c16b0:decide (0≤x12_1)=false:=decide_eq_false c16
       clear c16
       simp only [Option.some.injEq,Prod.mk.injEq] at H
       obtain ⟨rfl,rfl⟩:=H
       go_wp2
       go_ret2
       exact ⟨by first|rfl|(simp [errW_none,errW_some] <;> rfl)|(simp [*,errW_none,errW_some] <;> rfl),by repeat (first|(with_reducible first|exact HB.out|apply below_alloc|apply pw_below_drewN|apply below_drew1|refine below_set ?_ GE247.out)|exact HB.out)⟩
   ·rw [if_neg c11] at H
    exact absurd H (by simp)
  ·rw [if_neg c10] at H
   exact absurd H (by simp)
end Go.Proofs.Ythmeojeehemlaaa.PM
end
section
namespace Go.Proofs.Ythmeojeehemlaaa.PM
open Go.RowKit Go.Proofs.YthmeojeehemlaaaW.PrintWords Go.Proofs.YthmeojeehemlaaaW.PrintLast Go.Proofs.YthmeojeehemlaaaW.PrintMore
attribute [local go_sem] isSome_setCell max2_int min2_int max_two min_two max_three min_three max_four min_four
def spindlelaw0_SameBytes.f (l0:List Int) (l1:List Int):Option (Bool):=some ((strOfNums l0).toList == (strOfNums l1).toList)
theorem spindlelaw0_SameBytes.calls (A0:Option Addr) (c0:Nat) (l0:List Int) (A1:Option Addr) (c1:Nat) (l1:List Int) (r:Bool) (w:World) (hr0:Kd.C (Kd.int .u8) w A0 l0.length l0) (hc0:l0.length≤c0) (hr1:Kd.C (Kd.int .u8) w A1 l1.length l1) (hc1:l1.length≤c1) (h:spindlelaw0_SameBytes.f l0 l1=some r) :
  Calls Try.prog 48 #[.slice A0 l0.length c0,.slice A1 l1.length c1] w fun e w'=>e=.returned (.bool r)∧Drawn0 w w':=by
 have HR0:=Aside0.mk hr0
 have HC0:=Aside0.mk hc0
 clear hr0 hc0
 have HR1:=Aside0.mk hr1
 have HC1:=Aside0.mk hc1
 clear hr1 hc1
 have H:(some ((strOfNums l0).toList == (strOfNums l1).toList))=some r:=h
 clear h
 obtain rfl:=Option.some.inj H
 have hcv3:=Kd.C_string (P:=Try.prog) (A:=A0) (c:=c0) Try.underlying37 Try.underlying5 Try.underlying9 HR0.out
 have hcv4:=Kd.C_string (P:=Try.prog) (A:=A1) (c:=c1) Try.underlying37 Try.underlying5 Try.underlying9 HR1.out
 go_enter Try.func48,Try.ntmps48
 go_wp2
 go_ret
 exact ⟨by first|rfl|(simp;done)|(simp [*];done),by repeat (first|exact Drawn0.refl _|apply Drawn0.step)⟩
mutual
def spindleref20_Space_Regions.l0:Nat→List (S39)→List (S39)→Option ((List (S39)))
 | 0,_,_=>none
 | k+1,x3,x282000=>if (x3.length:Int)<(x282000.length:Int) then (spindleref20_Space_Regions.l1 k x3 (-1) 0 x282000) else (some x3)
def spindleref20_Space_Regions.l1:Nat→List (S39)→Int→Int→List (S39)→Option ((List (S39)))
 | 0,_,_,_,_=>none
 | k+1,x3,x4,x5,x282000=>if x5<(x282000.length:Int) then (if (x3.length:Int)=0 then (if x4<0 then (spindleref20_Space_Regions.l1 k x3 x5 (wrap64 (x5+1)) x282000) else (if 0≤x5 then (if 0≤x4 then (if x4<(x282000.length:Int) then (if ((rd_T39 x282000 x5).f0)<((rd_T39 x282000 x4).f0) then (spindleref20_Space_Regions.l1 k x3 x5 (wrap64 (x5+1)) x282000) else (spindleref20_Space_Regions.l1 k x3 x4 (wrap64 (x5+1)) x282000)) else (none)) else (none)) else (none))) else (if 0≤x5 then (if 0≤(wrap64 ((x3.length:Int) - 1)) then (if (wrap64 ((x3.length:Int) - 1))<(x3.length:Int) then (if ((rd_T39 x282000 x5).f0) > ((rd_T39 x3 (wrap64 ((x3.length:Int) - 1))).f0) then (if x4<0 then (spindleref20_Space_Regions.l1 k x3 x5 (wrap64 (x5+1)) x282000) else (if 0≤x4 then (if x4<(x282000.length:Int) then (if ((rd_T39 x282000 x5).f0)<((rd_T39 x282000 x4).f0) then (spindleref20_Space_Regions.l1 k x3 x5 (wrap64 (x5+1)) x282000) else (spindleref20_Space_Regions.l1 k x3 x4 (wrap64 (x5+1)) x282000)) else (none)) else (none))) else (spindleref20_Space_Regions.l1 k x3 x4 (wrap64 (x5+1)) x282000)) else (none)) else (none)) else (none))) else (if 0≤x4 then (if x4<(x282000.length:Int) then ((spindleref20_copied.f ((rd_T39 x282000 x4).f0) ((rd_T39 x282000 x4).f1)).bind fun bt289=>(if x3.length<4398046511104 then (spindleref20_Space_Regions.l0 k (x3 ++ [(⟨bt289.1,bt289.2⟩:S39)]) x282000) else (none))) else (none)) else (none))
end
def spindleref20_Space_Regions.f (k:Nat) (l0_0:List (S39)):Option ((List (S39))):=spindleref20_Space_Regions.l0 k ([]:List (S39)) l0_0
theorem spindleref20_Space_Regions.calls (k:Nat) (A0_0:Option Addr) (c0_0:Nat) (l0_0:List (S39)) (r:List (S39)) (w:World) (hr0_0:Kd.C k39 w A0_0 l0_0.length l0_0) (hc0_0:l0_0.length≤c0_0) (h:spindleref20_Space_Regions.f k l0_0=some r) :
  Calls Try.prog 51 #[.agg #[.slice A0_0 l0_0.length c0_0]] w fun e w'=>∃ v0_:Value,e=.returned (v0_)∧Kd.S k39 39 w' w.heap.size (fun _=>True) v0_ r∧Below w.heap.size w w':=by
 have hu78:=Try.underlying78
 have hu39:=Try.underlying39
 have HR0_0:=Aside0.mk hr0_0
 have HC0_0:=Aside0.mk hc0_0
 clear hr0_0 hc0_0
 have HB:=Aside0.mk (Below.refl w.heap.size w)
 have H:(spindleref20_Space_Regions.l0 k ([]:List (S39)) l0_0)=some r:=h
 clear h
 have H':=Aside0.mk H
 clear H
 go_enter Try.func51,Try.ntmps51
 go_wp2_with (first|((with_reducible refine gate_dst (N:=1) rfl ?_);(try (refine gate_guard (by rfl) ?_;dsimp only));refine box_event ?hg (N:=1) ?hd (cs:=#[.slice A0_0 l0_0.length c0_0]) (t:=78) ?hr ?_;(case hd=>rfl);(case hg=>rfl);(case hr=>first|(go_simp;done)|(go_simp;rfl));intro gb281 hg w2 hbox hb;have n0_:=Aside0.mk (below_step (by repeat (first|(with_reducible first|exact HB.out|apply below_alloc|apply pw_below_drewN|apply below_drew1)|exact HB.out)) hb);have n1_:=Aside0.mk (hbox);have n2_:=Aside0.mk ((by rw [hg];exact (below_size (by repeat (first|(with_reducible first|exact HB.out|apply below_alloc|apply pw_below_drewN|apply below_drew1)|exact HB.out))):w.heap.size≤gb281));have n3_:=Aside0.mk ((by rw [hg];exact (below_size (by repeat (first|(with_reducible first|exact HB.out|apply below_alloc|apply pw_below_drewN|apply below_drew1)|exact HB.out))):w.heap.size≤gb281));clear HB;have HB:=n0_;have BK281:=n1_;have GW281:=n2_;have GE281:=n3_;clear n0_ n1_ n2_ n3_;clear hb hbox hg))
 repeat (go_quiet (first|((with_reducible refine gate_dst (N:=1) rfl ?_);(try (refine gate_guard (by rfl) ?_;dsimp only));refine box_event ?hg (N:=1) ?hd (cs:=#[.slice A0_0 l0_0.length c0_0]) (t:=78) ?hr ?_;(case hd=>rfl);(case hg=>rfl);(case hr=>first|(go_simp;done)|(go_simp;rfl));intro gb281 hg w2 hbox hb;have n0_:=Aside0.mk (below_step (by repeat (first|(with_reducible first|exact HB.out|apply below_alloc|apply pw_below_drewN|apply below_drew1)|exact HB.out)) hb);have n1_:=Aside0.mk (hbox);have n2_:=Aside0.mk ((by rw [hg];exact (below_size (by repeat (first|(with_reducible first|exact HB.out|apply below_alloc|apply pw_below_drewN|apply below_drew1)|exact HB.out))):w.heap.size≤gb281));have n3_:=Aside0.mk ((by rw [hg];exact (below_size (by repeat (first|(with_reducible first|exact HB.out|apply below_alloc|apply pw_below_drewN|apply below_drew1)|exact HB.out))):w.heap.size≤gb281));clear HB;have HB:=n0_;have BK281:=n1_;have GW281:=n2_;have GE281:=n3_;clear n0_ n1_ n2_ n3_;clear hb hbox hg));try go_wp2_with (first|((with_reducible refine gate_dst (N:=1) rfl ?_);(try (refine gate_guard (by rfl) ?_;dsimp only));refine box_event ?hg (N:=1) ?hd (cs:=#[.slice A0_0 l0_0.length c0_0]) (t:=78) ?hr ?_;(case hd=>rfl);(case hg=>rfl);(case hr=>first|(go_simp;done)|(go_simp;rfl));intro gb281 hg w2 hbox hb;have n0_:=Aside0.mk (below_step (by repeat (first|(with_reducible first|exact HB.out|apply below_alloc|apply pw_below_drewN|apply below_drew1)|exact HB.out)) hb);have n1_:=Aside0.mk (hbox);have n2_:=Aside0.mk ((by rw [hg];exact (below_size (by repeat (first|(with_reducible first|exact HB.out|apply below_alloc|apply pw_below_drewN|apply below_drew1)|exact HB.out))):w.heap.size≤gb281));have n3_:=Aside0.mk ((by rw [hg];exact (below_size (by repeat (first|(with_reducible first|exact HB.out|apply below_alloc|apply pw_below_drewN|apply below_drew1)|exact HB.out))):w.heap.size≤gb281));clear HB;have HB:=n0_;have BK281:=n1_;have GW281:=n2_;have GE281:=n3_;clear n0_ n1_ n2_ n3_;clear hb hbox hg)))
 go_loopg [3] k (fun kq v3 w'=>∃ (x3_1:List (S39)),Aside0 (spindleref20_Space_Regions.l0 kq x3_1 l0_0=some r)∧Aside0 (kq≤k)∧Aside0 (Kd.S k39 39 w' w.heap.size (fun _=>True) v3 x3_1)∧Aside0 (w'.heap[gb281]?=some (.cells #[(.slice A0_0 l0_0.length c0_0)] 78 (0,0)))∧Aside0 (Below w.heap.size w w'))
 case atStart=>exact ⟨(([]:List (S39))),H',⟨Nat.le_refl _⟩,⟨by first|exact Kd.S_nil _ _ _ _ _|exact Kd.N_nil _ _ _ _ _|exact Kd.V_nil _ _ _ _ _|exact Kd.Q_nil _ _ _ _ _|exact Kd.R_nil _ _ _ _ _⟩,⟨by (with_reducible repeat (first|refine blk_drewN ?_ _|refine blk_drew ?_|refine blk_alloc ?_ _));exact BK281.out⟩,⟨by repeat (first|(with_reducible first|exact HB.out|apply below_alloc|apply pw_below_drewN|apply below_drew1|refine below_set ?_ GE281.out)|exact HB.out)⟩⟩
 case round =>
  clear H'
  try clear p2
  obtain ⟨x3_1,HA,HK1,HO_3,BK281,HB⟩:=hrel
  cases gk with
  | zero=>exact absurd HA.out (by simp [spindleref20_Space_Regions.l0])
  | succ k1 =>
   have H:=HA.out
   clear HA
   simp only [spindleref20_Space_Regions.l0] at H
   by_cases c3:(x3_1.length:Int)<(l0_0.length:Int)
   ·rw [if_pos c3] at H
    have c3b0:decide ((x3_1.length:Int)<(l0_0.length:Int))=true:=decide_eq_true c3
    have c3b1:decide (x3_1.length<l0_0.length)=true:=decide_eq_true (Int.ofNat_lt.mp c3)
    clear c3
    have H':=Aside0.mk H
    clear H
    obtain ⟨Ao4,co4,eo4⟩:=Kd.S_slice HO_3.out
    subst eo4
    have hcz5_0:wr.cell? ⟨gb281,0,none⟩=some (.slice A0_0 l0_0.length c0_0):=(blk_cell BK281.out 0).trans rfl
    have hfz5_0:=blk_frozen BK281.out 0
    go_wp2
    repeat (go_quiet (fail);try go_wp2)
    go_loopg [4,5] k1 (fun kq v4 v5 w'=>∃ (x4_2:Int) (x5_2:Int),v4=.int .i64 x4_2∧v5=.int .i64 x5_2∧Aside0 (spindleref20_Space_Regions.l1 kq x3_1 x4_2 x5_2 l0_0=some r)∧Aside0 (kq≤k1)∧Aside0 (Kd.S k39 39 w' w.heap.size (fun _=>True) (.slice Ao4 x3_1.length co4) x3_1)∧Aside0 (w'.heap[gb281]?=some (.cells #[(.slice A0_0 l0_0.length c0_0)] 78 (0,0)))∧Aside0 (Below w.heap.size w w'))
    case atStart=>exact ⟨((-1)),(0),(by first|rfl|(simp;done)|(simp [*];done)),(by first|rfl|(simp;done)|(simp [*];done)),H',⟨Nat.le_refl _⟩,⟨by (with_reducible repeat (first|apply Kd.S_alloc|apply Kd.S_drewN|apply Kd.S_drew));exact HO_3.out⟩,⟨by (with_reducible repeat (first|refine blk_drewN ?_ _|refine blk_drew ?_|refine blk_alloc ?_ _));exact BK281.out⟩,⟨by repeat (first|(with_reducible first|exact HB.out|apply below_alloc|apply pw_below_drewN|apply below_drew1|refine below_set ?_ GE281.out)|exact HB.out)⟩⟩
    case round =>
     clear H'
     try clear p2
     try clear c3
     try clear c3b0
     try clear c3b1
     try clear c5
     try clear hcz5_0
     try clear hfz5_0
     try clear p2
     obtain ⟨x4_2,x5_2,rfl,rfl,HA,HK2,HO_3,BK281,HB⟩:=hrel
     cases gk with
     | zero=>exact absurd HA.out (by simp [spindleref20_Space_Regions.l1])
     | succ k2 =>
      have H:=HA.out
      clear HA
      simp only [spindleref20_Space_Regions.l1] at H
      by_cases c6:x5_2<(l0_0.length:Int)
      ·rw [if_pos c6] at H
       have c6b0:decide (x5_2<(l0_0.length:Int))=true:=decide_eq_true c6
       clear c6
       by_cases c7:(x3_1.length:Int)=0
       ·rw [if_pos c7] at H
        have c7b0:((x3_1.length:Int) == 0)=true:=beq_iff_eq.mpr c7
        have c7b1:((x3_1.length:Int) != 0)=false:=bne_eq_false_iff_eq.mpr c7
        clear c7
        by_cases c8:x4_2<0
        ·rw [if_pos c8] at H
         have c8b0:decide (x4_2<0)=true:=decide_eq_true c8
         clear c8
         have H':=Aside0.mk H
         clear H
         have hcz9_0:wr.cell? ⟨gb281,0,none⟩=some (.slice A0_0 l0_0.length c0_0):=(blk_cell BK281.out 0).trans rfl
         have hfz9_0:=blk_frozen BK281.out 0
         go_wp2
         repeat (go_quiet (fail);try go_wp2)
         go_roundg k2
         case measure=>have:=HK1.out;have:=HK2.out;omega
         case rel=>exact ⟨(x5_2),(wrap64 (x5_2+1)),(by first|rfl|(simp;done)|(simp [*];done)),(by first|rfl|(simp;done)|(simp [*];done)),H',⟨by have:=HK1.out;have:=HK2.out;omega⟩,⟨by (with_reducible repeat (first|apply Kd.S_alloc|apply Kd.S_drewN|apply Kd.S_drew));exact HO_3.out⟩,⟨by (with_reducible repeat (first|refine blk_drewN ?_ _|refine blk_drew ?_|refine blk_alloc ?_ _));exact BK281.out⟩,⟨by repeat (first|(with_reducible first|exact HB.out|apply below_alloc|apply pw_below_drewN|apply below_drew1|refine below_set ?_ GE281.out)|exact HB.out)⟩⟩
        ·rw [if_neg c8] at H
         have c8b0:decide (x4_2<0)=false:=decide_eq_false c8
         clear c8
         by_cases c10:0≤x5_2
         ·rw [if_pos c10] at H
          have c10b0:decide (0≤x5_2)=true:=decide_eq_true c10
          clear c10
          by_cases c11:0≤x4_2
          ·rw [if_pos c11] at H
           have c11b0:decide (0≤x4_2)=true:=decide_eq_true c11
           clear c11
           by_cases c12:x4_2<(l0_0.length:Int)
           ·rw [if_pos c12] at H
            have c12b0:decide (x4_2<(l0_0.length:Int))=true:=decide_eq_true c12
            clear c12
            by_cases c13:((rd_T39 l0_0 x5_2).f0)<((rd_T39 l0_0 x4_2).f0)
            ·rw [if_pos c13] at H
             have c13b0:decide (((rd_T39 l0_0 x5_2).f0)<((rd_T39 l0_0 x4_2).f0))=true:=decide_eq_true c13
             clear c13
             have H':=Aside0.mk H
             clear H
             have hcz14_0:wr.cell? ⟨gb281,0,none⟩=some (.slice A0_0 l0_0.length c0_0):=(blk_cell BK281.out 0).trans rfl
             have hfz14_0:=blk_frozen BK281.out 0
             have p282:0≤(x5_2:Int):=of_decide_eq_true (by first|(with_reducible assumption)|assumption)
             have q282:x5_2<(l0_0.length:Int):=of_decide_eq_true (by first|(with_reducible assumption)|assumption)
             obtain ⟨ad282,A282_1,c282_1,e282,hx282_0,hx282_1,hl282_1,hi282_1⟩:=at_T39 HR0_0.out x5_2 p282 q282
             cases e282
             replace hx282_0:=(HB.out.cell (World.block_lt_of_cell? w _ hx282_0)).trans hx282_0
             replace hx282_1:=(HB.out.cell (World.block_lt_of_cell? w _ hx282_1)).trans hx282_1
             have HR282_1:=Aside0.mk hi282_1
             have HC282_1:=Aside0.mk hl282_1
             clear hi282_1 hl282_1
             replace p282:=eq_true p282
             replace q282:=eq_true q282
             have p283:0≤(x4_2:Int):=of_decide_eq_true (by first|(with_reducible assumption)|assumption)
             have q283:x4_2<(l0_0.length:Int):=of_decide_eq_true (by first|(with_reducible assumption)|assumption)
             obtain ⟨ad283,A283_1,c283_1,e283,hx283_0,hx283_1,hl283_1,hi283_1⟩:=at_T39 HR0_0.out x4_2 p283 q283
             obtain rfl:ad282=ad283:=(by injection e283)
             replace hx283_0:=(HB.out.cell (World.block_lt_of_cell? w _ hx283_0)).trans hx283_0
             replace hx283_1:=(HB.out.cell (World.block_lt_of_cell? w _ hx283_1)).trans hx283_1
             have HR283_1:=Aside0.mk hi283_1
             have HC283_1:=Aside0.mk hl283_1
             clear hi283_1 hl283_1
             replace p283:=eq_true p283
             replace q283:=eq_true q283
             go_wp2
             repeat (go_quiet (fail);try go_wp2)
             go_roundg k2
             case measure=>have:=HK1.out;have:=HK2.out;omega
             case rel=>exact ⟨(x5_2),(wrap64 (x5_2+1)),(by first|rfl|(simp;done)|(simp [*];done)),(by first|rfl|(simp;done)|(simp [*];done)),H',⟨by have:=HK1.out;have:=HK2.out;omega⟩,⟨by (with_reducible repeat (first|apply Kd.S_alloc|apply Kd.S_drewN|apply Kd.S_drew));exact HO_3.out⟩,⟨by (with_reducible repeat (first|refine blk_drewN ?_ _|refine blk_drew ?_|refine blk_alloc ?_ _));exact BK281.out⟩,⟨by repeat (first|(with_reducible first|exact HB.out|apply below_alloc|apply pw_below_drewN|apply below_drew1|refine below_set ?_ GE281.out)|exact HB.out)⟩⟩
            ·rw [if_neg c13] at H
             have c13b0:decide (((rd_T39 l0_0 x5_2).f0)<((rd_T39 l0_0 x4_2).f0))=false:=decide_eq_false c13
             clear c13
             have H':=Aside0.mk H
             clear H
             have hcz15_0:wr.cell? ⟨gb281,0,none⟩=some (.slice A0_0 l0_0.length c0_0):=(blk_cell BK281.out 0).trans rfl
             have hfz15_0:=blk_frozen BK281.out 0
             have p282:0≤(x5_2:Int):=of_decide_eq_true (by first|(with_reducible assumption)|assumption)
             have q282:x5_2<(l0_0.length:Int):=of_decide_eq_true (by first|(with_reducible assumption)|assumption)
             obtain ⟨ad282,A282_1,c282_1,e282,hx282_0,hx282_1,hl282_1,hi282_1⟩:=at_T39 HR0_0.out x5_2 p282 q282
             cases e282
             replace hx282_0:=(HB.out.cell (World.block_lt_of_cell? w _ hx282_0)).trans hx282_0
             replace hx282_1:=(HB.out.cell (World.block_lt_of_cell? w _ hx282_1)).trans hx282_1
             have HR282_1:=Aside0.mk hi282_1
             have HC282_1:=Aside0.mk hl282_1
             clear hi282_1 hl282_1
             replace p282:=eq_true p282
             replace q282:=eq_true q282
             have p283:0≤(x4_2:Int):=of_decide_eq_true (by first|(with_reducible assumption)|assumption)
             have q283:x4_2<(l0_0.length:Int):=of_decide_eq_true (by first|(with_reducible assumption)|assumption)
             obtain ⟨ad283,A283_1,c283_1,e283,hx283_0,hx283_1,hl283_1,hi283_1⟩:=at_T39 HR0_0.out x4_2 p283 q283
             obtain rfl:ad282=ad283:=(by injection e283)
             replace hx283_0:=(HB.out.cell (World.block_lt_of_cell? w _ hx283_0)).trans hx283_0
             replace hx283_1:=(HB.out.cell (World.block_lt_of_cell? w _ hx283_1)).trans hx283_1
             have HR283_1:=Aside0.mk hi283_1
             have HC283_1:=Aside0.mk hl283_1
             clear hi283_1 hl283_1
             replace p283:=eq_true p283
             replace q283:=eq_true q283
             go_wp2
             repeat (go_quiet (fail);try go_wp2)
             go_roundg k2
             case measure=>have:=HK1.out;have:=HK2.out;omega
             case rel=>exact ⟨(x4_2),(wrap64 (x5_2+1)),(by first|rfl|(simp;done)|(simp [*];done)),(by first|rfl|(simp;done)|(simp [*];done)),H',⟨by have:=HK1.out;have:=HK2.out;omega⟩,⟨by (with_reducible repeat (first|apply Kd.S_alloc|apply Kd.S_drewN|apply Kd.S_drew));exact HO_3.out⟩,⟨by (with_reducible repeat (first|refine blk_drewN ?_ _|refine blk_drew ?_|refine blk_alloc ?_ _));exact BK281.out⟩,⟨by repeat (first|(with_reducible first|exact HB.out|apply below_alloc|apply pw_below_drewN|apply below_drew1|refine below_set ?_ GE281.out)|exact HB.out)⟩⟩
           ·rw [if_neg c12] at H
            exact absurd H (by simp)
          ·rw [if_neg c11] at H
           exact absurd H (by simp)
         ·rw [if_neg c10] at H
          exact absurd H (by simp)
       ·rw [if_neg c7] at H
        have c7b0:((x3_1.length:Int) == 0)=false:=beq_eq_false_iff_ne.mpr c7
        have c7b1:((x3_1.length:Int) != 0)=true:=bne_iff_ne.mpr c7
        have c7b2:¬ (x3_1=[]):=fun h_=>c7 (by rw [h_];rfl)
        by_cases c16:0≤x5_2
        ·rw [if_pos c16] at H
         have c16b0:decide (0≤x5_2)=true:=decide_eq_true c16
         clear c16
         obtain ⟨ji17,hji17⟩:∃ j_:Int,(wrap64 ((x3_1.length:Int) - 1))=j_:=⟨_,rfl⟩
         replace H:(if 0≤(ji17) then (if (ji17)<(x3_1.length:Int) then (if ((rd_T39 l0_0 x5_2).f0) > ((rd_T39 x3_1 (ji17)).f0) then (if x4_2<0 then (spindleref20_Space_Regions.l1 k2 x3_1 x5_2 (wrap64 (x5_2+1)) l0_0) else (if 0≤x4_2 then (if x4_2<(l0_0.length:Int) then (if ((rd_T39 l0_0 x5_2).f0)<((rd_T39 l0_0 x4_2).f0) then (spindleref20_Space_Regions.l1 k2 x3_1 x5_2 (wrap64 (x5_2+1)) l0_0) else (spindleref20_Space_Regions.l1 k2 x3_1 x4_2 (wrap64 (x5_2+1)) l0_0)) else (none)) else (none))) else (spindleref20_Space_Regions.l1 k2 x3_1 x4_2 (wrap64 (x5_2+1)) l0_0)) else (none)) else (none))=some r:=by first|(rw [hji17] at H;exact H)|(simp only [hji17] at H ⊢;exact H)
         have hji17w:(IntKind.i64.wrap ((x3_1.length:Int) - 1))=ji17:=(i64_w _).trans hji17
         by_cases c18:0≤(ji17)
         ·rw [if_pos c18] at H
          have c18b0:decide (0≤(ji17))=true:=decide_eq_true c18
          clear c18
          by_cases c19:(ji17)<(x3_1.length:Int)
          ·rw [if_pos c19] at H
           have c19b0:decide ((ji17)<(x3_1.length:Int))=true:=decide_eq_true c19
           clear c19
           by_cases c20:((rd_T39 l0_0 x5_2).f0) > ((rd_T39 x3_1 (ji17)).f0)
           ·rw [if_pos c20] at H
            have c20b0:decide (((rd_T39 x3_1 (ji17)).f0)<((rd_T39 l0_0 x5_2).f0))=true:=decide_eq_true c20
            clear c20
            by_cases c21:x4_2<0
            ·rw [if_pos c21] at H
             have c21b0:decide (x4_2<0)=true:=decide_eq_true c21
             clear c21
             have H':=Aside0.mk H
             clear H
             have hcz22_0:wr.cell? ⟨gb281,0,none⟩=some (.slice A0_0 l0_0.length c0_0):=(blk_cell BK281.out 0).trans rfl
             have hfz22_0:=blk_frozen BK281.out 0
             have p284:0≤(x5_2:Int):=of_decide_eq_true (by first|(with_reducible assumption)|assumption)
             have q284:x5_2<(l0_0.length:Int):=of_decide_eq_true (by first|(with_reducible assumption)|assumption)
             obtain ⟨ad284,A284_1,c284_1,e284,hx284_0,hx284_1,hl284_1,hi284_1⟩:=at_T39 HR0_0.out x5_2 p284 q284
             cases e284
             replace hx284_0:=(HB.out.cell (World.block_lt_of_cell? w _ hx284_0)).trans hx284_0
             replace hx284_1:=(HB.out.cell (World.block_lt_of_cell? w _ hx284_1)).trans hx284_1
             have HR284_1:=Aside0.mk hi284_1
             have HC284_1:=Aside0.mk hl284_1
             clear hi284_1 hl284_1
             replace p284:=eq_true p284
             replace q284:=eq_true q284
             have p285:0≤((ji17):Int):=of_decide_eq_true (by first|(with_reducible assumption)|assumption)
             have q285:(ji17)<(x3_1.length:Int):=of_decide_eq_true (by first|(with_reducible assumption)|assumption)
             obtain ⟨ad285,A285_1,c285_1,e285,hx285_0,hx285_1,hl285_1,hi285_1⟩:=at_T39 (Kd.S_reads' HO_3.out).2.2 (ji17) p285 q285
             cases e285
             obtain ⟨ce285,hce285,hMe285,hcc285⟩:=Kd.S_get HO_3.out z39 (ji17) p285 (by first|exact q285|exact of_decide_eq_true (by first|(with_reducible assumption)|assumption)|(have e_:=(Kd.S_reads' HO_3.out).1;omega))
             obtain ⟨ve285_1,rfl,ge285_1⟩:=k39_openM hMe285
             have hv285_1:=hcc285 1 _ rfl
             rw [add_field _ _ 1 (by omega)] at hv285_1
             replace hv285_1:=Option.some.inj (hv285_1.symm.trans hx285_1)
             rw [hv285_1] at ge285_1
             have HL285_1:=Aside0.mk (show Kd.R (Kd.int .u8) 5 _ _ _ _ ((rd_T39 x3_1 (ji17)).f1) from ge285_1)
             clear hv285_1 ge285_1 hcc285 hce285
             have HR285_1:=Aside0.mk hi285_1
             have HC285_1:=Aside0.mk hl285_1
             clear hi285_1 hl285_1
             replace p285:=eq_true p285
             replace q285:=eq_true q285
             go_wp2
             repeat (go_quiet (fail);try go_wp2)
             go_roundg k2
             case measure=>have:=HK1.out;have:=HK2.out;omega
             case rel=>exact ⟨(x5_2),(wrap64 (x5_2+1)),(by first|rfl|(simp;done)|(simp [*];done)),(by first|rfl|(simp;done)|(simp [*];done)),H',⟨by have:=HK1.out;have:=HK2.out;omega⟩,⟨by (with_reducible repeat (first|apply Kd.S_alloc|apply Kd.S_drewN|apply Kd.S_drew));exact HO_3.out⟩,⟨by (with_reducible repeat (first|refine blk_drewN ?_ _|refine blk_drew ?_|refine blk_alloc ?_ _));exact BK281.out⟩,⟨by repeat (first|(with_reducible first|exact HB.out|apply below_alloc|apply pw_below_drewN|apply below_drew1|refine below_set ?_ GE281.out)|exact HB.out)⟩⟩
            ·rw [if_neg c21] at H
             have c21b0:decide (x4_2<0)=false:=decide_eq_false c21
             clear c21
             by_cases c23:0≤x4_2
             ·rw [if_pos c23] at H
              have c23b0:decide (0≤x4_2)=true:=decide_eq_true c23
              clear c23
              by_cases c24:x4_2<(l0_0.length:Int)
              ·rw [if_pos c24] at H
               have c24b0:decide (x4_2<(l0_0.length:Int))=true:=decide_eq_true c24
               clear c24
               by_cases c25:((rd_T39 l0_0 x5_2).f0)<((rd_T39 l0_0 x4_2).f0)
               ·rw [if_pos c25] at H
                have c25b0:decide (((rd_T39 l0_0 x5_2).f0)<((rd_T39 l0_0 x4_2).f0))=true:=decide_eq_true c25
                clear c25
                have H':=Aside0.mk H
                clear H
                have hcz26_0:wr.cell? ⟨gb281,0,none⟩=some (.slice A0_0 l0_0.length c0_0):=(blk_cell BK281.out 0).trans rfl
                have hfz26_0:=blk_frozen BK281.out 0
                have p284:0≤(x5_2:Int):=of_decide_eq_true (by first|(with_reducible assumption)|assumption)
                have q284:x5_2<(l0_0.length:Int):=of_decide_eq_true (by first|(with_reducible assumption)|assumption)
                obtain ⟨ad284,A284_1,c284_1,e284,hx284_0,hx284_1,hl284_1,hi284_1⟩:=at_T39 HR0_0.out x5_2 p284 q284
                cases e284
                replace hx284_0:=(HB.out.cell (World.block_lt_of_cell? w _ hx284_0)).trans hx284_0
                replace hx284_1:=(HB.out.cell (World.block_lt_of_cell? w _ hx284_1)).trans hx284_1
                have HR284_1:=Aside0.mk hi284_1
                have HC284_1:=Aside0.mk hl284_1
                clear hi284_1 hl284_1
                replace p284:=eq_true p284
                replace q284:=eq_true q284
                have p285:0≤((ji17):Int):=of_decide_eq_true (by first|(with_reducible assumption)|assumption)
                have q285:(ji17)<(x3_1.length:Int):=of_decide_eq_true (by first|(with_reducible assumption)|assumption)
                obtain ⟨ad285,A285_1,c285_1,e285,hx285_0,hx285_1,hl285_1,hi285_1⟩:=at_T39 (Kd.S_reads' HO_3.out).2.2 (ji17) p285 q285
                cases e285
                obtain ⟨ce285,hce285,hMe285,hcc285⟩:=Kd.S_get HO_3.out z39 (ji17) p285 (by first|exact q285|exact of_decide_eq_true (by first|(with_reducible assumption)|assumption)|(have e_:=(Kd.S_reads' HO_3.out).1;omega))
                obtain ⟨ve285_1,rfl,ge285_1⟩:=k39_openM hMe285
                have hv285_1:=hcc285 1 _ rfl
                rw [add_field _ _ 1 (by omega)] at hv285_1
                replace hv285_1:=Option.some.inj (hv285_1.symm.trans hx285_1)
                rw [hv285_1] at ge285_1
                have HL285_1:=Aside0.mk (show Kd.R (Kd.int .u8) 5 _ _ _ _ ((rd_T39 x3_1 (ji17)).f1) from ge285_1)
                clear hv285_1 ge285_1 hcc285 hce285
                have HR285_1:=Aside0.mk hi285_1
                have HC285_1:=Aside0.mk hl285_1
                clear hi285_1 hl285_1
                replace p285:=eq_true p285
                replace q285:=eq_true q285
                have p286:0≤(x5_2:Int):=of_decide_eq_true (by first|(with_reducible assumption)|assumption)
                have q286:x5_2<(l0_0.length:Int):=of_decide_eq_true (by first|(with_reducible assumption)|assumption)
                obtain ⟨ad286,A286_1,c286_1,e286,hx286_0,hx286_1,hl286_1,hi286_1⟩:=at_T39 HR0_0.out x5_2 p286 q286
                obtain rfl:ad284=ad286:=(by injection e286)
                replace hx286_0:=(HB.out.cell (World.block_lt_of_cell? w _ hx286_0)).trans hx286_0
                replace hx286_1:=(HB.out.cell (World.block_lt_of_cell? w _ hx286_1)).trans hx286_1
                have HR286_1:=Aside0.mk hi286_1
                have HC286_1:=Aside0.mk hl286_1
                clear hi286_1 hl286_1
                replace p286:=eq_true p286
                replace q286:=eq_true q286
                have ea_:=Option.some.inj (hx284_1.symm.trans hx286_1)
                injection ea_ with ea_ en_ ec_
                subst ea_
                subst ec_
                clear en_
                have p287:0≤(x4_2:Int):=of_decide_eq_true (by first|(with_reducible assumption)|assumption)
                have q287:x4_2<(l0_0.length:Int):=of_decide_eq_true (by first|(with_reducible assumption)|assumption)
                obtain ⟨ad287,A287_1,c287_1,e287,hx287_0,hx287_1,hl287_1,hi287_1⟩:=at_T39 HR0_0.out x4_2 p287 q287
                obtain rfl:ad284=ad287:=(by injection e287)
                replace hx287_0:=(HB.out.cell (World.block_lt_of_cell? w _ hx287_0)).trans hx287_0
                replace hx287_1:=(HB.out.cell (World.block_lt_of_cell? w _ hx287_1)).trans hx287_1
                have HR287_1:=Aside0.mk hi287_1
                have HC287_1:=Aside0.mk hl287_1
                clear hi287_1 hl287_1
                replace p287:=eq_true p287
                replace q287:=eq_true q287
                go_wp2
                repeat (go_quiet (fail);try go_wp2)
                go_roundg k2
                case measure=>have:=HK1.out;have:=HK2.out;omega
                case rel=>exact ⟨(x5_2),(wrap64 (x5_2+1)),(by first|rfl|(simp;done)|(simp [*];done)),(by first|rfl|(simp;done)|(simp [*];done)),H',⟨by have:=HK1.out;have:=HK2.out;omega⟩,⟨by (with_reducible repeat (first|apply Kd.S_alloc|apply Kd.S_drewN|apply Kd.S_drew));exact HO_3.out⟩,⟨by (with_reducible repeat (first|refine blk_drewN ?_ _|refine blk_drew ?_|refine blk_alloc ?_ _));exact BK281.out⟩,⟨by repeat (first|(with_reducible first|exact HB.out|apply below_alloc|apply pw_below_drewN|apply below_drew1|refine below_set ?_ GE281.out)|exact HB.out)⟩⟩
               ·rw [if_neg c25] at H
                have c25b0:decide (((rd_T39 l0_0 x5_2).f0)<((rd_T39 l0_0 x4_2).f0))=false:=decide_eq_false c25
                clear c25
                have H':=Aside0.mk H
                clear H
                have hcz27_0:wr.cell? ⟨gb281,0,none⟩=some (.slice A0_0 l0_0.length c0_0):=(blk_cell BK281.out 0).trans rfl
                have hfz27_0:=blk_frozen BK281.out 0
                have p284:0≤(x5_2:Int):=of_decide_eq_true (by first|(with_reducible assumption)|assumption)
                have q284:x5_2<(l0_0.length:Int):=of_decide_eq_true (by first|(with_reducible assumption)|assumption)
                obtain ⟨ad284,A284_1,c284_1,e284,hx284_0,hx284_1,hl284_1,hi284_1⟩:=at_T39 HR0_0.out x5_2 p284 q284
                cases e284
                replace hx284_0:=(HB.out.cell (World.block_lt_of_cell? w _ hx284_0)).trans hx284_0
                replace hx284_1:=(HB.out.cell (World.block_lt_of_cell? w _ hx284_1)).trans hx284_1
                have HR284_1:=Aside0.mk hi284_1
                have HC284_1:=Aside0.mk hl284_1
                clear hi284_1 hl284_1
                replace p284:=eq_true p284
                replace q284:=eq_true q284
                have p285:0≤((ji17):Int):=of_decide_eq_true (by first|(with_reducible assumption)|assumption)
                have q285:(ji17)<(x3_1.length:Int):=of_decide_eq_true (by first|(with_reducible assumption)|assumption)
                obtain ⟨ad285,A285_1,c285_1,e285,hx285_0,hx285_1,hl285_1,hi285_1⟩:=at_T39 (Kd.S_reads' HO_3.out).2.2 (ji17) p285 q285
                cases e285
                obtain ⟨ce285,hce285,hMe285,hcc285⟩:=Kd.S_get HO_3.out z39 (ji17) p285 (by first|exact q285|exact of_decide_eq_true (by first|(with_reducible assumption)|assumption)|(have e_:=(Kd.S_reads' HO_3.out).1;omega))
                obtain ⟨ve285_1,rfl,ge285_1⟩:=k39_openM hMe285
                have hv285_1:=hcc285 1 _ rfl
                rw [add_field _ _ 1 (by omega)] at hv285_1
                replace hv285_1:=Option.some.inj (hv285_1.symm.trans hx285_1)
                rw [hv285_1] at ge285_1
                have HL285_1:=Aside0.mk (show Kd.R (Kd.int .u8) 5 _ _ _ _ ((rd_T39 x3_1 (ji17)).f1) from ge285_1)
                clear hv285_1 ge285_1 hcc285 hce285
                have HR285_1:=Aside0.mk hi285_1
                have HC285_1:=Aside0.mk hl285_1
                clear hi285_1 hl285_1
                replace p285:=eq_true p285
                replace q285:=eq_true q285
                have p286:0≤(x5_2:Int):=of_decide_eq_true (by first|(with_reducible assumption)|assumption)
                have q286:x5_2<(l0_0.length:Int):=of_decide_eq_true (by first|(with_reducible assumption)|assumption)
                obtain ⟨ad286,A286_1,c286_1,e286,hx286_0,hx286_1,hl286_1,hi286_1⟩:=at_T39 HR0_0.out x5_2 p286 q286
                obtain rfl:ad284=ad286:=(by injection e286)
                replace hx286_0:=(HB.out.cell (World.block_lt_of_cell? w _ hx286_0)).trans hx286_0
                replace hx286_1:=(HB.out.cell (World.block_lt_of_cell? w _ hx286_1)).trans hx286_1
                have HR286_1:=Aside0.mk hi286_1
                have HC286_1:=Aside0.mk hl286_1
                clear hi286_1 hl286_1
                replace p286:=eq_true p286
                replace q286:=eq_true q286
                have ea_:=Option.some.inj (hx284_1.symm.trans hx286_1)
                injection ea_ with ea_ en_ ec_
                subst ea_
                subst ec_
                clear en_
                have p287:0≤(x4_2:Int):=of_decide_eq_true (by first|(with_reducible assumption)|assumption)
                have q287:x4_2<(l0_0.length:Int):=of_decide_eq_true (by first|(with_reducible assumption)|assumption)
                obtain ⟨ad287,A287_1,c287_1,e287,hx287_0,hx287_1,hl287_1,hi287_1⟩:=at_T39 HR0_0.out x4_2 p287 q287
                obtain rfl:ad284=ad287:=(by injection e287)
                replace hx287_0:=(HB.out.cell (World.block_lt_of_cell? w _ hx287_0)).trans hx287_0
                replace hx287_1:=(HB.out.cell (World.block_lt_of_cell? w _ hx287_1)).trans hx287_1
                have HR287_1:=Aside0.mk hi287_1
                have HC287_1:=Aside0.mk hl287_1
                clear hi287_1 hl287_1
                replace p287:=eq_true p287
                replace q287:=eq_true q287
                go_wp2
                repeat (go_quiet (fail);try go_wp2)
                go_roundg k2
                case measure=>have:=HK1.out;have:=HK2.out;omega
                case rel=>exact ⟨(x4_2),(wrap64 (x5_2+1)),(by first|rfl|(simp;done)|(simp [*];done)),(by first|rfl|(simp;done)|(simp [*];done)),H',⟨by have:=HK1.out;have:=HK2.out;omega⟩,⟨by (with_reducible repeat (first|apply Kd.S_alloc|apply Kd.S_drewN|apply Kd.S_drew));exact HO_3.out⟩,⟨by (with_reducible repeat (first|refine blk_drewN ?_ _|refine blk_drew ?_|refine blk_alloc ?_ _));exact BK281.out⟩,⟨by repeat (first|(with_reducible first|exact HB.out|apply below_alloc|apply pw_below_drewN|apply below_drew1|refine below_set ?_ GE281.out)|exact HB.out)⟩⟩
              ·rw [if_neg c24] at H
               exact absurd H (by simp)
             ·rw [if_neg c23] at H
              exact absurd H (by simp)
           ·rw [if_neg c20] at H
            have c20b0:decide (((rd_T39 x3_1 (ji17)).f0)<((rd_T39 l0_0 x5_2).f0))=false:=decide_eq_false c20
            clear c20
            have H':=Aside0.mk H
            clear H
            have hcz28_0:wr.cell? ⟨gb281,0,none⟩=some (.slice A0_0 l0_0.length c0_0):=(blk_cell BK281.out 0).trans rfl
            have hfz28_0:=blk_frozen BK281.out 0
            have p284:0≤(x5_2:Int):=of_decide_eq_true (by first|(with_reducible assumption)|assumption)
            have q284:x5_2<(l0_0.length:Int):=of_decide_eq_true (by first|(with_reducible assumption)|assumption)
            obtain ⟨ad284,A284_1,c284_1,e284,hx284_0,hx284_1,hl284_1,hi284_1⟩:=at_T39 HR0_0.out x5_2 p284 q284
            cases e284
            replace hx284_0:=(HB.out.cell (World.block_lt_of_cell? w _ hx284_0)).trans hx284_0
            replace hx284_1:=(HB.out.cell (World.block_lt_of_cell? w _ hx284_1)).trans hx284_1
            have HR284_1:=Aside0.mk hi284_1
            have HC284_1:=Aside0.mk hl284_1
            clear hi284_1 hl284_1
            replace p284:=eq_true p284
            replace q284:=eq_true q284
            have p285:0≤((ji17):Int):=of_decide_eq_true (by first|(with_reducible assumption)|assumption)
            have q285:(ji17)<(x3_1.length:Int):=of_decide_eq_true (by first|(with_reducible assumption)|assumption)
            obtain ⟨ad285,A285_1,c285_1,e285,hx285_0,hx285_1,hl285_1,hi285_1⟩:=at_T39 (Kd.S_reads' HO_3.out).2.2 (ji17) p285 q285
            cases e285
            obtain ⟨ce285,hce285,hMe285,hcc285⟩:=Kd.S_get HO_3.out z39 (ji17) p285 (by first|exact q285|exact of_decide_eq_true (by first|(with_reducible assumption)|assumption)|(have e_:=(Kd.S_reads' HO_3.out).1;omega))
            obtain ⟨ve285_1,rfl,ge285_1⟩:=k39_openM hMe285
            have hv285_1:=hcc285 1 _ rfl
            rw [add_field _ _ 1 (by omega)] at hv285_1
            replace hv285_1:=Option.some.inj (hv285_1.symm.trans hx285_1)
            rw [hv285_1] at ge285_1
            have HL285_1:=Aside0.mk (show Kd.R (Kd.int .u8) 5 _ _ _ _ ((rd_T39 x3_1 (ji17)).f1) from ge285_1)
            clear hv285_1 ge285_1 hcc285 hce285
            have HR285_1:=Aside0.mk hi285_1
            have HC285_1:=Aside0.mk hl285_1
            clear hi285_1 hl285_1
            replace p285:=eq_true p285
            replace q285:=eq_true q285
            go_wp2
            repeat (go_quiet (fail);try go_wp2)
            go_roundg k2
            case measure=>have:=HK1.out;have:=HK2.out;omega
            case rel=>exact ⟨(x4_2),(wrap64 (x5_2+1)),(by first|rfl|(simp;done)|(simp [*];done)),(by first|rfl|(simp;done)|(simp [*];done)),H',⟨by have:=HK1.out;have:=HK2.out;omega⟩,⟨by (with_reducible repeat (first|apply Kd.S_alloc|apply Kd.S_drewN|apply Kd.S_drew));exact HO_3.out⟩,⟨by (with_reducible repeat (first|refine blk_drewN ?_ _|refine blk_drew ?_|refine blk_alloc ?_ _));exact BK281.out⟩,⟨by repeat (first|(with_reducible first|exact HB.out|apply below_alloc|apply pw_below_drewN|apply below_drew1|refine below_set ?_ GE281.out)|exact HB.out)⟩⟩
          ·rw [if_neg c19] at H
           exact absurd H (by simp)
         ·rw [if_neg c18] at H
          exact absurd H (by simp)
        ·rw [if_neg c16] at H
         exact absurd H (by simp)
      ·rw [if_neg c6] at H
       have c6b0:decide (x5_2<(l0_0.length:Int))=false:=decide_eq_false c6
       clear c6
       by_cases c29:0≤x4_2
       ·rw [if_pos c29] at H
        have c29b0:decide (0≤x4_2)=true:=decide_eq_true c29
        clear c29
        by_cases c30:x4_2<(l0_0.length:Int)
        ·rw [if_pos c30] at H
         have c30b0:decide (x4_2<(l0_0.length:Int))=true:=decide_eq_true c30
         clear c30
         replace H:=Option.bind_eq_some_iff.mp H
         obtain ⟨⟨t289,t290⟩,A310,H⟩:=H
         replace H:(if x3_1.length<4398046511104 then (spindleref20_Space_Regions.l0 k2 (x3_1 ++ [(⟨t289,t290⟩:S39)]) l0_0) else (none))=some r:=H
         have A31:=Aside0.mk A310
         clear A310
         by_cases c32:x3_1.length<4398046511104
         ·rw [if_pos c32] at H
          have LMc32:=Aside0.mk c32
          clear c32
          obtain ⟨y293,hy293⟩:∃ y_:List (S39),y_=(x3_1 ++ [(⟨t289,t290⟩:S39)]):=⟨_,rfl⟩
          replace H:(spindleref20_Space_Regions.l0 k2 y293 l0_0)=some r:=by first|(rw [hy293];with_reducible exact H)|(have H2_:=(Option.bind_some _ _).symm.trans H;rw [hy293];with_reducible exact H2_)|(have H2_:=(Option.bind_some _ _).symm.trans H;with_reducible exact H2_)|with_reducible exact H|(rw [hy293];exact H)|exact H
          have Ny293:=Aside0.mk hy293
          clear hy293
          have H':=Aside0.mk H
          clear H
          have hcz33_0:wr.cell? ⟨gb281,0,none⟩=some (.slice A0_0 l0_0.length c0_0):=(blk_cell BK281.out 0).trans rfl
          have hfz33_0:=blk_frozen BK281.out 0
          have p288:0≤(x4_2:Int):=of_decide_eq_true (by first|(with_reducible assumption)|assumption)
          have q288:x4_2<(l0_0.length:Int):=of_decide_eq_true (by first|(with_reducible assumption)|assumption)
          obtain ⟨ad288,A288_1,c288_1,e288,hx288_0,hx288_1,hl288_1,hi288_1⟩:=at_T39 HR0_0.out x4_2 p288 q288
          cases e288
          replace hx288_0:=(HB.out.cell (World.block_lt_of_cell? w _ hx288_0)).trans hx288_0
          replace hx288_1:=(HB.out.cell (World.block_lt_of_cell? w _ hx288_1)).trans hx288_1
          have HR288_1:=Aside0.mk hi288_1
          have HC288_1:=Aside0.mk hl288_1
          clear hi288_1 hl288_1
          replace p288:=eq_true p288
          replace q288:=eq_true q288
          go_wp2_with (first|(go_at_call 72;(with_reducible refine (spindleref20_copied.calls ((rd_T39 l0_0 x4_2).f0) _ _ ((rd_T39 l0_0 x4_2).f1) t289 t290 _ ?side1 ?side2 A31.out).mono ?_);(case side1=>repeat (first|exact (Kd.C_below HR288_1.out HB.out)|(with_reducible refine Kd.C_alloc ?_ _)|(with_reducible refine Kd.C_drewN ?_ _)|(with_reducible refine Kd.C_drew ?_)));(case side2=>exact HC288_1.out);rintro e w34 ⟨v291,rfl,ho0,hb⟩;have n0_:=Aside0.mk (Kd.S_elder' (by (with_reducible repeat (first|apply Kd.S_alloc|apply Kd.S_drewN|apply Kd.S_drew));exact HO_3.out) (Kd.R_base ho0) hb);have n1_:=Aside0.mk (Kd.R_lower ho0 (below_size (by repeat (first|(with_reducible first|exact HB.out|apply below_alloc|apply pw_below_drewN|apply below_drew1|refine below_set ?_ GE281.out)|exact HB.out))));have n2_:=Aside0.mk (blk_below (g:=gb281) (o:=.cells #[.slice (some ad288) l0_0.length c0_0] 78 (0,0)) (by (with_reducible repeat (first|refine blk_drewN ?_ _|refine blk_drew ?_|refine blk_alloc ?_ _));exact BK281.out) hb);have n3_:=Aside0.mk (below_step (by repeat (first|(with_reducible first|exact HB.out|apply below_alloc|apply pw_below_drewN|apply below_drew1|refine below_set ?_ GE281.out)|exact HB.out)) hb);clear HO_3;clear BK281;clear HB;have HO_3:=n0_;have HO292:=n1_;have BK281:=n2_;have HB:=n3_;clear n0_ n1_ n2_ n3_;(try clear hb);(try clear hb2);(try clear hk);(try clear hi);(try clear ho0);obtain ⟨Ao36,co36,eo36⟩:=Kd.R_slice HO292.out;subst eo36)|((with_reducible refine gate_builtin (b:=.append) (xs:=#[.tmp 60,.tmp 67]) rfl ?_);(try (refine gate_guard (by rfl) ?_;dsimp only));at_builtin;refine Kd.S_append k39 (w0:=w) w.heap.size rfl (.tmp 60) (.tmp 67) 22 39 (.agg #[(.int .u64 0),(.slice none 0 0)]) 32 rfl Try.underlying22 info39 rfl (by decide) (by omega) (.slice Ao4 x3_1.length co4) x3_1 (⟨t289,t290⟩:S39) [.int .u64 t289,.slice Ao36 t290.length co36] (fun _=>True) (fun k_=>some k_=(.slice Ao36 t290.length co36:Value).ownBlock) rfl rfl ?aP (fun k_ hk_=>((Kd.R_mono (ok':=fun k_=>((fun _=>True)) k_∧some k_≠(.slice Ao4 x3_1.length co4:Value).ownBlock) (Kd.R_apart' (HO292.out) (Kd.S_typed HO_3.out) (by decide)) (fun k_ hk=>⟨trivial,hk.2⟩))).1 k_ hk_.symm) ?aF ?aO ?aB ?aS ?aL ?_;(case aP=>exact k39_mkM _ _ _ (⟨t289,t290⟩:S39) (Kd.R_mono (Kd.R_tight rfl (Kd.R_mono (ok':=fun k_=>((fun _=>True)) k_∧some k_≠(.slice Ao4 x3_1.length co4:Value).ownBlock) (Kd.R_apart' (HO292.out) (Kd.S_typed HO_3.out) (by decide)) (fun k_ hk=>⟨trivial,hk.2⟩))) (fun _ h_=>h_)));(case aB=>exact (by repeat (first|(with_reducible first|exact HB.out|apply below_alloc|apply pw_below_drewN|apply below_drew1|refine below_set ?_ GE281.out)|exact HB.out)));(case aF=>exact (fun _ _=>trivial));(case aO=>exact (by (with_reducible repeat (first|apply Kd.S_alloc|apply Kd.S_drewN|apply Kd.S_drew));exact Kd.S_mono HO_3.out (fun k_ hk=>⟨trivial,fun e_=>hk.2 e_⟩)));(case aS=>exact (below_size (by repeat (first|(with_reducible first|exact HB.out|apply below_alloc|apply pw_below_drewN|apply below_drew1|refine below_set ?_ GE281.out)|exact HB.out))));(case aL=>have:=LMc32.out;omega);intro v294 w35 ho hb hg hat;rw [← Ny293.out] at ho;have n0_:=Aside0.mk (blk_grown (g:=gb281) (o:=.cells #[.slice (some ad288) l0_0.length c0_0] 78 (0,0)) (by (with_reducible repeat (first|refine blk_drewN ?_ _|refine blk_drew ?_|refine blk_alloc ?_ _));exact BK281.out) hg (Kd.S_ne HO_3.out BK281.out (by decide)));have n1_:=Aside0.mk (hb);have n2_:=Aside0.mk (ho);clear BK281;clear HB;clear HO_3;clear HO292;have BK281:=n0_;have HB:=n1_;have HO295:=n2_;clear n0_ n1_ n2_;clear ho hb hg hat))
          repeat (go_quiet (first|(go_at_call 72;(with_reducible refine (spindleref20_copied.calls ((rd_T39 l0_0 x4_2).f0) _ _ ((rd_T39 l0_0 x4_2).f1) t289 t290 _ ?side1 ?side2 A31.out).mono ?_);(case side1=>repeat (first|exact (Kd.C_below HR288_1.out HB.out)|(with_reducible refine Kd.C_alloc ?_ _)|(with_reducible refine Kd.C_drewN ?_ _)|(with_reducible refine Kd.C_drew ?_)));(case side2=>exact HC288_1.out);rintro e w34 ⟨v291,rfl,ho0,hb⟩;have n0_:=Aside0.mk (Kd.S_elder' (by (with_reducible repeat (first|apply Kd.S_alloc|apply Kd.S_drewN|apply Kd.S_drew));exact HO_3.out) (Kd.R_base ho0) hb);have n1_:=Aside0.mk (Kd.R_lower ho0 (below_size (by repeat (first|(with_reducible first|exact HB.out|apply below_alloc|apply pw_below_drewN|apply below_drew1|refine below_set ?_ GE281.out)|exact HB.out))));have n2_:=Aside0.mk (blk_below (g:=gb281) (o:=.cells #[.slice (some ad288) l0_0.length c0_0] 78 (0,0)) (by (with_reducible repeat (first|refine blk_drewN ?_ _|refine blk_drew ?_|refine blk_alloc ?_ _));exact BK281.out) hb);have n3_:=Aside0.mk (below_step (by repeat (first|(with_reducible first|exact HB.out|apply below_alloc|apply pw_below_drewN|apply below_drew1|refine below_set ?_ GE281.out)|exact HB.out)) hb);clear HO_3;clear BK281;clear HB;have HO_3:=n0_;have HO292:=n1_;have BK281:=n2_;have HB:=n3_;clear n0_ n1_ n2_ n3_;(try clear hb);(try clear hb2);(try clear hk);(try clear hi);(try clear ho0);obtain ⟨Ao36,co36,eo36⟩:=Kd.R_slice HO292.out;subst eo36)|((with_reducible refine gate_builtin (b:=.append) (xs:=#[.tmp 60,.tmp 67]) rfl ?_);(try (refine gate_guard (by rfl) ?_;dsimp only));at_builtin;refine Kd.S_append k39 (w0:=w) w.heap.size rfl (.tmp 60) (.tmp 67) 22 39 (.agg #[(.int .u64 0),(.slice none 0 0)]) 32 rfl Try.underlying22 info39 rfl (by decide) (by omega) (.slice Ao4 x3_1.length co4) x3_1 (⟨t289,t290⟩:S39) [.int .u64 t289,.slice Ao36 t290.length co36] (fun _=>True) (fun k_=>some k_=(.slice Ao36 t290.length co36:Value).ownBlock) rfl rfl ?aP (fun k_ hk_=>((Kd.R_mono (ok':=fun k_=>((fun _=>True)) k_∧some k_≠(.slice Ao4 x3_1.length co4:Value).ownBlock) (Kd.R_apart' (HO292.out) (Kd.S_typed HO_3.out) (by decide)) (fun k_ hk=>⟨trivial,hk.2⟩))).1 k_ hk_.symm) ?aF ?aO ?aB ?aS ?aL ?_;(case aP=>exact k39_mkM _ _ _ (⟨t289,t290⟩:S39) (Kd.R_mono (Kd.R_tight rfl (Kd.R_mono (ok':=fun k_=>((fun _=>True)) k_∧some k_≠(.slice Ao4 x3_1.length co4:Value).ownBlock) (Kd.R_apart' (HO292.out) (Kd.S_typed HO_3.out) (by decide)) (fun k_ hk=>⟨trivial,hk.2⟩))) (fun _ h_=>h_)));(case aB=>exact (by repeat (first|(with_reducible first|exact HB.out|apply below_alloc|apply pw_below_drewN|apply below_drew1|refine below_set ?_ GE281.out)|exact HB.out)));(case aF=>exact (fun _ _=>trivial));(case aO=>exact (by (with_reducible repeat (first|apply Kd.S_alloc|apply Kd.S_drewN|apply Kd.S_drew));exact Kd.S_mono HO_3.out (fun k_ hk=>⟨trivial,fun e_=>hk.2 e_⟩)));(case aS=>exact (below_size (by repeat (first|(with_reducible first|exact HB.out|apply below_alloc|apply pw_below_drewN|apply below_drew1|refine below_set ?_ GE281.out)|exact HB.out))));(case aL=>have:=LMc32.out;omega);intro v294 w35 ho hb hg hat;rw [← Ny293.out] at ho;have n0_:=Aside0.mk (blk_grown (g:=gb281) (o:=.cells #[.slice (some ad288) l0_0.length c0_0] 78 (0,0)) (by (with_reducible repeat (first|refine blk_drewN ?_ _|refine blk_drew ?_|refine blk_alloc ?_ _));exact BK281.out) hg (Kd.S_ne HO_3.out BK281.out (by decide)));have n1_:=Aside0.mk (hb);have n2_:=Aside0.mk (ho);clear BK281;clear HB;clear HO_3;clear HO292;have BK281:=n0_;have HB:=n1_;have HO295:=n2_;clear n0_ n1_ n2_;clear ho hb hg hat));try go_wp2_with (first|(go_at_call 72;(with_reducible refine (spindleref20_copied.calls ((rd_T39 l0_0 x4_2).f0) _ _ ((rd_T39 l0_0 x4_2).f1) t289 t290 _ ?side1 ?side2 A31.out).mono ?_);(case side1=>repeat (first|exact (Kd.C_below HR288_1.out HB.out)|(with_reducible refine Kd.C_alloc ?_ _)|(with_reducible refine Kd.C_drewN ?_ _)|(with_reducible refine Kd.C_drew ?_)));(case side2=>exact HC288_1.out);rintro e w34 ⟨v291,rfl,ho0,hb⟩;have n0_:=Aside0.mk (Kd.S_elder' (by (with_reducible repeat (first|apply Kd.S_alloc|apply Kd.S_drewN|apply Kd.S_drew));exact HO_3.out) (Kd.R_base ho0) hb);have n1_:=Aside0.mk (Kd.R_lower ho0 (below_size (by repeat (first|(with_reducible first|exact HB.out|apply below_alloc|apply pw_below_drewN|apply below_drew1|refine below_set ?_ GE281.out)|exact HB.out))));have n2_:=Aside0.mk (blk_below (g:=gb281) (o:=.cells #[.slice (some ad288) l0_0.length c0_0] 78 (0,0)) (by (with_reducible repeat (first|refine blk_drewN ?_ _|refine blk_drew ?_|refine blk_alloc ?_ _));exact BK281.out) hb);have n3_:=Aside0.mk (below_step (by repeat (first|(with_reducible first|exact HB.out|apply below_alloc|apply pw_below_drewN|apply below_drew1|refine below_set ?_ GE281.out)|exact HB.out)) hb);clear HO_3;clear BK281;clear HB;have HO_3:=n0_;have HO292:=n1_;have BK281:=n2_;have HB:=n3_;clear n0_ n1_ n2_ n3_;(try clear hb);(try clear hb2);(try clear hk);(try clear hi);(try clear ho0);obtain ⟨Ao36,co36,eo36⟩:=Kd.R_slice HO292.out;subst eo36)|((with_reducible refine gate_builtin (b:=.append) (xs:=#[.tmp 60,.tmp 67]) rfl ?_);(try (refine gate_guard (by rfl) ?_;dsimp only));at_builtin;refine Kd.S_append k39 (w0:=w) w.heap.size rfl (.tmp 60) (.tmp 67) 22 39 (.agg #[(.int .u64 0),(.slice none 0 0)]) 32 rfl Try.underlying22 info39 rfl (by decide) (by omega) (.slice Ao4 x3_1.length co4) x3_1 (⟨t289,t290⟩:S39) [.int .u64 t289,.slice Ao36 t290.length co36] (fun _=>True) (fun k_=>some k_=(.slice Ao36 t290.length co36:Value).ownBlock) rfl rfl ?aP (fun k_ hk_=>((Kd.R_mono (ok':=fun k_=>((fun _=>True)) k_∧some k_≠(.slice Ao4 x3_1.length co4:Value).ownBlock) (Kd.R_apart' (HO292.out) (Kd.S_typed HO_3.out) (by decide)) (fun k_ hk=>⟨trivial,hk.2⟩))).1 k_ hk_.symm) ?aF ?aO ?aB ?aS ?aL ?_;(case aP=>exact k39_mkM _ _ _ (⟨t289,t290⟩:S39) (Kd.R_mono (Kd.R_tight rfl (Kd.R_mono (ok':=fun k_=>((fun _=>True)) k_∧some k_≠(.slice Ao4 x3_1.length co4:Value).ownBlock) (Kd.R_apart' (HO292.out) (Kd.S_typed HO_3.out) (by decide)) (fun k_ hk=>⟨trivial,hk.2⟩))) (fun _ h_=>h_)));(case aB=>exact (by repeat (first|(with_reducible first|exact HB.out|apply below_alloc|apply pw_below_drewN|apply below_drew1|refine below_set ?_ GE281.out)|exact HB.out)));(case aF=>exact (fun _ _=>trivial));(case aO=>exact (by (with_reducible repeat (first|apply Kd.S_alloc|apply Kd.S_drewN|apply Kd.S_drew));exact Kd.S_mono HO_3.out (fun k_ hk=>⟨trivial,fun e_=>hk.2 e_⟩)));(case aS=>exact (below_size (by repeat (first|(with_reducible first|exact HB.out|apply below_alloc|apply pw_below_drewN|apply below_drew1|refine below_set ?_ GE281.out)|exact HB.out))));(case aL=>have:=LMc32.out;omega);intro v294 w35 ho hb hg hat;rw [← Ny293.out] at ho;have n0_:=Aside0.mk (blk_grown (g:=gb281) (o:=.cells #[.slice (some ad288) l0_0.length c0_0] 78 (0,0)) (by (with_reducible repeat (first|refine blk_drewN ?_ _|refine blk_drew ?_|refine blk_alloc ?_ _));exact BK281.out) hg (Kd.S_ne HO_3.out BK281.out (by decide)));have n1_:=Aside0.mk (hb);have n2_:=Aside0.mk (ho);clear BK281;clear HB;clear HO_3;clear HO292;have BK281:=n0_;have HB:=n1_;have HO295:=n2_;clear n0_ n1_ n2_;clear ho hb hg hat)))
          go_roundg k2
          case measure=>have:=HK1.out;have:=HK2.out;omega
          case rel=>exact ⟨(y293),H',⟨by have:=HK1.out;have:=HK2.out;omega⟩,⟨by (with_reducible repeat (first|apply Kd.S_alloc|apply Kd.S_drewN|apply Kd.S_drew));exact HO295.out⟩,⟨by (with_reducible repeat (first|refine blk_drewN ?_ _|refine blk_drew ?_|refine blk_alloc ?_ _));exact BK281.out⟩,⟨by repeat (first|(with_reducible first|exact HB.out|apply below_alloc|apply pw_below_drewN|apply below_drew1|refine below_set ?_ GE281.out)|exact HB.out)⟩⟩
         ·rw [if_neg c32] at H
          exact absurd H (by simp)
        ·rw [if_neg c30] at H
         exact absurd H (by simp)
       ·rw [if_neg c29] at H
        exact absurd H (by simp)
   ·rw [if_neg c3] at H
    have c3b0:decide ((x3_1.length:Int)<(l0_0.length:Int))=false:=decide_eq_false c3
    have c3b1:decide (x3_1.length<l0_0.length)=false:=decide_eq_false (fun h=>c3 (Int.ofNat_lt.mpr h))
    clear c3
    obtain rfl:=Option.some.inj H
    obtain ⟨Ao37,co37,eo37⟩:=Kd.S_slice HO_3.out
    subst eo37
    have hcz38_0:wr.cell? ⟨gb281,0,none⟩=some (.slice A0_0 l0_0.length c0_0):=(blk_cell BK281.out 0).trans rfl
    have hfz38_0:=blk_frozen BK281.out 0
    go_wp2
    repeat (go_quiet (fail);try go_wp2)
    go_ret
    exact ⟨_,by first|rfl|(simp [errW_none,errW_some] <;> rfl)|(simp [*,errW_none,errW_some] <;> rfl),by (with_reducible repeat (first|apply Kd.S_alloc|apply Kd.S_drewN|apply Kd.S_drew));exact HO_3.out,by repeat (first|(with_reducible first|exact HB.out|apply below_alloc|apply pw_below_drewN|apply below_drew1|refine below_set ?_ GE281.out)|exact HB.out)⟩
end Go.Proofs.Ythmeojeehemlaaa.PM
end
section
namespace Go.Proofs.Ythmeojeehemlaaa.PM
open Go.RowKit Go.Proofs.YthmeojeehemlaaaW.PrintWords Go.Proofs.YthmeojeehemlaaaW.PrintLast Go.Proofs.YthmeojeehemlaaaW.PrintMore
attribute [local go_sem] isSome_setCell max2_int min2_int max_two min_two max_three min_three max_four min_four
def spindlelaw20_SameRegions.l0:Nat→List (S39)→List (S39)→Int→Option (Bool)
 | 0,_,_,_=>none
 | k+1,x0,x1,x5=>if x5<(x0.length:Int) then (if 0≤x5 then (if x5<(x1.length:Int) then (if ((rd_T39 x0 x5).f0)=((rd_T39 x1 x5).f0) then ((spindlelaw0_SameBytes.f ((rd_T39 x0 x5).f1) ((rd_T39 x1 x5).f1)).bind fun t300=>(if t300=true then (spindlelaw20_SameRegions.l0 k x0 x1 (wrap64 (x5+1))) else (some false))) else (some false)) else (none)) else (none)) else (some true)
def spindlelaw20_SameRegions.f (k:Nat) (l0:List (S39)) (l1:List (S39)):Option (Bool):=if (l0.length:Int)=(l1.length:Int) then (spindlelaw20_SameRegions.l0 k l0 l1 0) else (some false)
theorem spindlelaw20_SameRegions.calls (k:Nat) (A0:Option Addr) (c0:Nat) (l0:List (S39)) (A1:Option Addr) (c1:Nat) (l1:List (S39)) (r:Bool) (w:World) (hr0:Kd.C k39 w A0 l0.length l0) (hc0:l0.length≤c0) (hr1:Kd.C k39 w A1 l1.length l1) (hc1:l1.length≤c1) (h:spindlelaw20_SameRegions.f k l0 l1=some r) :
  Calls Try.prog 52 #[.slice A0 l0.length c0,.slice A1 l1.length c1] w fun e w'=>e=.returned (.bool r)∧Drawn0 w w':=by
 have HR0:=Aside0.mk hr0
 have HC0:=Aside0.mk hc0
 clear hr0 hc0
 have HR1:=Aside0.mk hr1
 have HC1:=Aside0.mk hc1
 clear hr1 hc1
 have H:(if (l0.length:Int)=(l1.length:Int) then (spindlelaw20_SameRegions.l0 k l0 l1 0) else (some false))=some r:=h
 clear h
 by_cases c3:(l0.length:Int)=(l1.length:Int)
 ·rw [if_pos c3] at H
  have c3b0:((l0.length:Int) == (l1.length:Int))=true:=beq_iff_eq.mpr c3
  have c3b1:((l0.length:Int) != (l1.length:Int))=false:=bne_eq_false_iff_eq.mpr c3
  have c3b2:(l0.length == l1.length)=true:=by first|simpa using c3|(simp at c3 ⊢;omega)
  clear c3
  have H':=Aside0.mk H
  clear H
  go_enter Try.func52,Try.ntmps52
  go_wp2
  repeat (go_quiet (fail);try go_wp2)
  go_loopg [5] k (fun kq v5 w'=>∃ (x5_1:Int),v5=.int .i64 x5_1∧Aside0 (spindlelaw20_SameRegions.l0 kq l0 l1 x5_1=some r)∧Aside0 (kq≤k)∧Drawn0 w w')
  case atStart=>exact ⟨(0),(by first|rfl|(simp;done)|(simp [*];done)),H',⟨Nat.le_refl _⟩,by repeat (first|exact Drawn0.refl _|apply Drawn0.step)⟩
  case round =>
   clear H'
   try clear c1
   try clear p2
   try clear c3
   try clear c3b0
   try clear c3b1
   try clear c3b2
   obtain ⟨x5_1,rfl,HA,HK1,⟨m1,rfl⟩⟩:=hrel
   cases gk with
   | zero=>exact absurd HA.out (by simp [spindlelaw20_SameRegions.l0])
   | succ k1 =>
    have H:=HA.out
    clear HA
    simp only [spindlelaw20_SameRegions.l0] at H
    by_cases c4:x5_1<(l0.length:Int)
    ·rw [if_pos c4] at H
     have c4b0:decide (x5_1<(l0.length:Int))=true:=decide_eq_true c4
     clear c4
     by_cases c5:0≤x5_1
     ·rw [if_pos c5] at H
      have c5b0:decide (0≤x5_1)=true:=decide_eq_true c5
      clear c5
      by_cases c6:x5_1<(l1.length:Int)
      ·rw [if_pos c6] at H
       have c6b0:decide (x5_1<(l1.length:Int))=true:=decide_eq_true c6
       clear c6
       by_cases c7:((rd_T39 l0 x5_1).f0)=((rd_T39 l1 x5_1).f0)
       ·rw [if_pos c7] at H
        have c7b0:(((rd_T39 l0 x5_1).f0) == ((rd_T39 l1 x5_1).f0))=true:=beq_iff_eq.mpr c7
        have c7b1:(((rd_T39 l0 x5_1).f0) != ((rd_T39 l1 x5_1).f0))=false:=bne_eq_false_iff_eq.mpr c7
        clear c7
        replace H:=Option.bind_eq_some_iff.mp H
        obtain ⟨t300,A80,H⟩:=H
        replace H:(if t300=true then (spindlelaw20_SameRegions.l0 k1 l0 l1 (wrap64 (x5_1+1))) else (some false))=some r:=H
        have A8:=Aside0.mk A80
        clear A80
        by_cases c9:t300=true
        ·subst c9
         have H1:(spindlelaw20_SameRegions.l0 k1 l0 l1 (wrap64 (x5_1+1)))=some r:=by rw [if_pos rfl] at H;exact H
         clear H
         have H:=H1
         clear H1
         have H':=Aside0.mk H
         clear H
         have p296:0≤(x5_1:Int):=of_decide_eq_true (by first|(with_reducible assumption)|assumption)
         have q296:x5_1<(l0.length:Int):=of_decide_eq_true (by first|(with_reducible assumption)|assumption)
         obtain ⟨ad296,A296_1,c296_1,e296,hx296_0,hx296_1,hl296_1,hi296_1⟩:=at_T39 HR0.out x5_1 p296 q296
         cases e296
         have HR296_1:=Aside0.mk hi296_1
         have HC296_1:=Aside0.mk hl296_1
         clear hi296_1 hl296_1
         replace p296:=eq_true p296
         replace q296:=eq_true q296
         have p297:0≤(x5_1:Int):=of_decide_eq_true (by first|(with_reducible assumption)|assumption)
         have q297:x5_1<(l1.length:Int):=of_decide_eq_true (by first|(with_reducible assumption)|assumption)
         obtain ⟨ad297,A297_1,c297_1,e297,hx297_0,hx297_1,hl297_1,hi297_1⟩:=at_T39 HR1.out x5_1 p297 q297
         cases e297
         have HR297_1:=Aside0.mk hi297_1
         have HC297_1:=Aside0.mk hl297_1
         clear hi297_1 hl297_1
         replace p297:=eq_true p297
         replace q297:=eq_true q297
         have p298:0≤(x5_1:Int):=of_decide_eq_true (by first|(with_reducible assumption)|assumption)
         have q298:x5_1<(l0.length:Int):=of_decide_eq_true (by first|(with_reducible assumption)|assumption)
         obtain ⟨ad298,A298_1,c298_1,e298,hx298_0,hx298_1,hl298_1,hi298_1⟩:=at_T39 HR0.out x5_1 p298 q298
         obtain rfl:ad296=ad298:=(by injection e298)
         have HR298_1:=Aside0.mk hi298_1
         have HC298_1:=Aside0.mk hl298_1
         clear hi298_1 hl298_1
         replace p298:=eq_true p298
         replace q298:=eq_true q298
         have ea_:=Option.some.inj (hx296_1.symm.trans hx298_1)
         injection ea_ with ea_ en_ ec_
         subst ea_
         subst ec_
         clear en_
         have p299:0≤(x5_1:Int):=of_decide_eq_true (by first|(with_reducible assumption)|assumption)
         have q299:x5_1<(l1.length:Int):=of_decide_eq_true (by first|(with_reducible assumption)|assumption)
         obtain ⟨ad299,A299_1,c299_1,e299,hx299_0,hx299_1,hl299_1,hi299_1⟩:=at_T39 HR1.out x5_1 p299 q299
         obtain rfl:ad297=ad299:=(by injection e299)
         have HR299_1:=Aside0.mk hi299_1
         have HC299_1:=Aside0.mk hl299_1
         clear hi299_1 hl299_1
         replace p299:=eq_true p299
         replace q299:=eq_true q299
         have ea_:=Option.some.inj (hx297_1.symm.trans hx299_1)
         injection ea_ with ea_ en_ ec_
         subst ea_
         subst ec_
         clear en_
         go_wp2_with (first|(go_at_call 48;(with_reducible refine (spindlelaw0_SameBytes.calls _ _ ((rd_T39 l0 x5_1).f1) _ _ ((rd_T39 l1 x5_1).f1) true _ ?side1 ?side2 ?side3 ?side4 A8.out).mono ?_);(case side1=>repeat (first|exact HR298_1.out|(with_reducible refine Kd.C_alloc ?_ _)|(with_reducible refine Kd.C_drewN ?_ _)|(with_reducible refine Kd.C_drew ?_)));(case side2=>exact HC298_1.out);(case side3=>repeat (first|exact HR299_1.out|(with_reducible refine Kd.C_alloc ?_ _)|(with_reducible refine Kd.C_drewN ?_ _)|(with_reducible refine Kd.C_drew ?_)));(case side4=>exact HC299_1.out);rintro e w' ⟨rfl,⟨nd,rfl⟩⟩;(try first|exact ⟨rfl,_,World.drewN_drewN _ _ _⟩|exact ⟨rfl,_,Eq.trans (World.drewN_drewN _ _ _) (congrArg (World.drewN _) (Nat.add_assoc _ _ _))⟩)))
         repeat (go_quiet (first|(go_at_call 48;(with_reducible refine (spindlelaw0_SameBytes.calls _ _ ((rd_T39 l0 x5_1).f1) _ _ ((rd_T39 l1 x5_1).f1) true _ ?side1 ?side2 ?side3 ?side4 A8.out).mono ?_);(case side1=>repeat (first|exact HR298_1.out|(with_reducible refine Kd.C_alloc ?_ _)|(with_reducible refine Kd.C_drewN ?_ _)|(with_reducible refine Kd.C_drew ?_)));(case side2=>exact HC298_1.out);(case side3=>repeat (first|exact HR299_1.out|(with_reducible refine Kd.C_alloc ?_ _)|(with_reducible refine Kd.C_drewN ?_ _)|(with_reducible refine Kd.C_drew ?_)));(case side4=>exact HC299_1.out);rintro e w' ⟨rfl,⟨nd,rfl⟩⟩;(try first|exact ⟨rfl,_,World.drewN_drewN _ _ _⟩|exact ⟨rfl,_,Eq.trans (World.drewN_drewN _ _ _) (congrArg (World.drewN _) (Nat.add_assoc _ _ _))⟩)));try go_wp2_with (first|(go_at_call 48;(with_reducible refine (spindlelaw0_SameBytes.calls _ _ ((rd_T39 l0 x5_1).f1) _ _ ((rd_T39 l1 x5_1).f1) true _ ?side1 ?side2 ?side3 ?side4 A8.out).mono ?_);(case side1=>repeat (first|exact HR298_1.out|(with_reducible refine Kd.C_alloc ?_ _)|(with_reducible refine Kd.C_drewN ?_ _)|(with_reducible refine Kd.C_drew ?_)));(case side2=>exact HC298_1.out);(case side3=>repeat (first|exact HR299_1.out|(with_reducible refine Kd.C_alloc ?_ _)|(with_reducible refine Kd.C_drewN ?_ _)|(with_reducible refine Kd.C_drew ?_)));(case side4=>exact HC299_1.out);rintro e w' ⟨rfl,⟨nd,rfl⟩⟩;(try first|exact ⟨rfl,_,World.drewN_drewN _ _ _⟩|exact ⟨rfl,_,Eq.trans (World.drewN_drewN _ _ _) (congrArg (World.drewN _) (Nat.add_assoc _ _ _))⟩))))
         go_roundg k1
         case measure=>have:=HK1.out;omega
         case rel=>exact ⟨(wrap64 (x5_1+1)),(by first|rfl|(simp;done)|(simp [*];done)),H',⟨by have:=HK1.out;omega⟩,by repeat (first|exact Drawn0.refl _|apply Drawn0.step)⟩
        ·replace c9:=Bool.eq_false_iff.mpr c9
         subst c9
         have H1:(some false)=some r:=by rw [if_neg (show ¬ (false=true) by decide)] at H;exact H
         clear H
         have H:=H1
         clear H1
         obtain rfl:=Option.some.inj H
         have p296:0≤(x5_1:Int):=of_decide_eq_true (by first|(with_reducible assumption)|assumption)
         have q296:x5_1<(l0.length:Int):=of_decide_eq_true (by first|(with_reducible assumption)|assumption)
         obtain ⟨ad296,A296_1,c296_1,e296,hx296_0,hx296_1,hl296_1,hi296_1⟩:=at_T39 HR0.out x5_1 p296 q296
         cases e296
         have HR296_1:=Aside0.mk hi296_1
         have HC296_1:=Aside0.mk hl296_1
         clear hi296_1 hl296_1
         replace p296:=eq_true p296
         replace q296:=eq_true q296
         have p297:0≤(x5_1:Int):=of_decide_eq_true (by first|(with_reducible assumption)|assumption)
         have q297:x5_1<(l1.length:Int):=of_decide_eq_true (by first|(with_reducible assumption)|assumption)
         obtain ⟨ad297,A297_1,c297_1,e297,hx297_0,hx297_1,hl297_1,hi297_1⟩:=at_T39 HR1.out x5_1 p297 q297
         cases e297
         have HR297_1:=Aside0.mk hi297_1
         have HC297_1:=Aside0.mk hl297_1
         clear hi297_1 hl297_1
         replace p297:=eq_true p297
         replace q297:=eq_true q297
         have p298:0≤(x5_1:Int):=of_decide_eq_true (by first|(with_reducible assumption)|assumption)
         have q298:x5_1<(l0.length:Int):=of_decide_eq_true (by first|(with_reducible assumption)|assumption)
         obtain ⟨ad298,A298_1,c298_1,e298,hx298_0,hx298_1,hl298_1,hi298_1⟩:=at_T39 HR0.out x5_1 p298 q298
         obtain rfl:ad296=ad298:=(by injection e298)
         have HR298_1:=Aside0.mk hi298_1
         have HC298_1:=Aside0.mk hl298_1
         clear hi298_1 hl298_1
         replace p298:=eq_true p298
         replace q298:=eq_true q298
         have ea_:=Option.some.inj (hx296_1.symm.trans hx298_1)
         injection ea_ with ea_ en_ ec_
         subst ea_
         subst ec_
         clear en_
         have p299:0≤(x5_1:Int):=of_decide_eq_true (by first|(with_reducible assumption)|assumption)
         have q299:x5_1<(l1.length:Int):=of_decide_eq_true (by first|(with_reducible assumption)|assumption)
         obtain ⟨ad299,A299_1,c299_1,e299,hx299_0,hx299_1,hl299_1,hi299_1⟩:=at_T39 HR1.out x5_1 p299 q299
         obtain rfl:ad297=ad299:=(by injection e299)
         have HR299_1:=Aside0.mk hi299_1
         have HC299_1:=Aside0.mk hl299_1
         clear hi299_1 hl299_1
         replace p299:=eq_true p299
         replace q299:=eq_true q299
         have ea_:=Option.some.inj (hx297_1.symm.trans hx299_1)
         injection ea_ with ea_ en_ ec_
         subst ea_
         subst ec_
         clear en_
         go_wp2_with (first|(go_at_call 48;(with_reducible refine (spindlelaw0_SameBytes.calls _ _ ((rd_T39 l0 x5_1).f1) _ _ ((rd_T39 l1 x5_1).f1) false _ ?side1 ?side2 ?side3 ?side4 A8.out).mono ?_);(case side1=>repeat (first|exact HR298_1.out|(with_reducible refine Kd.C_alloc ?_ _)|(with_reducible refine Kd.C_drewN ?_ _)|(with_reducible refine Kd.C_drew ?_)));(case side2=>exact HC298_1.out);(case side3=>repeat (first|exact HR299_1.out|(with_reducible refine Kd.C_alloc ?_ _)|(with_reducible refine Kd.C_drewN ?_ _)|(with_reducible refine Kd.C_drew ?_)));(case side4=>exact HC299_1.out);rintro e w' ⟨rfl,⟨nd,rfl⟩⟩;(try first|exact ⟨rfl,_,World.drewN_drewN _ _ _⟩|exact ⟨rfl,_,Eq.trans (World.drewN_drewN _ _ _) (congrArg (World.drewN _) (Nat.add_assoc _ _ _))⟩)))
         repeat (go_quiet (first|(go_at_call 48;(with_reducible refine (spindlelaw0_SameBytes.calls _ _ ((rd_T39 l0 x5_1).f1) _ _ ((rd_T39 l1 x5_1).f1) false _ ?side1 ?side2 ?side3 ?side4 A8.out).mono ?_);(case side1=>repeat (first|exact HR298_1.out|(with_reducible refine Kd.C_alloc ?_ _)|(with_reducible refine Kd.C_drewN ?_ _)|(with_reducible refine Kd.C_drew ?_)));(case side2=>exact HC298_1.out);(case side3=>repeat (first|exact HR299_1.out|(with_reducible refine Kd.C_alloc ?_ _)|(with_reducible refine Kd.C_drewN ?_ _)|(with_reducible refine Kd.C_drew ?_)));(case side4=>exact HC299_1.out);rintro e w' ⟨rfl,⟨nd,rfl⟩⟩;(try first|exact ⟨rfl,_,World.drewN_drewN _ _ _⟩|exact ⟨rfl,_,Eq.trans (World.drewN_drewN _ _ _) (congrArg (World.drewN _) (Nat.add_assoc _ _ _))⟩)));try go_wp2_with (first|(go_at_call 48;(with_reducible refine (spindlelaw0_SameBytes.calls _ _ ((rd_T39 l0 x5_1).f1) _ _ ((rd_T39 l1 x5_1).f1) false _ ?side1 ?side2 ?side3 ?side4 A8.out).mono ?_);(case side1=>repeat (first|exact HR298_1.out|(with_reducible refine Kd.C_alloc ?_ _)|(with_reducible refine Kd.C_drewN ?_ _)|(with_reducible refine Kd.C_drew ?_)));(case side2=>exact HC298_1.out);(case side3=>repeat (first|exact HR299_1.out|(with_reducible refine Kd.C_alloc ?_ _)|(with_reducible refine Kd.C_drewN ?_ _)|(with_reducible refine Kd.C_drew ?_)));(case side4=>exact HC299_1.out);rintro e w' ⟨rfl,⟨nd,rfl⟩⟩;(try first|exact ⟨rfl,_,World.drewN_drewN _ _ _⟩|exact ⟨rfl,_,Eq.trans (World.drewN_drewN _ _ _) (congrArg (World.drewN _) (Nat.add_assoc _ _ _))⟩))))
         go_ret
         exact ⟨by first|rfl|(simp;done)|(simp [*];done),by repeat (first|exact Drawn0.refl _|apply Drawn0.step)⟩
       ·rw [if_neg c7] at H
        have c7b0:(((rd_T39 l0 x5_1).f0) == ((rd_T39 l1 x5_1).f0))=false:=beq_eq_false_iff_ne.mpr c7
        have c7b1:(((rd_T39 l0 x5_1).f0) != ((rd_T39 l1 x5_1).f0))=true:=bne_iff_ne.mpr c7
        obtain rfl:=Option.some.inj H
        have p296:0≤(x5_1:Int):=of_decide_eq_true (by first|(with_reducible assumption)|assumption)
        have q296:x5_1<(l0.length:Int):=of_decide_eq_true (by first|(with_reducible assumption)|assumption)
        obtain ⟨ad296,A296_1,c296_1,e296,hx296_0,hx296_1,hl296_1,hi296_1⟩:=at_T39 HR0.out x5_1 p296 q296
        cases e296
        have HR296_1:=Aside0.mk hi296_1
        have HC296_1:=Aside0.mk hl296_1
        clear hi296_1 hl296_1
        replace p296:=eq_true p296
        replace q296:=eq_true q296
        have p297:0≤(x5_1:Int):=of_decide_eq_true (by first|(with_reducible assumption)|assumption)
        have q297:x5_1<(l1.length:Int):=of_decide_eq_true (by first|(with_reducible assumption)|assumption)
        obtain ⟨ad297,A297_1,c297_1,e297,hx297_0,hx297_1,hl297_1,hi297_1⟩:=at_T39 HR1.out x5_1 p297 q297
        cases e297
        have HR297_1:=Aside0.mk hi297_1
        have HC297_1:=Aside0.mk hl297_1
        clear hi297_1 hl297_1
        replace p297:=eq_true p297
        replace q297:=eq_true q297
        go_wp2
        repeat (go_quiet (fail);try go_wp2)
        go_ret
        exact ⟨by first|rfl|(simp;done)|(simp [*];done),by repeat (first|exact Drawn0.refl _|apply Drawn0.step)⟩
      ·rw [if_neg c6] at H
       exact absurd H (by simp)
     ·rw [if_neg c5] at H
      exact absurd H (by simp)
    ·rw [if_neg c4] at H
     have c4b0:decide (x5_1<(l0.length:Int))=false:=decide_eq_false c4
     clear c4
     obtain rfl:=Option.some.inj H
     go_wp2
     repeat (go_quiet (fail);try go_wp2)
     go_ret
     exact ⟨by first|rfl|(simp;done)|(simp [*];done),by repeat (first|exact Drawn0.refl _|apply Drawn0.step)⟩
 ·rw [if_neg c3] at H
  have c3b0:((l0.length:Int) == (l1.length:Int))=false:=beq_eq_false_iff_ne.mpr c3
  have c3b1:((l0.length:Int) != (l1.length:Int))=true:=bne_iff_ne.mpr c3
  have c3b2:(l0.length == l1.length)=false:=by first|simpa using c3|(simp at c3 ⊢;omega)
  obtain rfl:=Option.some.inj H
  go_enter Try.func52,Try.ntmps52
  go_wp2
  repeat (go_quiet (fail);try go_wp2)
  go_ret
  exact ⟨by first|rfl|(simp;done)|(simp [*];done),by repeat (first|exact Drawn0.refl _|apply Drawn0.step)⟩
end Go.Proofs.Ythmeojeehemlaaa.PM
end
end
