/- Parts of the proof, laid together by a program of this session (pack.py): ZA2. Of the kit's print what the claim does not use is left out. -/
import Derived.Test.YthmeojeehemlaaaZC1
set_option linter.unusedVariables false
set_option linter.unusedSimpArgs false
set_option maxRecDepth 100000
set_option maxHeartbeats 16000000
section
section
namespace Go.Proofs.Ythmeojeehemlaaa.PM
open Go.RowKit Go.Proofs.YthmeojeehemlaaaW.PrintWords Go.Proofs.YthmeojeehemlaaaW.PrintLast Go.Proofs.YthmeojeehemlaaaW.PrintMore
attribute [local go_sem] isSome_setCell max2_int min2_int max_two min_two max_three min_three max_four min_four
mutual
def spindleref20_Space_Add.j1:Nat→Bool→List (S39)→Int→List Int→Option ((List (S39)) × Int)
 | 0,_,_,_,_=>none
 | k+1,x6,x159000,x160000,x160001=>if x6=true then ((spindleref20_Space_Copy.f k x159000).bind fun t164=>((spindleref20_copied.f x160000 x160001).bind fun bt168=>(if t164.length<4398046511104 then (some ((t164 ++ [(⟨bt168.1,bt168.2⟩:S39)]),0)) else (none)))) else (some (x159000,201))
def spindleref20_Space_Add.l0:Nat→Bool→Int→List (S39)→Int→List Int→Option ((List (S39)) × Int)
 | 0,_,_,_,_,_=>none
 | k+1,x6,x7,x159000,x160000,x160001=>if x6=true then (if x7<(x159000.length:Int) then (if 0≤x7 then ((spindleref20_clash.f ((rd_T39 x159000 x7).f0) ((rd_T39 x159000 x7).f1) x160000 x160001).bind fun t163=>(spindleref20_Space_Add.l0 k (!t163) (wrap64 (x7+1)) x159000 x160000 x160001)) else (none)) else (spindleref20_Space_Add.j1 k x6 x159000 x160000 x160001)) else (spindleref20_Space_Add.j1 k x6 x159000 x160000 x160001)
end
def spindleref20_Space_Add.f (k:Nat) (l0_0:List (S39)) (a1_0:Int) (l1_1:List Int):Option ((List (S39)) × Int):=(spindleref20_may.f a1_0 l1_1).bind fun t161=>(spindleref20_Space_Add.l0 k t161 0 l0_0 a1_0 l1_1)
def spindleref20_Space_Add.T5:Bool × List (List Nat × List Nat):=(true,[([],[]),([0],[0]),([],[]),([1,2],[1,2]),([3],[3]),([],[]),([4,5],[4,5]),([6],[6]),([7,6,0,1,2,3,4,5,6,7],[7])])
def spindleref20_Space_Add.B5:List Nat:=[0,1,0,7,15,0,63,127,255]
theorem spindleref20_Space_Add.tab5:rtab .any (opsOf Try.f39 5)=spindleref20_Space_Add.T5:=by kernel_rfl
theorem spindleref20_Space_Add.bits5:waitsOk spindleref20_Space_Add.T5.2 spindleref20_Space_Add.B5=true:=by kernel_rfl
def spindleref20_Space_Add.T9:Bool × List (List Nat × List Nat):=(true,[([],[]),([0],[0]),([],[]),([2],[2]),([3],[3]),([1,4,3],[1,4]),([0,1,2,3,4,5],[]),([6,5,5,0,1,2,3,4,5],[5,6])])
def spindleref20_Space_Add.B9:List Nat:=[0,1,0,4,12,31,63,127]
theorem spindleref20_Space_Add.tab9:rtab .any (opsOf Try.f39 9)=spindleref20_Space_Add.T9:=by kernel_rfl
theorem spindleref20_Space_Add.bits9:waitsOk spindleref20_Space_Add.T9.2 spindleref20_Space_Add.B9=true:=by kernel_rfl
theorem spindleref20_Space_Add.calls (k:Nat) (P0_0_:Nat→Prop) (A0_0:Option Addr) (c0_0:Nat) (l0_0:List (S39)) (a1_0:Int) (A1_1:Option Addr) (c1_1:Nat) (l1_1:List Int) (r1:List (S39)) (r2:Int) (w:World) (hs0_0:Kd.V k39 39 w w.heap.size (fun k_=>P0_0_ k_) (.slice A0_0 l0_0.length c0_0) l0_0) (hr1_1:Kd.C (Kd.int .u8) w A1_1 l1_1.length l1_1) (hc1_1:l1_1.length≤c1_1) (h:spindleref20_Space_Add.f k l0_0 a1_0 l1_1=some (r1,r2)) :
  Calls Try.prog 39 #[.agg #[.slice A0_0 l0_0.length c0_0],.agg #[.int .u64 a1_0,.slice A1_1 l1_1.length c1_1]] w fun e w'=>∃ v0_:Value,e=.returned (.tuple #[.agg #[v0_],.int .i64 r2])∧Kd.V k39 39 w' w.heap.size (fun k_=>(P0_0_ k_∨w.heap.size≤k_)) v0_ r1∧Below w.heap.size w w':=by
 have hu78:=Try.underlying78
 have hu39:=Try.underlying39
 have HO0_0:=Aside0.mk (show Kd.V k39 39 w w.heap.size (fun k_=>(P0_0_ k_∨w.heap.size≤k_)) (.slice A0_0 l0_0.length c0_0) l0_0 from Kd.V_mono hs0_0 (fun k_ hk=>.inl hk))
 have HR1_1:=Aside0.mk hr1_1
 have HC1_1:=Aside0.mk hc1_1
 clear hr1_1 hc1_1
 have HB:=Aside0.mk (Below.refl w.heap.size w)
 have H:((spindleref20_may.f a1_0 l1_1).bind fun t161=>(spindleref20_Space_Add.l0 k t161 0 l0_0 a1_0 l1_1))=some (r1,r2):=h
 clear h
 replace H:=Option.bind_eq_some_iff.mp H
 obtain ⟨t161,A30,H⟩:=H
 replace H:(spindleref20_Space_Add.l0 k t161 0 l0_0 a1_0 l1_1)=some (r1,r2):=H
 have A3:=Aside0.mk A30
 clear A30
 have HC4:=Aside0.mk H
 clear H
 go_enter Try.func39,Try.ntmps39
 go_upto_block 0 with (first|((with_reducible refine gate_dst (N:=2) rfl ?_);(try (refine gate_guard (by rfl) ?_;dsimp only));refine box_event ?hg (N:=2) ?hd (cs:=#[.slice A0_0 l0_0.length c0_0]) (t:=78) ?hr ?_;(case hd=>rfl);(case hg=>rfl);(case hr=>first|(go_simp;done)|(go_simp;rfl));intro gb158 hg w5 hbox hb;have n0_:=Aside0.mk (Kd.V_below (Kd.V_elderB (by (with_reducible repeat (first|apply Kd.V_alloc|apply Kd.V_drewN|apply Kd.V_drew));exact HO0_0.out) gb158 (Nat.le_of_eq hg.symm)) hb);have n1_:=Aside0.mk (below_step (by repeat (first|(with_reducible first|exact HB.out|apply below_alloc|apply pw_below_drewN|apply below_drew1)|exact HB.out)) hb);have n2_:=Aside0.mk (hbox);have n3_:=Aside0.mk ((by rw [hg];exact (below_size (by repeat (first|(with_reducible first|exact HB.out|apply below_alloc|apply pw_below_drewN|apply below_drew1)|exact HB.out))):w.heap.size≤gb158));have n4_:=Aside0.mk ((by rw [hg];exact (below_size (by repeat (first|(with_reducible first|exact HB.out|apply below_alloc|apply pw_below_drewN|apply below_drew1)|exact HB.out))):w.heap.size≤gb158));clear HO0_0;clear HB;have HO0_0:=n0_;have HB:=n1_;have BK158:=n2_;have GW158:=n3_;have GE158:=n4_;clear n0_ n1_ n2_ n3_ n4_;clear hb hbox hg)|((with_reducible refine gate_dst (N:=3) rfl ?_);(try (refine gate_guard (by rfl) ?_;dsimp only));refine box_event ?hg (N:=3) ?hd (cs:=#[.int .u64 a1_0,.slice A1_1 l1_1.length c1_1]) (t:=39) ?hr ?_;(case hd=>rfl);(case hg=>rfl);(case hr=>first|(go_simp;done)|(go_simp;rfl));intro gb159 hg w6 hbox hb;have n0_:=Aside0.mk (Kd.V_below (Kd.V_elderB (by (with_reducible repeat (first|apply Kd.V_alloc|apply Kd.V_drewN|apply Kd.V_drew));exact HO0_0.out) gb159 (Nat.le_of_eq hg.symm)) hb);have n1_:=Aside0.mk (blk_below (g:=gb158) (o:=.cells #[.slice A0_0 l0_0.length c0_0] 78 (0,0)) (by (with_reducible repeat (first|refine blk_drewN ?_ _|refine blk_drew ?_|refine blk_alloc ?_ _));exact BK158.out) hb);have n2_:=Aside0.mk (below_step (by repeat (first|(with_reducible first|exact HB.out|apply below_alloc|apply pw_below_drewN|apply below_drew1|refine below_set ?_ GE158.out)|exact HB.out)) hb);have n3_:=Aside0.mk (hbox);have n4_:=Aside0.mk ((by rw [hg];exact (below_size (by repeat (first|(with_reducible first|exact HB.out|apply below_alloc|apply pw_below_drewN|apply below_drew1|refine below_set ?_ GE158.out)|exact HB.out))):w.heap.size≤gb159));have n5_:=Aside0.mk ((by rw [hg];exact (below_size (by repeat (first|(with_reducible first|exact HB.out|apply below_alloc|apply pw_below_drewN|apply below_drew1|refine below_set ?_ GE158.out)|exact HB.out))):w.heap.size≤gb159));have n6_:=Aside0.mk ((by rw [hg];exact Nat.ne_of_lt (blk_lt (g:=gb158) (o:=.cells #[.slice A0_0 l0_0.length c0_0] 78 (0,0)) (by (with_reducible repeat (first|refine blk_drewN ?_ _|refine blk_drew ?_|refine blk_alloc ?_ _));exact BK158.out)):gb158≠gb159));have n7_:=Aside0.mk ((by rw [hg];exact Nat.ne_of_gt (blk_lt (g:=gb158) (o:=.cells #[.slice A0_0 l0_0.length c0_0] 78 (0,0)) (by (with_reducible repeat (first|refine blk_drewN ?_ _|refine blk_drew ?_|refine blk_alloc ?_ _));exact BK158.out)):gb159≠gb158));clear HO0_0;clear BK158;clear HB;have HO0_0:=n0_;have BK158:=n1_;have HB:=n2_;have BK159:=n3_;have GW159:=n4_;have GE159:=n5_;have NB158_159:=n6_;have NB159_158:=n7_;clear n0_ n1_ n2_ n3_ n4_ n5_ n6_ n7_;clear hb hbox hg)|((with_reducible refine gate_dst (N:=4) rfl ?_);(try (refine gate_guard (by rfl) ?_;dsimp only));refine box_event ?hg (N:=4) ?hd (cs:=#[.slice none 0 0]) (t:=78) ?hr ?_;(case hd=>rfl);(case hg=>rfl);(case hr=>first|(go_simp;done)|(go_simp;rfl));intro gb160 hg w7 hbox hb;have n0_:=Aside0.mk (Kd.V_below (Kd.V_elderB (by (with_reducible repeat (first|apply Kd.V_alloc|apply Kd.V_drewN|apply Kd.V_drew));exact HO0_0.out) gb160 (Nat.le_of_eq hg.symm)) hb);have n1_:=Aside0.mk (blk_below (g:=gb158) (o:=.cells #[.slice A0_0 l0_0.length c0_0] 78 (0,0)) (by (with_reducible repeat (first|refine blk_drewN ?_ _|refine blk_drew ?_|refine blk_alloc ?_ _));exact BK158.out) hb);have n2_:=Aside0.mk (blk_below (g:=gb159) (o:=.cells #[.int .u64 a1_0,.slice A1_1 l1_1.length c1_1] 39 (0,0)) (by (with_reducible repeat (first|refine blk_drewN ?_ _|refine blk_drew ?_|refine blk_alloc ?_ _));exact BK159.out) hb);have n3_:=Aside0.mk (below_step (by repeat (first|(with_reducible first|exact HB.out|apply below_alloc|apply pw_below_drewN|apply below_drew1|refine below_set ?_ GE158.out|refine below_set ?_ GE159.out)|exact HB.out)) hb);have n4_:=Aside0.mk (hbox);have n5_:=Aside0.mk ((by rw [hg];exact (below_size (by repeat (first|(with_reducible first|exact HB.out|apply below_alloc|apply pw_below_drewN|apply below_drew1|refine below_set ?_ GE158.out|refine below_set ?_ GE159.out)|exact HB.out))):w.heap.size≤gb160));have n6_:=Aside0.mk ((by rw [hg];exact (below_size (by repeat (first|(with_reducible first|exact HB.out|apply below_alloc|apply pw_below_drewN|apply below_drew1|refine below_set ?_ GE158.out|refine below_set ?_ GE159.out)|exact HB.out))):w.heap.size≤gb160));have n7_:=Aside0.mk ((by rw [hg];exact Nat.ne_of_lt (blk_lt (g:=gb158) (o:=.cells #[.slice A0_0 l0_0.length c0_0] 78 (0,0)) (by (with_reducible repeat (first|refine blk_drewN ?_ _|refine blk_drew ?_|refine blk_alloc ?_ _));exact BK158.out)):gb158≠gb160));have n8_:=Aside0.mk ((by rw [hg];exact Nat.ne_of_gt (blk_lt (g:=gb158) (o:=.cells #[.slice A0_0 l0_0.length c0_0] 78 (0,0)) (by (with_reducible repeat (first|refine blk_drewN ?_ _|refine blk_drew ?_|refine blk_alloc ?_ _));exact BK158.out)):gb160≠gb158));have n9_:=Aside0.mk ((by rw [hg];exact Nat.ne_of_lt (blk_lt (g:=gb159) (o:=.cells #[.int .u64 a1_0,.slice A1_1 l1_1.length c1_1] 39 (0,0)) (by (with_reducible repeat (first|refine blk_drewN ?_ _|refine blk_drew ?_|refine blk_alloc ?_ _));exact BK159.out)):gb159≠gb160));have n10_:=Aside0.mk ((by rw [hg];exact Nat.ne_of_gt (blk_lt (g:=gb159) (o:=.cells #[.int .u64 a1_0,.slice A1_1 l1_1.length c1_1] 39 (0,0)) (by (with_reducible repeat (first|refine blk_drewN ?_ _|refine blk_drew ?_|refine blk_alloc ?_ _));exact BK159.out)):gb160≠gb159));clear HO0_0;clear BK158;clear BK159;clear HB;have HO0_0:=n0_;have BK158:=n1_;have BK159:=n2_;have HB:=n3_;have BK160:=n4_;have GW160:=n5_;have GE160:=n6_;have NB158_160:=n7_;have NB160_158:=n8_;have NB159_160:=n9_;have NB160_159:=n10_;clear n0_ n1_ n2_ n3_ n4_ n5_ n6_ n7_ n8_ n9_ n10_;clear hb hbox hg;have hnb8:=NB159_158.out;have hnc8:=NB158_159.out;have hnb9:=NB159_160.out;have hnc9:=NB160_159.out;have hcz10_0:w7.cell? ⟨gb159,0,none⟩=some (.int .u64 a1_0):=(blk_cell BK159.out 0).trans rfl;have hcz10_1:w7.cell? ⟨gb159,1,none⟩=some (.slice A1_1 l1_1.length c1_1):=(blk_cell BK159.out 1).trans rfl;have hfz10_0:=blk_frozen BK159.out 0;have hfz10_1:=blk_frozen BK159.out 1)|((with_reducible refine gate_callee (f:=69) rfl ?_);refine goesL_ (some 10) rfl rfl Try.func69 (by kernel_rfl) rfl #[.agg #[.int .u64 a1_0,.slice A1_1 l1_1.length c1_1]] rfl (by (try simp only [List.map_toArray,List.map_cons,List.map_nil]);first|done|rfl|(simp only [List.length_drop,List.length_take];rfl)) ?_;(with_reducible refine (spindleref20_may.calls a1_0 _ _ l1_1 t161 _ ?side1 ?side2 A3.out).mono ?_);(case side1=>repeat (first|exact (Kd.C_below HR1_1.out HB.out)|(with_reducible refine Kd.C_alloc ?_ _)|(with_reducible refine Kd.C_drewN ?_ _)|(with_reducible refine Kd.C_drew ?_)));(case side2=>exact HC1_1.out);rintro e w11 ⟨rfl,hb⟩;refine ⟨_,rfl,?_⟩;have n0_:=Aside0.mk (Kd.V_below (by (with_reducible repeat (first|apply Kd.V_alloc|apply Kd.V_drewN|apply Kd.V_drew));exact HO0_0.out) hb);have n1_:=Aside0.mk (blk_below (g:=gb158) (o:=.cells #[.slice A0_0 l0_0.length c0_0] 78 (0,0)) (by (with_reducible repeat (first|refine blk_drewN ?_ _|refine blk_drew ?_|refine blk_alloc ?_ _));exact BK158.out) hb);have n2_:=Aside0.mk (blk_below (g:=gb159) (o:=.cells #[.int .u64 a1_0,.slice A1_1 l1_1.length c1_1] 39 (0,0)) (by (with_reducible repeat (first|refine blk_drewN ?_ _|refine blk_drew ?_|refine blk_alloc ?_ _));exact BK159.out) hb);have n3_:=Aside0.mk (blk_below (g:=gb160) (o:=.cells #[.slice none 0 0] 78 (0,0)) (by (with_reducible repeat (first|refine blk_drewN ?_ _|refine blk_drew ?_|refine blk_alloc ?_ _));exact BK160.out) hb);have n4_:=Aside0.mk (below_step (by repeat (first|(with_reducible first|exact HB.out|apply below_alloc|apply pw_below_drewN|apply below_drew1|refine below_set ?_ GE158.out|refine below_set ?_ GE159.out|refine below_set ?_ GE160.out)|exact HB.out)) hb);clear HO0_0;clear BK158;clear BK159;clear BK160;clear HB;have HO0_0:=n0_;have BK158:=n1_;have BK159:=n2_;have BK160:=n3_;have HB:=n4_;clear n0_ n1_ n2_ n3_ n4_;(try clear hb);(try clear hb2);(try clear hk);(try clear hi)))
 (try simp only [Act.put,List.setIfInBounds_toArray,List.set_cons_zero,List.set_cons_succ])
 go_cut [6] (fun v6 wc=>∃ (kq:Nat) (x6_3:Bool),v6=.bool x6_3∧Aside0 (spindleref20_Space_Add.j1 kq x6_3 l0_0 a1_0 l1_1=some (r1,r2))∧Aside0 (kq≤k)∧Aside0 (Kd.V k39 39 wc w.heap.size (fun k_=>(P0_0_ k_∨w.heap.size≤k_)∧k_≠gb158∧k_≠gb159∧k_≠gb160) (.slice A0_0 l0_0.length c0_0) l0_0)∧Aside0 (wc.heap[gb158]?=some (.cells #[(.slice A0_0 l0_0.length c0_0)] 78 (0,0)))∧Aside0 (wc.heap[gb159]?=some (.cells #[.int .u64 a1_0,(.slice A1_1 l1_1.length c1_1)] 39 (0,0)))∧Aside0 (wc.heap[gb160]?=some (.cells #[(.slice none 0 0)] 78 (0,0)))∧Aside0 (Below w.heap.size w wc))
 case first =>
  have H:=HC4.out
  clear HC4
  have H':=Aside0.mk H
  clear H
  go_wp2
  go_loopg [6,7] k (fun kq v6 v7 w'=>∃ (x6_1:Bool) (x7_1:Int),v6=.bool x6_1∧v7=.int .i64 x7_1∧Aside0 (spindleref20_Space_Add.l0 kq x6_1 x7_1 l0_0 a1_0 l1_1=some (r1,r2))∧Aside0 (kq≤k)∧Aside0 (Kd.V k39 39 w' w.heap.size (fun k_=>(P0_0_ k_∨w.heap.size≤k_)∧k_≠gb158∧k_≠gb159∧k_≠gb160) (.slice A0_0 l0_0.length c0_0) l0_0)∧Aside0 (w'.heap[gb158]?=some (.cells #[(.slice A0_0 l0_0.length c0_0)] 78 (0,0)))∧Aside0 (w'.heap[gb159]?=some (.cells #[.int .u64 a1_0,(.slice A1_1 l1_1.length c1_1)] 39 (0,0)))∧Aside0 (w'.heap[gb160]?=some (.cells #[(.slice none 0 0)] 78 (0,0)))∧Aside0 (Below w.heap.size w w'))
  case atStart=>exact ⟨(t161),(0),(by first|rfl|(simp;done)|(simp [*];done)),(by first|rfl|(simp;done)|(simp [*];done)),H',⟨Nat.le_refl _⟩,⟨by (with_reducible repeat (first|apply Kd.V_alloc|apply Kd.V_drewN|apply Kd.V_drew));exact Kd.V_mono HO0_0.out (fun _ hk=>⟨hk.1.1.1,⟨hk.1.1.2,⟨hk.1.2,hk.2⟩⟩⟩)⟩,⟨by (with_reducible repeat (first|refine blk_drewN ?_ _|refine blk_drew ?_|refine blk_alloc ?_ _));exact BK158.out⟩,⟨by (with_reducible repeat (first|refine blk_drewN ?_ _|refine blk_drew ?_|refine blk_alloc ?_ _));exact BK159.out⟩,⟨by (with_reducible repeat (first|refine blk_drewN ?_ _|refine blk_drew ?_|refine blk_alloc ?_ _));exact BK160.out⟩,⟨by repeat (first|(with_reducible first|exact HB.out|apply below_alloc|apply pw_below_drewN|apply below_drew1|refine below_set ?_ GE158.out|refine below_set ?_ GE159.out|refine below_set ?_ GE160.out)|exact HB.out)⟩⟩
  case round =>
   clear H'
   try clear c1
   try clear p2
   try clear c3
   try clear c6
   try clear c8
   try clear c9
   try clear hcz10_0
   try clear hcz10_1
   try clear hfz10_0
   try clear hfz10_1
   obtain ⟨x6_1,x7_1,rfl,rfl,HA,HK1,HO_159000,BK158,BK159,BK160,HB⟩:=hrel
   cases gk with
   | zero=>exact absurd HA.out (by simp [spindleref20_Space_Add.l0])
   | succ k1 =>
    have H:=HA.out
    clear HA
    simp only [spindleref20_Space_Add.l0] at H
    by_cases c12:x6_1=true
    ·subst c12
     have H1:(if x7_1<(l0_0.length:Int) then (if 0≤x7_1 then ((spindleref20_clash.f ((rd_T39 l0_0 x7_1).f0) ((rd_T39 l0_0 x7_1).f1) a1_0 l1_1).bind fun t163=>(spindleref20_Space_Add.l0 k1 (!t163) (wrap64 (x7_1+1)) l0_0 a1_0 l1_1)) else (none)) else (spindleref20_Space_Add.j1 k1 true l0_0 a1_0 l1_1))=some (r1,r2):=by rw [if_pos rfl] at H;exact H
     clear H
     have H:=H1
     clear H1
     by_cases c13:x7_1<(l0_0.length:Int)
     ·rw [if_pos c13] at H
      have c13b0:decide (x7_1<(l0_0.length:Int))=true:=decide_eq_true c13
      clear c13
      (first|rw [c13b0]|(simp only [i64_w,i32_w];rw [c13b0])|skip)
      by_cases c14:0≤x7_1
      ·rw [if_pos c14] at H
       have c14b0:decide (0≤x7_1)=true:=decide_eq_true c14
       clear c14
       replace H:=Option.bind_eq_some_iff.mp H
       obtain ⟨t163,A150,H⟩:=H
       replace H:(spindleref20_Space_Add.l0 k1 (!t163) (wrap64 (x7_1+1)) l0_0 a1_0 l1_1)=some (r1,r2):=H
       have A15:=Aside0.mk A150
       clear A150
       have H':=Aside0.mk H
       clear H
       have hnb16:=NB158_159.out
       have hnc16:=NB159_158.out
       have hnb17:=NB158_160.out
       have hnc17:=NB160_158.out
       have hcz18_0:wr.cell? ⟨gb158,0,none⟩=some (.slice A0_0 l0_0.length c0_0):=(blk_cell BK158.out 0).trans rfl
       have hfz18_0:=blk_frozen BK158.out 0
       try go_wp2
       have n0_:=Aside0.mk (Kd.V_drew HO_159000.out)
       have n1_:=Aside0.mk (blk_drew BK158.out)
       have n2_:=Aside0.mk (blk_drew BK159.out)
       have n3_:=Aside0.mk (blk_drew BK160.out)
       have n4_:=Aside0.mk (below_drew1 HB.out)
       clear HO_159000 BK158 BK159 BK160 HB
       have HO_159000:=n0_
       have BK158:=n1_
       have BK159:=n2_
       have BK160:=n3_
       have HB:=n4_
       clear n0_ n1_ n2_ n3_ n4_
       have p162:0≤(x7_1:Int):=of_decide_eq_true (by first|(with_reducible assumption)|assumption)
       have q162:x7_1<(l0_0.length:Int):=of_decide_eq_true (by first|(with_reducible assumption)|assumption)
       obtain ⟨ad162,A162_1,c162_1,e162,hx162_0,hx162_1,hl162_1,hi162_1⟩:=at_T39 (Kd.V_reads' HO_159000.out).2.2 x7_1 p162 q162
       cases e162
       obtain ⟨ce162,hce162,hMe162,hcc162⟩:=Kd.V_get HO_159000.out z39 x7_1 p162 (by first|exact q162|exact of_decide_eq_true (by first|(with_reducible assumption)|assumption)|(have e_:=(Kd.V_reads' HO_159000.out).1;omega))
       obtain ⟨ua162_1,uc162_1,rfl,ul162_1,ge162_1⟩:=k39_openF hMe162
       have hv162_1:=hcc162 1 _ rfl
       rw [add_field _ _ 1 (by omega)] at hv162_1
       replace hv162_1:=Option.some.inj (hv162_1.symm.trans hx162_1)
       injection hv162_1 with hva_ hvn_ hvc_
       rw [hva_] at ge162_1
       rw [hvc_] at ul162_1
       have HL162_1:=Aside0.mk (show Kd.V (Kd.int .u8) 5 _ w.heap.size _ _ ((rd_T39 l0_0 x7_1).f1) from Kd.V_mk ul162_1 ge162_1)
       clear hva_ hvn_ hvc_ ge162_1 ul162_1 hcc162 hce162
       have HR162_1:=Aside0.mk hi162_1
       have HC162_1:=Aside0.mk hl162_1
       clear hi162_1 hl162_1
       replace p162:=eq_true p162
       replace q162:=eq_true q162
       refine start_ (n:=9) (S:=fun w'=>w'.cell? ⟨gb158,0,none⟩=some (.slice (some ad162) l0_0.length c0_0)∧w'.cell? ⟨gb159,0,none⟩=some (.int .u64 a1_0)∧w'.cell? ⟨gb159,1,none⟩=some (.slice A1_1 l1_1.length c1_1)∧w'.cell? (ad162.add ((x7_1).toNat*2))=some (.int .u64 ((rd_T39 l0_0 x7_1).f0))∧w'.cell? ⟨(ad162.add ((x7_1).toNat*2)).block,(ad162.add ((x7_1).toNat*2)).off+1,none⟩=some (.slice A162_1 ((rd_T39 l0_0 x7_1).f1).length c162_1)) (ds:=[]) #[false,false,false,false,false,false,false,false,false] (by kernel_rfl) rfl rfl ⟨(blk_cell BK158.out 0).trans rfl,(blk_cell BK159.out 0).trans rfl,(blk_cell BK159.out 1).trans rfl,hx162_0,hx162_1⟩ (fun hHeld=>?_);refine with_tabW spindleref20_Space_Add.tab5 spindleref20_Space_Add.bits5 (fun HT_ HW_=>?_)
       generalize wr.drew=w19 at HO_159000 BK158 BK159 BK160 HB HL162_1 HR162_1 hx162_0 hx162_1 hHeld ⊢
       refine pure_ (i:=0) (N:=some 21) (v:=?_) (a':=?_) #[true,false,false,false,false,false,false,false,false] rfl rfl (any_of HT_.out (by kernel_rfl)) (fun _ _ _ h=>h) (Or.inl ⟨by rfl,?_⟩) ?_ ?_
       rotate_left
       ·intro w'
        go_simp
        with_reducible rfl
       rotate_left
       ·simp only [Act.put,List.setIfInBounds_toArray,List.set_cons_zero,List.set_cons_succ,i64_w,i32_w]
        rfl
       refine pure_ (i:=2) (N:=some 23) (v:=?_) (a':=?_) #[true,false,true,false,false,false,false,false,false] rfl rfl (any_of HT_.out (by kernel_rfl)) (fun _ _ _ h=>h) (Or.inl ⟨by rfl,?_⟩) ?_ ?_
       rotate_left
       ·intro w'
        go_simp
        with_reducible rfl
       rotate_left
       ·simp only [Act.put,List.setIfInBounds_toArray,List.set_cons_zero,List.set_cons_succ,i64_w,i32_w]
        rfl
       refine take_ (i:=1) (N:=some 22) (v:=?_) (a':=?_) #[true,true,true,false,false,false,false,false,false] rfl rfl (take_ofW HT_.out HW_.out (by kernel_rfl)) (fun _ _ _ h=>h) (Or.inl ⟨by rfl,?_⟩) hHeld ?_ ?_
       rotate_left
       ·rintro w' ⟨s0,s1,s2,s3,s4⟩
        go_simp
        with_reducible rfl
       rotate_left
       ·simp only [Act.put,List.setIfInBounds_toArray,List.set_cons_zero,List.set_cons_succ,i64_w,i32_w]
        rfl
       refine pure_ (i:=3) (N:=some 24) (v:=?_) (a':=?_) #[true,true,true,true,false,false,false,false,false] rfl rfl (any_of HT_.out (by kernel_rfl)) (fun _ _ _ h=>h) (Or.inl ⟨by rfl,?_⟩) ?_ ?_
       rotate_left
       ·intro w'
        go_simp
        with_reducible rfl
       rotate_left
       ·simp only [Act.put,List.setIfInBounds_toArray,List.set_cons_zero,List.set_cons_succ,i64_w,i32_w]
        rfl
       refine take_ (i:=4) (N:=some 25) (v:=?_) (a':=?_) #[true,true,true,true,true,false,false,false,false] rfl rfl (take_ofW HT_.out HW_.out (by kernel_rfl)) (fun _ _ _ h=>h) (Or.inl ⟨by rfl,?_⟩) hHeld ?_ ?_
       rotate_left
       ·rintro w' ⟨s0,s1,s2,s3,s4⟩
        go_simp
        with_reducible rfl
       rotate_left
       ·simp only [Act.put,List.setIfInBounds_toArray,List.set_cons_zero,List.set_cons_succ,i64_w,i32_w]
        rfl
       refine take_ (i:=5) (N:=some 26) (v:=?_) (a':=?_) #[true,true,true,true,true,true,false,false,false] rfl rfl (take_ofW HT_.out HW_.out (by kernel_rfl)) (fun _ _ _ h=>h) (Or.inl ⟨by rfl,?_⟩) hHeld ?_ ?_
       rotate_left
       ·rintro w' ⟨s0,s1,s2,s3,s4⟩
        go_simp
        with_reducible rfl
       rotate_left
       ·simp only [Act.put,List.setIfInBounds_toArray,List.set_cons_zero,List.set_cons_succ,i64_w,i32_w]
        rfl
       refine one_ (i:=6) (N:=some 27) #[true,true,true,true,true,true,true,false,false] rfl rfl (one_of HT_.out (by kernel_rfl)) (by decide) (fun K hK=>?_)
       refine goes_ Try.func70 (by kernel_rfl) rfl #[.agg #[.int .u64 ((rd_T39 l0_0 x7_1).f0),.slice A162_1 ((rd_T39 l0_0 x7_1).f1).length c162_1],.agg #[.int .u64 a1_0,.slice A1_1 l1_1.length c1_1]] (by rfl) rfl rfl (by (try simp only [List.map_toArray,List.map_cons,List.map_nil]);first|done|rfl|(simp only [List.length_drop,List.length_take];rfl)) ?_
       with_reducible refine (spindleref20_clash.calls ((rd_T39 l0_0 x7_1).f0) _ _ ((rd_T39 l0_0 x7_1).f1) a1_0 _ _ l1_1 t163 _ ?side1 ?side2 ?side3 ?side4 A15.out).mono ?_
       (case side1=>repeat (first|exact (by repeat (first|(with_reducible exact HR162_1.out)|(with_reducible refine Kd.C_alloc ?_ _)|(with_reducible refine Kd.C_drewN ?_ _)|(with_reducible refine Kd.C_drew ?_)|exact HR162_1.out))|(with_reducible refine Kd.C_alloc ?_ _)|(with_reducible refine Kd.C_drewN ?_ _)|(with_reducible refine Kd.C_drew ?_)))
       (case side2=>exact HC162_1.out)
       (case side3=>repeat (first|exact (Kd.C_below HR1_1.out HB.out)|(with_reducible refine Kd.C_alloc ?_ _)|(with_reducible refine Kd.C_drewN ?_ _)|(with_reducible refine Kd.C_drew ?_)))
       (case side4=>exact HC1_1.out)
       rintro e w20 ⟨rfl,hb⟩
       have HS3_:=(hb.cell (World.block_lt_of_cell? _ _ (hHeld.2.2.2.1))).trans (hHeld.2.2.2.1)
       have HS4_:=(hb.cell (World.block_lt_of_cell? _ _ (hHeld.2.2.2.2))).trans (hHeld.2.2.2.2)
       refine ⟨_,rfl,?_⟩
       have n0_:=Aside0.mk (Kd.V_below (by (with_reducible repeat (first|apply Kd.V_alloc|apply Kd.V_drewN|apply Kd.V_drew));exact HO_159000.out) hb)
       have n1_:=Aside0.mk (Kd.V_below (by (with_reducible repeat (first|apply Kd.V_alloc|apply Kd.V_drewN|apply Kd.V_drew));exact HL162_1.out) hb)
       have n2_:=Aside0.mk (blk_below (g:=gb158) (o:=.cells #[.slice (some ad162) l0_0.length c0_0] 78 (0,0)) (by (with_reducible repeat (first|refine blk_drewN ?_ _|refine blk_drew ?_|refine blk_alloc ?_ _));exact BK158.out) hb)
       have n3_:=Aside0.mk (blk_below (g:=gb159) (o:=.cells #[.int .u64 a1_0,.slice A1_1 l1_1.length c1_1] 39 (0,0)) (by (with_reducible repeat (first|refine blk_drewN ?_ _|refine blk_drew ?_|refine blk_alloc ?_ _));exact BK159.out) hb)
       have n4_:=Aside0.mk (blk_below (g:=gb160) (o:=.cells #[.slice none 0 0] 78 (0,0)) (by (with_reducible repeat (first|refine blk_drewN ?_ _|refine blk_drew ?_|refine blk_alloc ?_ _));exact BK160.out) hb)
       have n5_:=Aside0.mk (Kd.C_below (by repeat (first|(with_reducible exact HR162_1.out)|(with_reducible refine Kd.C_alloc ?_ _)|(with_reducible refine Kd.C_drewN ?_ _)|(with_reducible refine Kd.C_drew ?_)|exact HR162_1.out)) hb)
       have n6_:=Aside0.mk (below_step (by repeat (first|(with_reducible first|exact HB.out|apply below_alloc|apply pw_below_drewN|apply below_drew1|refine below_set ?_ GE158.out|refine below_set ?_ GE159.out|refine below_set ?_ GE160.out)|exact HB.out)) hb)
       clear HO_159000 HL162_1 BK158 BK159 BK160 HR162_1 HB
       have HO_159000:=n0_
       have HL162_1:=n1_
       have BK158:=n2_
       have BK159:=n3_
       have BK160:=n4_
       have HR162_1:=n5_
       have HB:=n6_
       clear n0_ n1_ n2_ n3_ n4_ n5_ n6_
       (try clear hb)
       (try clear hb2)
       (try clear hk)
       (try clear hi)
       refine hK.out _ _ ⟨(blk_cell BK158.out 0).trans rfl,(blk_cell BK159.out 0).trans rfl,(blk_cell BK159.out 1).trans rfl,HS3_,HS4_⟩ (fun hHeld=>?_)
       clear hK K
       refine norm_ (a':=?_) ?_ ?_
       rotate_left
       ·show Act.put _ (some 27) _=_
        simp only [Act.put,List.setIfInBounds_toArray,List.set_cons_zero,List.set_cons_succ,i64_w,i32_w]
        rfl
       refine pure_ (i:=7) (N:=some 28) (v:=?_) (a':=?_) #[true,true,true,true,true,true,true,true,false] rfl rfl (any_of HT_.out (by kernel_rfl)) (fun _ _ _ h=>h) (Or.inl ⟨by rfl,?_⟩) ?_ ?_
       rotate_left
       ·intro w'
        go_simp
        with_reducible rfl
       rotate_left
       ·simp only [Act.put,List.setIfInBounds_toArray,List.set_cons_zero,List.set_cons_succ,i64_w,i32_w]
        rfl
       refine pure_ (i:=8) (N:=some 6) (v:=?_) (a':=?_) #[true,true,true,true,true,true,true,true,true] rfl rfl (any_of HT_.out (by kernel_rfl)) (fun _ _ _ h=>h) (Or.inl ⟨by rfl,?_⟩) ?_ ?_
       rotate_left
       ·intro w'
        go_simp
        with_reducible rfl
       rotate_left
       ·simp only [Act.put,List.setIfInBounds_toArray,List.set_cons_zero,List.set_cons_succ,i64_w,i32_w]
        rfl
       refine done_ (done_of HT_.out (by kernel_rfl)) ?_
       try go_wp2
       go_roundg k1
       case measure=>have:=HK1.out;omega
       case rel=>exact ⟨(!t163),(wrap64 (x7_1+1)),(by first|rfl|(simp;done)|(simp [*];done)),(by first|rfl|(simp;done)|(simp [*];done)),H',⟨by have:=HK1.out;omega⟩,⟨by (with_reducible repeat (first|apply Kd.V_alloc|apply Kd.V_drewN|apply Kd.V_drew));exact HO_159000.out⟩,⟨by (with_reducible repeat (first|refine blk_drewN ?_ _|refine blk_drew ?_|refine blk_alloc ?_ _));exact BK158.out⟩,⟨by (with_reducible repeat (first|refine blk_drewN ?_ _|refine blk_drew ?_|refine blk_alloc ?_ _));exact BK159.out⟩,⟨by (with_reducible repeat (first|refine blk_drewN ?_ _|refine blk_drew ?_|refine blk_alloc ?_ _));exact BK160.out⟩,⟨by repeat (first|(with_reducible first|exact HB.out|apply below_alloc|apply pw_below_drewN|apply below_drew1|refine below_set ?_ GE158.out|refine below_set ?_ GE159.out|refine below_set ?_ GE160.out)|exact HB.out)⟩⟩
      ·rw [if_neg c14] at H
       exact absurd H (by simp)
     ·rw [if_neg c13] at H
      have c13b0:decide (x7_1<(l0_0.length:Int))=false:=decide_eq_false c13
      clear c13
      (first|rw [c13b0]|(simp only [i64_w,i32_w];rw [c13b0])|skip)
      have H':=Aside0.mk H
      clear H
      have hnb21:=NB158_159.out
      have hnc21:=NB159_158.out
      have hnb22:=NB158_160.out
      have hnc22:=NB160_158.out
      have hcz23_0:wr.cell? ⟨gb158,0,none⟩=some (.slice A0_0 l0_0.length c0_0):=(blk_cell BK158.out 0).trans rfl
      have hfz23_0:=blk_frozen BK158.out 0
      go_wp2
      go_meet
      case rel=>exact ⟨_,(true),(by first|rfl|(simp;done)|(simp [*];done)),H',⟨by have:=HK1.out;first|omega|exact Nat.le_refl _⟩,⟨by (with_reducible repeat (first|apply Kd.V_alloc|apply Kd.V_drewN|apply Kd.V_drew));exact HO_159000.out⟩,⟨by (with_reducible repeat (first|refine blk_drewN ?_ _|refine blk_drew ?_|refine blk_alloc ?_ _));exact BK158.out⟩,⟨by (with_reducible repeat (first|refine blk_drewN ?_ _|refine blk_drew ?_|refine blk_alloc ?_ _));exact BK159.out⟩,⟨by (with_reducible repeat (first|refine blk_drewN ?_ _|refine blk_drew ?_|refine blk_alloc ?_ _));exact BK160.out⟩,⟨by repeat (first|(with_reducible first|exact HB.out|apply below_alloc|apply pw_below_drewN|apply below_drew1|refine below_set ?_ GE158.out|refine below_set ?_ GE159.out|refine below_set ?_ GE160.out)|exact HB.out)⟩⟩
    ·replace c12:=Bool.eq_false_iff.mpr c12
     subst c12
     have H1:(spindleref20_Space_Add.j1 k1 false l0_0 a1_0 l1_1)=some (r1,r2):=by rw [if_neg (show ¬ (false=true) by decide)] at H;exact H
     clear H
     have H:=H1
     clear H1
     have H':=Aside0.mk H
     clear H
     go_wp2
     go_meet
     case rel=>exact ⟨_,(false),(by first|rfl|(simp;done)|(simp [*];done)),H',⟨by have:=HK1.out;first|omega|exact Nat.le_refl _⟩,⟨by (with_reducible repeat (first|apply Kd.V_alloc|apply Kd.V_drewN|apply Kd.V_drew));exact HO_159000.out⟩,⟨by (with_reducible repeat (first|refine blk_drewN ?_ _|refine blk_drew ?_|refine blk_alloc ?_ _));exact BK158.out⟩,⟨by (with_reducible repeat (first|refine blk_drewN ?_ _|refine blk_drew ?_|refine blk_alloc ?_ _));exact BK159.out⟩,⟨by (with_reducible repeat (first|refine blk_drewN ?_ _|refine blk_drew ?_|refine blk_alloc ?_ _));exact BK160.out⟩,⟨by repeat (first|(with_reducible first|exact HB.out|apply below_alloc|apply pw_below_drewN|apply below_drew1|refine below_set ?_ GE158.out|refine below_set ?_ GE159.out|refine below_set ?_ GE160.out)|exact HB.out)⟩⟩
 case rest =>
  clear HC4
  try clear c1
  try clear p1
  try clear q1
  try clear hx1
  try clear c2
  try clear p2
  try clear c3
  try clear c6
  try clear p6
  try clear c7
  try clear c8
  try clear c9
  try clear c12
  try clear c13
  try clear c13b0
  try clear c14
  try clear c14b0
  try clear c16
  try clear p16
  try clear q16
  try clear hx16
  try clear c17
  try clear c21
  try clear c22
  try clear hcz10_0
  try clear hcz10_1
  try clear hcz18_0
  try clear hcz23_0
  try clear hfz10_0
  try clear hfz10_1
  try clear hfz18_0
  try clear hfz23_0
  try clear hx162_0
  try clear hx162_1
  try clear p162
  try clear p2
  try clear q162
  obtain ⟨kq,x6_3,rfl,HA,HJ3,HO_159000,BK158,BK159,BK160,HB⟩:=hcut
  cases kq with
  | zero=>exact absurd HA.out (by simp [spindleref20_Space_Add.j1])
  | succ kj3 =>
   have H:=HA.out
   clear HA
   simp only [spindleref20_Space_Add.j1] at H
   by_cases c24:x6_3=true
   ·subst c24
    have H1:((spindleref20_Space_Copy.f kj3 l0_0).bind fun t164=>((spindleref20_copied.f a1_0 l1_1).bind fun bt168=>(if t164.length<4398046511104 then (some ((t164 ++ [(⟨bt168.1,bt168.2⟩:S39)]),0)) else (none))))=some (r1,r2):=by rw [if_pos rfl] at H;exact H
    clear H
    have H:=H1
    clear H1
    replace H:=Option.bind_eq_some_iff.mp H
    obtain ⟨t164,A250,H⟩:=H
    replace H:((spindleref20_copied.f a1_0 l1_1).bind fun bt168=>(if t164.length<4398046511104 then (some ((t164 ++ [(⟨bt168.1,bt168.2⟩:S39)]),0)) else (none)))=some (r1,r2):=H
    have A25:=Aside0.mk A250
    clear A250
    replace H:=Option.bind_eq_some_iff.mp H
    obtain ⟨⟨t168,t169⟩,A260,H⟩:=H
    replace H:(if t164.length<4398046511104 then (some ((t164 ++ [(⟨t168,t169⟩:S39)]),0)) else (none))=some (r1,r2):=H
    have A26:=Aside0.mk A260
    clear A260
    by_cases c27:t164.length<4398046511104
    ·rw [if_pos c27] at H
     have LMc27:=Aside0.mk c27
     clear c27
     obtain ⟨y172,hy172⟩:∃ y_:List (S39),y_=(t164 ++ [(⟨t168,t169⟩:S39)]):=⟨_,rfl⟩
     replace H:(some (y172,0))=some (r1,r2):=by first|(rw [hy172];with_reducible exact H)|(have H2_:=(Option.bind_some _ _).symm.trans H;rw [hy172];with_reducible exact H2_)|(have H2_:=(Option.bind_some _ _).symm.trans H;with_reducible exact H2_)|with_reducible exact H|(rw [hy172];exact H)|exact H
     have Ny172:=Aside0.mk hy172
     clear hy172
     simp only [Option.some.injEq,Prod.mk.injEq] at H
     obtain ⟨rfl,rfl⟩:=H
     have hnb28:=NB158_159.out
     have hnc28:=NB159_158.out
     have hnb29:=NB158_160.out
     have hnc29:=NB160_158.out
     have hcz30_0:wc.cell? ⟨gb158,0,none⟩=some (.slice A0_0 l0_0.length c0_0):=(blk_cell BK158.out 0).trans rfl
     have hfz30_0:=blk_frozen BK158.out 0
     try go_wp2_with (first|((with_reducible refine gate_callee (f:=71) rfl ?_);refine goesL_ (some 33) rfl rfl Try.func71 (by kernel_rfl) rfl #[.agg #[.slice A0_0 l0_0.length c0_0]] rfl (by (try simp only [List.map_toArray,List.map_cons,List.map_nil]);first|done|rfl|(simp only [List.length_drop,List.length_take];rfl)) ?_;(with_reducible refine (spindleref20_Space_Copy.calls kj3 _ _ l0_0 t164 _ ?side1 ?side2 A25.out).mono ?_);(case side1=>repeat (first|exact (Kd.V_reads' HO_159000.out).2.2|(with_reducible refine Kd.C_alloc ?_ _)|(with_reducible refine Kd.C_drewN ?_ _)|(with_reducible refine Kd.C_drew ?_)));(case side2=>exact (Kd.V_reads' HO_159000.out).2.1);rintro e w31 ⟨v165,rfl,ho0,hb⟩;refine ⟨_,rfl,?_⟩;have n0_:=Aside0.mk (Kd.V_elder' (by (with_reducible repeat (first|apply Kd.V_alloc|apply Kd.V_drewN|apply Kd.V_drew));exact HO_159000.out) (Kd.S_base ho0) hb);have n1_:=Aside0.mk (Kd.S_lower (Kd.S_newB (Kd.S_newM (M:=fun k_=>(w.heap.size≤k_)) ho0 (below_size (by repeat (first|(with_reducible first|exact HB.out|apply below_alloc|apply pw_below_drewN|apply below_drew1|refine below_set ?_ GE158.out|refine below_set ?_ GE159.out|refine below_set ?_ GE160.out)|exact HB.out))) (fun k_ h_=>h_)) (g:=gb159) (o:=.cells #[.int .u64 a1_0,.slice A1_1 l1_1.length c1_1] 39 (0,0)) (by (with_reducible repeat (first|refine blk_drewN ?_ _|refine blk_drew ?_|refine blk_alloc ?_ _));exact BK159.out)) (below_size (by repeat (first|(with_reducible first|exact HB.out|apply below_alloc|apply pw_below_drewN|apply below_drew1|refine below_set ?_ GE158.out|refine below_set ?_ GE159.out|refine below_set ?_ GE160.out)|exact HB.out))));have n2_:=Aside0.mk (blk_below (g:=gb158) (o:=.cells #[.slice A0_0 l0_0.length c0_0] 78 (0,0)) (by (with_reducible repeat (first|refine blk_drewN ?_ _|refine blk_drew ?_|refine blk_alloc ?_ _));exact BK158.out) hb);have n3_:=Aside0.mk (blk_below (g:=gb159) (o:=.cells #[.int .u64 a1_0,.slice A1_1 l1_1.length c1_1] 39 (0,0)) (by (with_reducible repeat (first|refine blk_drewN ?_ _|refine blk_drew ?_|refine blk_alloc ?_ _));exact BK159.out) hb);have n4_:=Aside0.mk (blk_below (g:=gb160) (o:=.cells #[.slice none 0 0] 78 (0,0)) (by (with_reducible repeat (first|refine blk_drewN ?_ _|refine blk_drew ?_|refine blk_alloc ?_ _));exact BK160.out) hb);have n5_:=Aside0.mk (below_step (by repeat (first|(with_reducible first|exact HB.out|apply below_alloc|apply pw_below_drewN|apply below_drew1|refine below_set ?_ GE158.out|refine below_set ?_ GE159.out|refine below_set ?_ GE160.out)|exact HB.out)) hb);clear HO_159000;clear BK158;clear BK159;clear BK160;clear HB;have HO_159000:=n0_;have HO166:=n1_;have BK158:=n2_;have BK159:=n3_;have BK160:=n4_;have HB:=n5_;clear n0_ n1_ n2_ n3_ n4_ n5_;(try clear hb);(try clear hb2);(try clear hk);(try clear hi);(try clear ho0))|((with_reducible refine gate_dst (N:=8) rfl ?_);(try (refine gate_guard (by rfl) ?_;dsimp only));refine box_event ?hg (N:=8) ?hd (cs:=#[.slice none 0 0]) (t:=78) ?hr ?_;(case hd=>rfl);(case hg=>rfl);(case hr=>first|(go_simp;done)|(go_simp;rfl));intro gb167 hg w32 hbox hb;have n0_:=Aside0.mk (Kd.V_below (Kd.V_elderB (by (with_reducible repeat (first|apply Kd.V_alloc|apply Kd.V_drewN|apply Kd.V_drew));exact HO_159000.out) gb167 (Nat.le_of_eq hg.symm)) hb);have n1_:=Aside0.mk (Kd.S_below (by (with_reducible repeat (first|apply Kd.S_alloc|apply Kd.S_drewN|apply Kd.S_drew));exact HO166.out) hb);have n2_:=Aside0.mk (blk_below (g:=gb158) (o:=.cells #[.slice A0_0 l0_0.length c0_0] 78 (0,0)) (by (with_reducible repeat (first|refine blk_drewN ?_ _|refine blk_drew ?_|refine blk_alloc ?_ _));exact BK158.out) hb);have n3_:=Aside0.mk (blk_below (g:=gb159) (o:=.cells #[.int .u64 a1_0,.slice A1_1 l1_1.length c1_1] 39 (0,0)) (by (with_reducible repeat (first|refine blk_drewN ?_ _|refine blk_drew ?_|refine blk_alloc ?_ _));exact BK159.out) hb);have n4_:=Aside0.mk (blk_below (g:=gb160) (o:=.cells #[.slice none 0 0] 78 (0,0)) (by (with_reducible repeat (first|refine blk_drewN ?_ _|refine blk_drew ?_|refine blk_alloc ?_ _));exact BK160.out) hb);have n5_:=Aside0.mk (below_step (by repeat (first|(with_reducible first|exact HB.out|apply below_alloc|apply pw_below_drewN|apply below_drew1|refine below_set ?_ GE158.out|refine below_set ?_ GE159.out|refine below_set ?_ GE160.out)|exact HB.out)) hb);have n6_:=Aside0.mk (hbox);have n7_:=Aside0.mk ((by rw [hg];exact (below_size (by repeat (first|(with_reducible first|exact HB.out|apply below_alloc|apply pw_below_drewN|apply below_drew1|refine below_set ?_ GE158.out|refine below_set ?_ GE159.out|refine below_set ?_ GE160.out)|exact HB.out))):w.heap.size≤gb167));have n8_:=Aside0.mk ((by rw [hg];exact (below_size (by repeat (first|(with_reducible first|exact HB.out|apply below_alloc|apply pw_below_drewN|apply below_drew1|refine below_set ?_ GE158.out|refine below_set ?_ GE159.out|refine below_set ?_ GE160.out)|exact HB.out))):w.heap.size≤gb167));have n9_:=Aside0.mk ((by rw [hg];exact Nat.ne_of_lt (blk_lt (g:=gb158) (o:=.cells #[.slice A0_0 l0_0.length c0_0] 78 (0,0)) (by (with_reducible repeat (first|refine blk_drewN ?_ _|refine blk_drew ?_|refine blk_alloc ?_ _));exact BK158.out)):gb158≠gb167));have n10_:=Aside0.mk ((by rw [hg];exact Nat.ne_of_gt (blk_lt (g:=gb158) (o:=.cells #[.slice A0_0 l0_0.length c0_0] 78 (0,0)) (by (with_reducible repeat (first|refine blk_drewN ?_ _|refine blk_drew ?_|refine blk_alloc ?_ _));exact BK158.out)):gb167≠gb158));have n11_:=Aside0.mk ((by rw [hg];exact Nat.ne_of_lt (blk_lt (g:=gb159) (o:=.cells #[.int .u64 a1_0,.slice A1_1 l1_1.length c1_1] 39 (0,0)) (by (with_reducible repeat (first|refine blk_drewN ?_ _|refine blk_drew ?_|refine blk_alloc ?_ _));exact BK159.out)):gb159≠gb167));have n12_:=Aside0.mk ((by rw [hg];exact Nat.ne_of_gt (blk_lt (g:=gb159) (o:=.cells #[.int .u64 a1_0,.slice A1_1 l1_1.length c1_1] 39 (0,0)) (by (with_reducible repeat (first|refine blk_drewN ?_ _|refine blk_drew ?_|refine blk_alloc ?_ _));exact BK159.out)):gb167≠gb159));have n13_:=Aside0.mk ((by rw [hg];exact Nat.ne_of_lt (blk_lt (g:=gb160) (o:=.cells #[.slice none 0 0] 78 (0,0)) (by (with_reducible repeat (first|refine blk_drewN ?_ _|refine blk_drew ?_|refine blk_alloc ?_ _));exact BK160.out)):gb160≠gb167));have n14_:=Aside0.mk ((by rw [hg];exact Nat.ne_of_gt (blk_lt (g:=gb160) (o:=.cells #[.slice none 0 0] 78 (0,0)) (by (with_reducible repeat (first|refine blk_drewN ?_ _|refine blk_drew ?_|refine blk_alloc ?_ _));exact BK160.out)):gb167≠gb160));clear HO_159000;clear HO166;clear BK158;clear BK159;clear BK160;clear HB;have HO_159000:=n0_;have HO166:=n1_;have BK158:=n2_;have BK159:=n3_;have BK160:=n4_;have HB:=n5_;have BK167:=n6_;have GW167:=n7_;have GE167:=n8_;have NB158_167:=n9_;have NB167_158:=n10_;have NB159_167:=n11_;have NB167_159:=n12_;have NB160_167:=n13_;have NB167_160:=n14_;clear n0_ n1_ n2_ n3_ n4_ n5_ n6_ n7_ n8_ n9_ n10_ n11_ n12_ n13_ n14_;clear hb hbox hg;obtain ⟨Ao33,co33,eo33⟩:=Kd.S_slice HO166.out;subst eo33;have hnb34:=NB167_158.out;have hnc34:=NB158_167.out;have hnb35:=NB167_159.out;have hnc35:=NB159_167.out;have hnb36:=NB167_160.out;have hnc36:=NB160_167.out;have hcz37_0:w32.cell? ⟨gb167,0,none⟩=some (.slice none 0 0):=(blk_cell BK167.out 0).trans rfl;have hfz37_0:=blk_frozen BK167.out 0))
     have n0_:Aside0 (Kd.V k39 39 (w32.setCell ⟨gb167,0,none⟩ (.slice Ao33 t164.length co33)) w.heap.size (fun k_=>(P0_0_ k_∨w.heap.size≤k_)∧some k_≠(.slice Ao33 t164.length co33:Value).ownBlock∧k_≠gb158∧k_≠gb159∧k_≠gb160∧k_≠gb167) (.slice A0_0 l0_0.length c0_0) l0_0):=⟨by (with_reducible repeat (first|apply Kd.V_alloc|apply Kd.V_drewN|apply Kd.V_drew));exact Kd.V_mono (Kd.V_far (p:=⟨gb167,0,none⟩) (Kd.V_mono HO_159000.out (fun k_ hk=>(⟨hk,hk.2⟩:_∧k_≠gb167))) (fun _ hk=>hk.2) (.slice Ao33 t164.length co33)) (fun _ hk=>⟨hk.1.1.1.1,⟨hk.1.1.2,⟨hk.1.1.1.2.1,⟨hk.1.1.1.2.2.1,⟨hk.1.1.1.2.2.2,hk.1.2⟩⟩⟩⟩⟩)⟩
     have n1_:Aside0 (Kd.S k39 39 (w32.setCell ⟨gb167,0,none⟩ (.slice Ao33 t164.length co33)) w.heap.size (fun k_=>(w.heap.size≤k_)∧k_≠gb159) (.slice Ao33 t164.length co33) t164):=⟨by (with_reducible repeat (first|apply Kd.S_alloc|apply Kd.S_drewN|apply Kd.S_drew));exact Kd.S_mono (Kd.S_far (p:=⟨gb167,0,none⟩) (Kd.S_types HO166.out BK167.out (by decide)) (fun _ hk=>hk.2) (.slice Ao33 t164.length co33)) (fun _ hk=>⟨hk.1.1.1,hk.1.2⟩)⟩
     have n2_:Aside0 ((w32.setCell ⟨gb167,0,none⟩ (.slice Ao33 t164.length co33)).heap[gb158]?=some (.cells #[.slice A0_0 l0_0.length c0_0] 78 (0,0))):=⟨by (with_reducible repeat (first|refine blk_drewN ?_ _|refine blk_drew ?_|refine blk_alloc ?_ _));refine blk_far ?_ NB158_167.out _;(with_reducible repeat (first|refine blk_drewN ?_ _|refine blk_drew ?_|refine blk_alloc ?_ _));exact BK158.out⟩
     have n3_:Aside0 ((w32.setCell ⟨gb167,0,none⟩ (.slice Ao33 t164.length co33)).heap[gb159]?=some (.cells #[.int .u64 a1_0,.slice A1_1 l1_1.length c1_1] 39 (0,0))):=⟨by (with_reducible repeat (first|refine blk_drewN ?_ _|refine blk_drew ?_|refine blk_alloc ?_ _));refine blk_far ?_ NB159_167.out _;(with_reducible repeat (first|refine blk_drewN ?_ _|refine blk_drew ?_|refine blk_alloc ?_ _));exact BK159.out⟩
     have n4_:Aside0 ((w32.setCell ⟨gb167,0,none⟩ (.slice Ao33 t164.length co33)).heap[gb160]?=some (.cells #[.slice none 0 0] 78 (0,0))):=⟨by (with_reducible repeat (first|refine blk_drewN ?_ _|refine blk_drew ?_|refine blk_alloc ?_ _));refine blk_far ?_ NB160_167.out _;(with_reducible repeat (first|refine blk_drewN ?_ _|refine blk_drew ?_|refine blk_alloc ?_ _));exact BK160.out⟩
     have n5_:Aside0 ((w32.setCell ⟨gb167,0,none⟩ (.slice Ao33 t164.length co33)).heap[gb167]?=some (.cells #[.slice Ao33 t164.length co33] 78 (0,0))):=⟨by (with_reducible repeat (first|refine blk_drewN ?_ _|refine blk_drew ?_|refine blk_alloc ?_ _));refine blk_put (cs:=#[.slice none 0 0]) ?_ 0 _ rfl;(with_reducible repeat (first|refine blk_drewN ?_ _|refine blk_drew ?_|refine blk_alloc ?_ _));exact BK167.out⟩
     have n6_:Aside0 (Below w.heap.size w (w32.setCell ⟨gb167,0,none⟩ (.slice Ao33 t164.length co33))):=⟨by repeat (first|(with_reducible first|exact HB.out|apply below_alloc|apply pw_below_drewN|apply below_drew1|refine below_set ?_ GE158.out|refine below_set ?_ GE159.out|refine below_set ?_ GE160.out|refine below_set ?_ GE167.out)|exact HB.out)⟩
     (try clear HO_159000)
     (try clear HO166)
     (try clear BK158)
     (try clear BK159)
     (try clear BK160)
     (try clear BK167)
     (try clear HB)
     generalize (w32.setCell ⟨gb167,0,none⟩ (.slice Ao33 t164.length co33))=w38 at n0_ n1_ n2_ n3_ n4_ n5_ n6_ ⊢
     have HO_159000:=n0_
     have HO166:=n1_
     have BK158:=n2_
     have BK159:=n3_
     have BK160:=n4_
     have BK167:=n5_
     have HB:=n6_
     clear n0_ n1_ n2_ n3_ n4_ n5_ n6_
     have n0_:=Aside0.mk (Kd.V_drew HO_159000.out)
     have n1_:=Aside0.mk (Kd.S_drew HO166.out)
     have n2_:=Aside0.mk (blk_drew BK158.out)
     have n3_:=Aside0.mk (blk_drew BK159.out)
     have n4_:=Aside0.mk (blk_drew BK160.out)
     have n5_:=Aside0.mk (blk_drew BK167.out)
     have n6_:=Aside0.mk (below_drew1 HB.out)
     clear HO_159000 HO166 BK158 BK159 BK160 BK167 HB
     have HO_159000:=n0_
     have HO166:=n1_
     have BK158:=n2_
     have BK159:=n3_
     have BK160:=n4_
     have BK167:=n5_
     have HB:=n6_
     clear n0_ n1_ n2_ n3_ n4_ n5_ n6_
     refine start_ (n:=8) (S:=fun w'=>w'.cell? ⟨gb167,0,none⟩=some (.slice Ao33 t164.length co33)∧w'.cell? ⟨gb159,0,none⟩=some (.int .u64 a1_0)∧w'.cell? ⟨gb159,1,none⟩=some (.slice A1_1 l1_1.length c1_1)) (ds:=[7]) #[false,false,false,false,false,false,false,false] (by kernel_rfl) rfl rfl ⟨(blk_cell BK167.out 0).trans rfl,(blk_cell BK159.out 0).trans rfl,(blk_cell BK159.out 1).trans rfl⟩ (fun hHeld=>?_);refine with_tabW spindleref20_Space_Add.tab9 spindleref20_Space_Add.bits9 (fun HT_ HW_=>?_)
     generalize w38.drew=w39 at HO_159000 HO166 BK158 BK159 BK160 BK167 HB hHeld ⊢
     refine pure_ (i:=0) (N:=some 34) (v:=?_) (a':=?_) #[true,false,false,false,false,false,false,false] rfl rfl (any_of HT_.out (by kernel_rfl)) (fun _ _ _ h=>h) (Or.inl ⟨by rfl,?_⟩) ?_ ?_
     rotate_left
     ·intro w'
      go_simp
      with_reducible rfl
     rotate_left
     ·simp only [Act.put,List.setIfInBounds_toArray,List.set_cons_zero,List.set_cons_succ,i64_w,i32_w]
      rfl
     refine take_ (i:=1) (N:=some 35) (v:=?_) (a':=?_) #[true,true,false,false,false,false,false,false] rfl rfl (take_ofW HT_.out HW_.out (by kernel_rfl)) (fun _ _ _ h=>h) (Or.inl ⟨by rfl,?_⟩) hHeld ?_ ?_
     rotate_left
     ·rintro w' ⟨s0,s1,s2⟩
      go_simp
      with_reducible rfl
     rotate_left
     ·simp only [Act.put,List.setIfInBounds_toArray,List.set_cons_zero,List.set_cons_succ,i64_w,i32_w]
      rfl
     refine take_ (i:=2) (N:=some 36) (v:=?_) (a':=?_) #[true,true,true,false,false,false,false,false] rfl rfl (take_ofW HT_.out HW_.out (by kernel_rfl)) (fun _ _ _ h=>h) (Or.inl ⟨by rfl,?_⟩) hHeld ?_ ?_
     rotate_left
     ·rintro w' ⟨s0,s1,s2⟩
      go_simp
      with_reducible rfl
     rotate_left
     ·simp only [Act.put,List.setIfInBounds_toArray,List.set_cons_zero,List.set_cons_succ,i64_w,i32_w]
      rfl
     refine one_ (i:=3) (N:=some 37) #[true,true,true,true,false,false,false,false] rfl rfl (one_of HT_.out (by kernel_rfl)) (by decide) (fun K hK=>?_)
     refine goes_ Try.func72 (by kernel_rfl) rfl #[.agg #[.int .u64 a1_0,.slice A1_1 l1_1.length c1_1]] (by rfl) rfl rfl (by (try simp only [List.map_toArray,List.map_cons,List.map_nil]);first|done|rfl|(simp only [List.length_drop,List.length_take];rfl)) ?_
     with_reducible refine (spindleref20_copied.calls a1_0 _ _ l1_1 t168 t169 _ ?side1 ?side2 A26.out).mono ?_
     (case side1=>repeat (first|exact (Kd.C_below HR1_1.out HB.out)|(with_reducible refine Kd.C_alloc ?_ _)|(with_reducible refine Kd.C_drewN ?_ _)|(with_reducible refine Kd.C_drew ?_)))
     (case side2=>exact HC1_1.out)
     rintro e w40 ⟨v170,rfl,ho0,hb⟩
     refine ⟨_,rfl,?_⟩
     have n0_:=Aside0.mk (Kd.V_elder' (by (with_reducible repeat (first|apply Kd.V_alloc|apply Kd.V_drewN|apply Kd.V_drew));exact HO_159000.out) (Kd.R_base ho0) hb)
     have n1_:=Aside0.mk (Kd.S_elder' (by (with_reducible repeat (first|apply Kd.S_alloc|apply Kd.S_drewN|apply Kd.S_drew));exact HO166.out) (Kd.R_base ho0) hb)
     have n2_:=Aside0.mk (Kd.R_lower (Kd.R_newM (M:=fun k_=>(w.heap.size≤k_)) ho0 (below_size (by repeat (first|(with_reducible first|exact HB.out|apply below_alloc|apply pw_below_drewN|apply below_drew1|refine below_set ?_ GE158.out|refine below_set ?_ GE159.out|refine below_set ?_ GE160.out|refine below_set ?_ GE167.out)|exact HB.out))) (fun k_ h_=>h_)) (below_size (by repeat (first|(with_reducible first|exact HB.out|apply below_alloc|apply pw_below_drewN|apply below_drew1|refine below_set ?_ GE158.out|refine below_set ?_ GE159.out|refine below_set ?_ GE160.out|refine below_set ?_ GE167.out)|exact HB.out))))
     have n3_:=Aside0.mk (blk_below (g:=gb158) (o:=.cells #[.slice A0_0 l0_0.length c0_0] 78 (0,0)) (by (with_reducible repeat (first|refine blk_drewN ?_ _|refine blk_drew ?_|refine blk_alloc ?_ _));exact BK158.out) hb)
     have n4_:=Aside0.mk (blk_below (g:=gb159) (o:=.cells #[.int .u64 a1_0,.slice A1_1 l1_1.length c1_1] 39 (0,0)) (by (with_reducible repeat (first|refine blk_drewN ?_ _|refine blk_drew ?_|refine blk_alloc ?_ _));exact BK159.out) hb)
     have n5_:=Aside0.mk (blk_below (g:=gb160) (o:=.cells #[.slice none 0 0] 78 (0,0)) (by (with_reducible repeat (first|refine blk_drewN ?_ _|refine blk_drew ?_|refine blk_alloc ?_ _));exact BK160.out) hb)
     have n6_:=Aside0.mk (blk_below (g:=gb167) (o:=.cells #[.slice Ao33 t164.length co33] 78 (0,0)) (by (with_reducible repeat (first|refine blk_drewN ?_ _|refine blk_drew ?_|refine blk_alloc ?_ _));exact BK167.out) hb)
     have n7_:=Aside0.mk (below_step (by repeat (first|(with_reducible first|exact HB.out|apply below_alloc|apply pw_below_drewN|apply below_drew1|refine below_set ?_ GE158.out|refine below_set ?_ GE159.out|refine below_set ?_ GE160.out|refine below_set ?_ GE167.out)|exact HB.out)) hb)
     clear HO_159000 HO166 BK158 BK159 BK160 BK167 HB
     have HO_159000:=n0_
     have HO166:=n1_
     have HO171:=n2_
     have BK158:=n3_
     have BK159:=n4_
     have BK160:=n5_
     have BK167:=n6_
     have HB:=n7_
     clear n0_ n1_ n2_ n3_ n4_ n5_ n6_ n7_
     (try clear hb)
     (try clear hb2)
     (try clear hk)
     (try clear hi)
     (try clear ho0)
     obtain ⟨Ao42,co42,eo42⟩:=Kd.R_slice HO171.out
     (first|subst eo42|(injection eo42 with f1_ f2_ f3_;have f4_:=f1_.symm;have f5_:=f3_.symm;clear f1_ f2_ f3_;subst f4_;subst f5_))
     refine hK.out _ _ ⟨(blk_cell BK167.out 0).trans rfl,(blk_cell BK159.out 0).trans rfl,(blk_cell BK159.out 1).trans rfl⟩ (fun hHeld=>?_)
     clear hK K
     refine norm_ (a':=?_) ?_ ?_
     rotate_left
     ·show Act.put _ (some 37) _=_
      simp only [Act.put,List.setIfInBounds_toArray,List.set_cons_zero,List.set_cons_succ,i64_w,i32_w]
      rfl
     refine one_ (i:=4) (N:=some 38) #[true,true,true,true,true,false,false,false] rfl rfl (one_of HT_.out (by kernel_rfl)) (by decide) (fun K hK=>?_)
     refine value_ (w1:=?_) (v:=?_) (by rfl) rfl ?_ ?_
     rotate_left 2
     ·go_simp
      constructor
      ·rfl
      ·rfl
     refine hK.out _ _ ⟨(blk_cell (blk_alloc BK167.out _) 0).trans rfl,(blk_cell (blk_alloc BK159.out _) 0).trans rfl,(blk_cell (blk_alloc BK159.out _) 1).trans rfl⟩ (fun hHeld=>?_)
     clear hK K
     refine norm_ (a':=?_) ?_ ?_
     rotate_left
     ·show Act.put _ (some 38) _=_
      simp only [Act.put,List.setIfInBounds_toArray,List.set_cons_zero,List.set_cons_succ,i64_w,i32_w]
      rfl
     refine one_ (i:=5) (N:=some 39) #[true,true,true,true,true,true,false,false] rfl rfl (one_of HT_.out (by kernel_rfl)) (by decide) (fun K hK=>?_)
     refine Kd.S_append_step k39 (w0:=w) w.heap.size (by rfl) (.tmp 35) (.tmp 38) 22 39 (.agg #[(.int .u64 0),(.slice none 0 0)]) 32 rfl Try.underlying22 info39 rfl (by decide) (by omega) (.slice Ao33 t164.length co33) t164 (⟨t168,t169⟩:S39) [.int .u64 t168,.slice Ao42 t169.length co42] (fun k_=>(w.heap.size≤k_)∧k_≠gb159) (fun k_=>some k_=(.slice Ao42 t169.length co42:Value).ownBlock) rfl rfl ?aP (fun k_ hk_=>((Kd.R_mono (ok':=fun k_=>((fun k_=>(w.heap.size≤k_)∧k_≠gb159)) k_∧some k_≠(.slice Ao33 t164.length co33:Value).ownBlock) (Kd.R_types (Kd.R_apart' (HO171.out) (Kd.S_typed HO166.out) (by decide)) BK159.out (by decide)) (fun k_ hk=>⟨⟨hk.1.1.1,hk.2⟩,hk.1.2⟩))).1 k_ hk_.symm) ?aF ?aO ?aB ?aS ?aL ?_
     (case aP=>exact k39_mkM _ _ _ (⟨t168,t169⟩:S39) (Kd.R_mono (Kd.R_tight rfl (Kd.R_mono (ok':=fun k_=>((fun k_=>(w.heap.size≤k_)∧k_≠gb159)) k_∧some k_≠(.slice Ao33 t164.length co33:Value).ownBlock) (Kd.R_types (Kd.R_apart' (HO171.out) (Kd.S_typed HO166.out) (by decide)) BK159.out (by decide)) (fun k_ hk=>⟨⟨hk.1.1.1,hk.2⟩,hk.1.2⟩))) (fun _ h_=>h_)))
     (case aB=>exact (by repeat (first|(with_reducible first|exact HB.out|apply below_alloc|apply pw_below_drewN|apply below_drew1|refine below_set ?_ GE158.out|refine below_set ?_ GE159.out|refine below_set ?_ GE160.out|refine below_set ?_ GE167.out)|exact HB.out)))
     (case aF=>exact (fun k_ hk=>⟨(Nat.le_trans (below_size (by repeat (first|(with_reducible first|exact HB.out|apply below_alloc|apply pw_below_drewN|apply below_drew1|refine below_set ?_ GE158.out|refine below_set ?_ GE159.out|refine below_set ?_ GE160.out|refine below_set ?_ GE167.out)|exact HB.out))) hk),Kd.freshB (g:=gb159) (o:=.cells #[.int .u64 a1_0,.slice A1_1 l1_1.length c1_1] 39 (0,0)) (by (with_reducible repeat (first|refine blk_drewN ?_ _|refine blk_drew ?_|refine blk_alloc ?_ _));exact BK159.out) k_ hk⟩))
     (case aO=>exact (by (with_reducible repeat (first|apply Kd.S_alloc|apply Kd.S_drewN|apply Kd.S_drew));exact Kd.S_mono HO166.out (fun k_ hk=>⟨⟨hk.1.1,hk.1.2⟩,fun e_=>hk.2 e_⟩)))
     (case aS=>exact (below_size (by repeat (first|(with_reducible first|exact HB.out|apply below_alloc|apply pw_below_drewN|apply below_drew1|refine below_set ?_ GE158.out|refine below_set ?_ GE159.out|refine below_set ?_ GE160.out|refine below_set ?_ GE167.out)|exact HB.out))))
     (case aL=>have:=LMc27.out;omega)
     intro v173 w41 ho hb hg hat
     rw [← Ny172.out] at ho
     have n0_:=Aside0.mk (Kd.V_afterv (ok:=(fun k_=>(P0_0_ k_∨w.heap.size≤k_)∧some k_≠(.slice Ao42 t169.length co42:Value).ownBlock∧k_≠gb158∧k_≠gb159∧k_≠gb160∧k_≠gb167)) (by (with_reducible repeat (first|apply Kd.V_alloc|apply Kd.V_drewN|apply Kd.V_drew));exact Kd.V_mono HO_159000.out (fun _ hk=>⟨⟨hk.1.1,⟨hk.2,⟨hk.1.2.2.1,⟨hk.1.2.2.2.1,⟨hk.1.2.2.2.2.1,hk.1.2.2.2.2.2⟩⟩⟩⟩⟩,hk.1.2.1⟩)) hg hat)
     have n1_:=Aside0.mk (blk_grown (g:=gb158) (o:=.cells #[.slice A0_0 l0_0.length c0_0] 78 (0,0)) (by (with_reducible repeat (first|refine blk_drewN ?_ _|refine blk_drew ?_|refine blk_alloc ?_ _));exact BK158.out) hg (Kd.S_ne HO166.out BK158.out (by decide)))
     have n2_:=Aside0.mk (blk_grown (g:=gb159) (o:=.cells #[.int .u64 a1_0,.slice A1_1 l1_1.length c1_1] 39 (0,0)) (by (with_reducible repeat (first|refine blk_drewN ?_ _|refine blk_drew ?_|refine blk_alloc ?_ _));exact BK159.out) hg (Kd.S_away HO166.out (fun _ hk=>hk.1.2)))
     have n3_:=Aside0.mk (blk_grown (g:=gb160) (o:=.cells #[.slice none 0 0] 78 (0,0)) (by (with_reducible repeat (first|refine blk_drewN ?_ _|refine blk_drew ?_|refine blk_alloc ?_ _));exact BK160.out) hg (Kd.S_ne HO166.out BK160.out (by decide)))
     have n4_:=Aside0.mk (blk_grown (g:=gb167) (o:=.cells #[.slice Ao33 t164.length co33] 78 (0,0)) (by (with_reducible repeat (first|refine blk_drewN ?_ _|refine blk_drew ?_|refine blk_alloc ?_ _));exact BK167.out) hg (Kd.S_ne HO166.out BK167.out (by decide)))
     have n5_:=Aside0.mk (hb)
     have n6_:=Aside0.mk (ho)
     clear HO_159000 BK158 BK159 BK160 BK167 HB HO166 HO171
     have HO_159000:=n0_
     have BK158:=n1_
     have BK159:=n2_
     have BK160:=n3_
     have BK167:=n4_
     have HB:=n5_
     have HO174:=n6_
     clear n0_ n1_ n2_ n3_ n4_ n5_ n6_ ho hb hg hat
     obtain ⟨Ao43,co43,eo43⟩:=Kd.S_slice HO174.out
     (first|subst eo43|(injection eo43 with f1_ f2_ f3_;have f4_:=f1_.symm;have f5_:=f3_.symm;clear f1_ f2_ f3_;subst f4_;subst f5_))
     refine hK.out _ _ ⟨(blk_cell BK167.out 0).trans rfl,(blk_cell BK159.out 0).trans rfl,(blk_cell BK159.out 1).trans rfl⟩ (fun hHeld=>?_)
     clear hK K
     refine norm_ (a':=?_) ?_ ?_
     rotate_left
     ·show Act.put _ (some 39) _=_
      simp only [Act.put,List.setIfInBounds_toArray,List.set_cons_zero,List.set_cons_succ,i64_w,i32_w]
      rfl
     refine pure_ (i:=6) (N:=some 40) (v:=?_) (a':=?_) #[true,true,true,true,true,true,true,false] rfl rfl (any_of HT_.out (by kernel_rfl)) (fun _ _ _ h=>h) (Or.inl ⟨by rfl,?_⟩) ?_ ?_
     rotate_left
     ·intro w'
      go_simp
      with_reducible rfl
     rotate_left
     ·simp only [Act.put,List.setIfInBounds_toArray,List.set_cons_zero,List.set_cons_succ,i64_w,i32_w]
      rfl
     refine last_ (i:=7) (N:=none) #[true,true,true,true,true,true,true,true] rfl rfl (one_of HT_.out (by kernel_rfl)) (by decide) (fun K hK=>?_)
     have hs44:w41.cell? ⟨gb167,0,none⟩=some (.slice Ao33 t164.length co33):=(blk_cell BK167.out 0).trans rfl
     have hfs44:=blk_frozen BK167.out 0
     have hns44_0:=NB158_167.out
     have hns44_1:=NB159_167.out
     have hns44_2:=NB160_167.out
     have hms44_0:=NB167_158.out
     have hms44_1:=NB167_159.out
     have hms44_2:=NB167_160.out
     refine skip_ (w1:=?_) (by rfl) rfl ?_ ?_
     rotate_left
     ·go_simp
      rfl
     refine hK.out _ _ ?_
     clear hK K
     refine done_ (done_of HT_.out (by kernel_rfl)) ?_
     have hcz45_0:w41.cell? ⟨gb167,0,none⟩=some (.slice Ao33 t164.length co33):=(blk_cell BK167.out 0).trans rfl
     have hfz45_0:=blk_frozen BK167.out 0
     have hnb46:=NB160_159.out
     have hnc46:=NB159_160.out
     have hcz47_0:w41.cell? ⟨gb160,0,none⟩=some (.slice none 0 0):=(blk_cell BK160.out 0).trans rfl
     have hfz47_0:=blk_frozen BK160.out 0
     try go_wp2
     refine bodyPost_ret (results_ct rfl _ _ gb160 78 #[.slice Ao43 y172.length co43] (0,0) _ rfl (by (with_reducible repeat (first|refine blk_drewN ?_ _|refine blk_drew ?_|refine blk_alloc ?_ _));refine blk_put (cs:=#[.slice none 0 0]) ?_ 0 _ rfl;(with_reducible repeat (first|refine blk_drewN ?_ _|refine blk_drew ?_|refine blk_alloc ?_ _));refine blk_far ?_ NB160_167.out _;(with_reducible repeat (first|refine blk_drewN ?_ _|refine blk_drew ?_|refine blk_alloc ?_ _));exact BK160.out) Try.underlying78 rfl (by kernel_rfl)) rfl ?_
     exact ⟨_,by first|rfl|(simp [errW_none,errW_some] <;> rfl)|(simp [*,errW_none,errW_some] <;> rfl),Kd.V_mono (Kd.S_V (by (with_reducible repeat (first|apply Kd.S_alloc|apply Kd.S_drewN|apply Kd.S_drew));exact Kd.S_mono (Kd.S_far (p:=⟨gb160,0,none⟩) (Kd.S_far (p:=⟨gb167,0,none⟩) (Kd.S_types (Kd.S_types HO174.out BK167.out (by decide)) BK160.out (by decide)) (fun _ hk=>hk.1.2) (.slice Ao43 y172.length co43)) (fun _ hk=>hk.2) (.slice Ao43 y172.length co43)) (fun _ hk=>hk.1.1.1))) (fun k_ hk=>by first|exact ⟨(.inr (hk.1)),hk.2⟩|exact (.inr (hk))),by repeat (first|(with_reducible first|exact HB.out|apply below_alloc|apply pw_below_drewN|apply below_drew1|refine below_set ?_ GE158.out|refine below_set ?_ GE159.out|refine below_set ?_ GE160.out|refine below_set ?_ GE167.out)|exact HB.out)⟩
    ·rw [if_neg c27] at H
     exact absurd H (by simp)
   ·replace c24:=Bool.eq_false_iff.mpr c24
    subst c24
    have H1:(some (l0_0,201))=some (r1,r2):=by rw [if_neg (show ¬ (false=true) by decide)] at H;exact H
    clear H
    have H:=H1
    clear H1
    simp only [Option.some.injEq,Prod.mk.injEq] at H
    obtain ⟨rfl,rfl⟩:=H
    have hnb48:=NB158_159.out
    have hnc48:=NB159_158.out
    have hnb49:=NB158_160.out
    have hnc49:=NB160_158.out
    have hcz50_0:wc.cell? ⟨gb158,0,none⟩=some (.slice A0_0 l0_0.length c0_0):=(blk_cell BK158.out 0).trans rfl
    have hfz50_0:=blk_frozen BK158.out 0
    have hnb51:=NB160_159.out
    have hnc51:=NB159_160.out
    have hcz52_0:wc.cell? ⟨gb160,0,none⟩=some (.slice none 0 0):=(blk_cell BK160.out 0).trans rfl
    have hfz52_0:=blk_frozen BK160.out 0
    go_wp2
    refine bodyPost_ret (results_ct rfl _ _ gb160 78 #[.slice A0_0 l0_0.length c0_0] (0,0) _ rfl (by (with_reducible repeat (first|refine blk_drewN ?_ _|refine blk_drew ?_|refine blk_alloc ?_ _));refine blk_put (cs:=#[.slice none 0 0]) ?_ 0 _ rfl;(with_reducible repeat (first|refine blk_drewN ?_ _|refine blk_drew ?_|refine blk_alloc ?_ _));exact BK160.out) Try.underlying78 rfl (by kernel_rfl)) rfl ?_
    exact ⟨_,by first|rfl|(simp [errW_none,errW_some] <;> rfl)|(simp [*,errW_none,errW_some] <;> rfl),by (with_reducible repeat (first|apply Kd.V_alloc|apply Kd.V_drewN|apply Kd.V_drew));exact Kd.V_mono (Kd.V_far (p:=⟨gb160,0,none⟩) (Kd.V_mono HO_159000.out (fun k_ hk=>(⟨hk,hk.2.2.2⟩:_∧k_≠gb160))) (fun _ hk=>hk.2) (.slice A0_0 l0_0.length c0_0)) (fun _ hk=>hk.1.1),by repeat (first|(with_reducible first|exact HB.out|apply below_alloc|apply pw_below_drewN|apply below_drew1|refine below_set ?_ GE158.out|refine below_set ?_ GE159.out|refine below_set ?_ GE160.out)|exact HB.out)⟩
end Go.Proofs.Ythmeojeehemlaaa.PM
end
section
namespace Go.Proofs.Ythmeojeehemlaaa.PM
open Go.RowKit Go.Proofs.YthmeojeehemlaaaW.PrintWords Go.Proofs.YthmeojeehemlaaaW.PrintLast Go.Proofs.YthmeojeehemlaaaW.PrintMore
attribute [local go_sem] isSome_setCell max2_int min2_int max_two min_two max_three min_three max_four min_four
def spindleref20_New.l0:Nat→List (S39)→Int→List (S39)→Option ((List (S39)) × Int)
 | 0,_,_,_=>none
 | k+1,x0,x5,x177000=>if x5<(x0.length:Int) then (if 0≤x5 then ((spindleref20_Space_Add.f k x177000 ((rd_T39 x0 x5).f0) ((rd_T39 x0 x5).f1)).bind fun bt178=>(if bt178.2=0 then (spindleref20_New.l0 k x0 (wrap64 (x5+1)) bt178.1) else (some (([]:List (S39)),bt178.2)))) else (none)) else (some (x177000,0))
def spindleref20_New.f (k:Nat) (l0:List (S39)):Option ((List (S39)) × Int):=spindleref20_New.l0 k l0 0 ([]:List (S39))
def spindleref20_New.T5:Bool × List (List Nat × List Nat):=(true,[([],[]),([],[]),([],[]),([1,2],[1,2]),([3],[3]),([0,4],[0,4]),([5],[5]),([6],[6]),([6],[6]),([],[]),([9,7,5,0,1,2,3,4,5,6,7,9],[7,9]),([8,10,0,1,2,3,4,5,6,7,8,9,10],[8])])
def spindleref20_New.B5:List Nat:=[0,0,0,6,14,31,63,127,127,0,767,2047]
theorem spindleref20_New.tab5:rtab .any (opsOf Try.f34 5)=spindleref20_New.T5:=by kernel_rfl
theorem spindleref20_New.bits5:waitsOk spindleref20_New.T5.2 spindleref20_New.B5=true:=by kernel_rfl
theorem spindleref20_New.calls (k:Nat) (A0:Option Addr) (c0:Nat) (l0:List (S39)) (r1:List (S39)) (r2:Int) (w:World) (hr0:Kd.C k39 w A0 l0.length l0) (hc0:l0.length≤c0) (h:spindleref20_New.f k l0=some (r1,r2)) :
  Calls Try.prog 34 #[.slice A0 l0.length c0] w fun e w'=>∃ v0_:Value,e=.returned (.tuple #[.agg #[v0_],.int .i64 r2])∧Kd.V k39 39 w' w.heap.size (fun k_=>(w.heap.size≤k_)) v0_ r1∧Below w.heap.size w w':=by
 have hu78:=Try.underlying78
 have hu39:=Try.underlying39
 have HR0:=Aside0.mk hr0
 have HC0:=Aside0.mk hc0
 clear hr0 hc0
 have HB:=Aside0.mk (Below.refl w.heap.size w)
 have H:(spindleref20_New.l0 k l0 0 ([]:List (S39)))=some (r1,r2):=h
 clear h
 have H':=Aside0.mk H
 clear H
 go_enter Try.func34,Try.ntmps34
 go_wp2_with (first|((with_reducible refine gate_dst (N:=2) rfl ?_);refine box_event ?hg (N:=2) ?hd (cs:=#[.slice none 0 0]) (t:=78) ?hr ?_;(case hd=>rfl);(case hg=>rfl);(case hr=>first|(go_simp;done)|(go_simp;rfl));intro gb175 hg w2 hbox hb;have n0_:=Aside0.mk (below_step (by repeat (first|(with_reducible first|exact HB.out|apply below_alloc|apply pw_below_drewN|apply below_drew1)|exact HB.out)) hb);have n1_:=Aside0.mk (hbox);have n2_:=Aside0.mk ((by rw [hg];exact (below_size (by repeat (first|(with_reducible first|exact HB.out|apply below_alloc|apply pw_below_drewN|apply below_drew1)|exact HB.out))):w.heap.size≤gb175));have n3_:=Aside0.mk ((by rw [hg];exact (below_size (by repeat (first|(with_reducible first|exact HB.out|apply below_alloc|apply pw_below_drewN|apply below_drew1)|exact HB.out))):w.heap.size≤gb175));clear HB;have HB:=n0_;have BK175:=n1_;have GW175:=n2_;have GE175:=n3_;clear n0_ n1_ n2_ n3_;clear hb hbox hg)|((with_reducible refine gate_dst (N:=4) rfl ?_);refine box_event ?hg (N:=4) ?hd (cs:=#[.slice none 0 0]) (t:=78) ?hr ?_;(case hd=>rfl);(case hg=>rfl);(case hr=>first|(go_simp;done)|(go_simp;rfl));intro gb176 hg w3 hbox hb;have n0_:=Aside0.mk (blk_below (g:=gb175) (o:=.cells #[.slice none 0 0] 78 (0,0)) (by (with_reducible repeat (first|refine blk_drewN ?_ _|refine blk_drew ?_|refine blk_alloc ?_ _));exact BK175.out) hb);have n1_:=Aside0.mk (below_step (by repeat (first|(with_reducible first|exact HB.out|apply below_alloc|apply pw_below_drewN|apply below_drew1|refine below_set ?_ GE175.out)|exact HB.out)) hb);have n2_:=Aside0.mk (hbox);have n3_:=Aside0.mk ((by rw [hg];exact (below_size (by repeat (first|(with_reducible first|exact HB.out|apply below_alloc|apply pw_below_drewN|apply below_drew1|refine below_set ?_ GE175.out)|exact HB.out))):w.heap.size≤gb176));have n4_:=Aside0.mk ((by rw [hg];exact (below_size (by repeat (first|(with_reducible first|exact HB.out|apply below_alloc|apply pw_below_drewN|apply below_drew1|refine below_set ?_ GE175.out)|exact HB.out))):w.heap.size≤gb176));have n5_:=Aside0.mk ((by rw [hg];exact Nat.ne_of_lt (blk_lt (g:=gb175) (o:=.cells #[.slice none 0 0] 78 (0,0)) (by (with_reducible repeat (first|refine blk_drewN ?_ _|refine blk_drew ?_|refine blk_alloc ?_ _));exact BK175.out)):gb175≠gb176));have n6_:=Aside0.mk ((by rw [hg];exact Nat.ne_of_gt (blk_lt (g:=gb175) (o:=.cells #[.slice none 0 0] 78 (0,0)) (by (with_reducible repeat (first|refine blk_drewN ?_ _|refine blk_drew ?_|refine blk_alloc ?_ _));exact BK175.out)):gb176≠gb175));clear BK175;clear HB;have BK175:=n0_;have HB:=n1_;have BK176:=n2_;have GW176:=n3_;have GE176:=n4_;have NB175_176:=n5_;have NB176_175:=n6_;clear n0_ n1_ n2_ n3_ n4_ n5_ n6_;clear hb hbox hg))
 go_loopg [5] k (fun kq v5 w'=>∃ (x5_1:Int) (x177000_1:List (S39)) (u177000:Value),v5=.int .i64 x5_1∧Aside0 (spindleref20_New.l0 kq l0 x5_1 x177000_1=some (r1,r2))∧Aside0 (kq≤k)∧Aside0 (Kd.V k39 39 w' w.heap.size (fun k_=>(w.heap.size≤k_)∧k_≠gb175∧k_≠gb176) u177000 x177000_1)∧Aside0 (w'.heap[gb175]?=some (.cells #[(.slice none 0 0)] 78 (0,0)))∧Aside0 (w'.heap[gb176]?=some (.cells #[u177000] 78 (0,0)))∧Aside0 (Below w.heap.size w w'))
 case atStart=>exact ⟨(0),(([]:List (S39))),(.slice none 0 0),(by first|rfl|(simp;done)|(simp [*];done)),H',⟨Nat.le_refl _⟩,⟨Kd.S_V (Kd.S_nil _ _ _ w.heap.size _)⟩,⟨by (with_reducible repeat (first|refine blk_drewN ?_ _|refine blk_drew ?_|refine blk_alloc ?_ _));exact BK175.out⟩,⟨by (with_reducible repeat (first|refine blk_drewN ?_ _|refine blk_drew ?_|refine blk_alloc ?_ _));exact BK176.out⟩,⟨by repeat (first|(with_reducible first|exact HB.out|apply below_alloc|apply pw_below_drewN|apply below_drew1|refine below_set ?_ GE175.out|refine below_set ?_ GE176.out)|exact HB.out)⟩⟩
 case round =>
  clear H'
  try clear p2
  try clear c3
  obtain ⟨x5_1,x177000_1,u177000,rfl,HA,HK1,HO_177000,BK175,BK176,HB⟩:=hrel
  cases gk with
  | zero=>exact absurd HA.out (by simp [spindleref20_New.l0])
  | succ k1 =>
   have H:=HA.out
   clear HA
   simp only [spindleref20_New.l0] at H
   by_cases c4:x5_1<(l0.length:Int)
   ·rw [if_pos c4] at H
    have c4b0:decide (x5_1<(l0.length:Int))=true:=decide_eq_true c4
    clear c4
    by_cases c5:0≤x5_1
    ·rw [if_pos c5] at H
     have c5b0:decide (0≤x5_1)=true:=decide_eq_true c5
     clear c5
     replace H:=Option.bind_eq_some_iff.mp H
     obtain ⟨⟨t178,t181⟩,A60,H⟩:=H
     replace H:(if t181=0 then (spindleref20_New.l0 k1 l0 (wrap64 (x5_1+1)) t178) else (some (([]:List (S39)),t181)))=some (r1,r2):=H
     have A6:=Aside0.mk A60
     clear A60
     by_cases c7:t181=0
     ·rw [if_pos c7] at H
      have c7b0:(t181 == 0)=true:=beq_iff_eq.mpr c7
      have c7b1:(t181 != 0)=false:=bne_eq_false_iff_eq.mpr c7
      clear c7
      have H':=Aside0.mk H
      clear H
      obtain ⟨Ao8,co8,eo8⟩:=Kd.V_slice HO_177000.out
      subst eo8
      try go_wp2
      have n0_:=Aside0.mk (Kd.V_drew HO_177000.out)
      have n1_:=Aside0.mk (blk_drew BK175.out)
      have n2_:=Aside0.mk (blk_drew BK176.out)
      have n3_:=Aside0.mk (below_drew1 HB.out)
      clear HO_177000 BK175 BK176 HB
      have HO_177000:=n0_
      have BK175:=n1_
      have BK176:=n2_
      have HB:=n3_
      clear n0_ n1_ n2_ n3_
      have p177:0≤(x5_1:Int):=of_decide_eq_true (by first|(with_reducible assumption)|assumption)
      have q177:x5_1<(l0.length:Int):=of_decide_eq_true (by first|(with_reducible assumption)|assumption)
      obtain ⟨ad177,A177_1,c177_1,e177,hx177_0,hx177_1,hl177_1,hi177_1⟩:=at_T39 HR0.out x5_1 p177 q177
      have hw177_1:=hx177_1
      have hw177_0:=hx177_0
      cases e177
      replace hx177_0:=(HB.out.cell (World.block_lt_of_cell? w _ hx177_0)).trans hx177_0
      replace hx177_1:=(HB.out.cell (World.block_lt_of_cell? w _ hx177_1)).trans hx177_1
      have HR177_1:=Aside0.mk hi177_1
      have HC177_1:=Aside0.mk hl177_1
      clear hi177_1 hl177_1
      replace p177:=eq_true p177
      replace q177:=eq_true q177
      refine start_ (n:=12) (S:=fun w'=>w'.cell? ⟨gb176,0,none⟩=some (.slice Ao8 x177000_1.length co8)∧w'.cell? (ad177.add ((x5_1).toNat*2))=some (.int .u64 ((rd_T39 l0 x5_1).f0))∧w'.cell? ⟨(ad177.add ((x5_1).toNat*2)).block,(ad177.add ((x5_1).toNat*2)).off+1,none⟩=some (.slice A177_1 ((rd_T39 l0 x5_1).f1).length c177_1)) (ds:=[]) #[false,false,false,false,false,false,false,false,false,false,false,false] (by kernel_rfl) rfl rfl ⟨(blk_cell BK176.out 0).trans rfl,((HB.out.cell (World.block_lt_of_cell? w _ hw177_0)).trans hw177_0),((HB.out.cell (World.block_lt_of_cell? w _ hw177_1)).trans hw177_1)⟩ (fun hHeld=>?_);refine with_tabW spindleref20_New.tab5 spindleref20_New.bits5 (fun HT_ HW_=>?_)
      generalize wr.drew=w9 at HO_177000 BK175 BK176 HB HR177_1 hx177_0 hx177_1 hHeld ⊢
      refine pure_ (i:=1) (N:=some 16) (v:=?_) (a':=?_) #[false,true,false,false,false,false,false,false,false,false,false,false] rfl rfl (any_of HT_.out (by kernel_rfl)) (fun _ _ _ h=>h) (Or.inl ⟨by rfl,?_⟩) ?_ ?_
      rotate_left
      ·intro w'
       go_simp
       with_reducible rfl
      rotate_left
      ·simp only [Act.put,List.setIfInBounds_toArray,List.set_cons_zero,List.set_cons_succ,i64_w,i32_w]
       rfl
      refine pure_ (i:=2) (N:=some 17) (v:=?_) (a':=?_) #[false,true,true,false,false,false,false,false,false,false,false,false] rfl rfl (any_of HT_.out (by kernel_rfl)) (fun _ _ _ h=>h) (Or.inl ⟨by rfl,?_⟩) ?_ ?_
      rotate_left
      ·intro w'
       go_simp
       with_reducible rfl
      rotate_left
      ·simp only [Act.put,List.setIfInBounds_toArray,List.set_cons_zero,List.set_cons_succ,i64_w,i32_w]
       rfl
      refine pure_ (i:=3) (N:=some 18) (v:=?_) (a':=?_) #[false,true,true,true,false,false,false,false,false,false,false,false] rfl rfl (any_of HT_.out (by kernel_rfl)) (fun _ _ _ h=>h) (Or.inl ⟨by rfl,?_⟩) ?_ ?_
      rotate_left
      ·intro w'
       go_simp
       with_reducible rfl
      rotate_left
      ·simp only [Act.put,List.setIfInBounds_toArray,List.set_cons_zero,List.set_cons_succ,i64_w,i32_w]
       rfl
      refine take_ (i:=0) (N:=some 15) (v:=?_) (a':=?_) #[true,true,true,true,false,false,false,false,false,false,false,false] rfl rfl (take_ofW HT_.out HW_.out (by kernel_rfl)) (fun _ _ _ h=>h) (Or.inl ⟨by rfl,?_⟩) hHeld ?_ ?_
      rotate_left
      ·rintro w' ⟨s0,s1,s2⟩
       go_simp
       with_reducible rfl
      rotate_left
      ·simp only [Act.put,List.setIfInBounds_toArray,List.set_cons_zero,List.set_cons_succ,i64_w,i32_w]
       rfl
      refine take_ (i:=4) (N:=some 19) (v:=?_) (a':=?_) #[true,true,true,true,true,false,false,false,false,false,false,false] rfl rfl (take_ofW HT_.out HW_.out (by kernel_rfl)) (fun _ _ _ h=>h) (Or.inl ⟨by rfl,?_⟩) hHeld ?_ ?_
      rotate_left
      ·rintro w' ⟨s0,s1,s2⟩
       go_simp
       with_reducible rfl
      rotate_left
      ·simp only [Act.put,List.setIfInBounds_toArray,List.set_cons_zero,List.set_cons_succ,i64_w,i32_w]
       rfl
      refine join_ (σ:=Value × Nat) 2 #[true,true,true,true,true,true,true,true,true,true,false,false] (fun s_=>[(20,.tuple #[.agg #[s_.1],.int .i64 t181]),(6,.pointer (some ⟨s_.2,0,none⟩)),(14,.tuple #[.agg #[s_.1],.int .i64 t181]),(21,.agg #[s_.1]),(22,.int .i64 t181)]) (fun s_ w'=>(w'.cell? ⟨gb176,0,none⟩=some (.slice Ao8 x177000_1.length co8)∧w'.cell? (ad177.add ((x5_1).toNat*2))=some (.int .u64 ((rd_T39 l0 x5_1).f0))∧w'.cell? ⟨(ad177.add ((x5_1).toNat*2)).block,(ad177.add ((x5_1).toNat*2)).off+1,none⟩=some (.slice A177_1 ((rd_T39 l0 x5_1).f1).length c177_1))∧(Kd.V k39 39 w' w.heap.size (fun k_=>(w.heap.size≤k_)∧k_≠gb175∧k_≠gb176∧k_≠s_.2) s_.1 t178)∧(Kd.V k39 39 w' w.heap.size (fun k_=>(w.heap.size≤k_)∧k_≠gb175∧k_≠gb176∧k_≠s_.2) (.slice Ao8 x177000_1.length co8) x177000_1)∧(w'.heap[gb175]?=some (.cells #[.slice none 0 0] 78 (0,0)))∧(w'.heap[gb176]?=some (.cells #[.slice Ao8 x177000_1.length co8] 78 (0,0)))∧(w'.heap[s_.2]?=some (.cells #[.slice none 0 0] 78 (0,0)))∧(w.heap.size≤s_.2)∧(w.heap.size≤s_.2)∧(gb175≠s_.2)∧(s_.2≠gb175)∧(gb176≠s_.2)∧(s_.2≠gb176)∧(Below w.heap.size w w')) ?_ ?_
      rotate_left
      ·intro hCont
       refine two_ (i:=5) (j:=9) (Ni:=some 20) (Nj:=some 6) #[true,true,true,true,true,true,false,false,false,false,false,false] #[true,true,true,true,true,false,false,false,false,true,false,false] rfl rfl rfl rfl (two_of HT_.out (by kernel_rfl)) (by decide) (by decide) (fun K hK=>?_) (fun K hK=>?_)
       ·skip
        refine goes_ Try.func39 (by kernel_rfl) rfl #[.agg #[.slice Ao8 x177000_1.length co8],.agg #[.int .u64 ((rd_T39 l0 x5_1).f0),.slice A177_1 ((rd_T39 l0 x5_1).f1).length c177_1]] (by rfl) rfl rfl (by (try simp only [List.map_toArray,List.map_cons,List.map_nil]);first|done|rfl|(simp only [List.length_drop,List.length_take];rfl)) ?_
        with_reducible refine (spindleref20_Space_Add.calls k1 (fun k_=>((w.heap.size≤k_)∧(k_≠gb175∧k_≠gb176))) _ _ x177000_1 ((rd_T39 l0 x5_1).f0) _ _ ((rd_T39 l0 x5_1).f1) t178 t181 _ ?side1 ?side2 ?side3 A6.out).mono ?_
        (case side1=>exact HO_177000.out)
        (case side2=>repeat (first|exact (Kd.C_below HR177_1.out HB.out)|(with_reducible refine Kd.C_alloc ?_ _)|(with_reducible refine Kd.C_drewN ?_ _)|(with_reducible refine Kd.C_drew ?_)))
        (case side3=>exact HC177_1.out)
        rintro e w10 ⟨v179,rfl,ho0,hb⟩
        refine ⟨_,rfl,?_⟩
        have n0_:=Aside0.mk (Kd.V_below (by (with_reducible repeat (first|apply Kd.V_alloc|apply Kd.V_drewN|apply Kd.V_drew));exact HO_177000.out) hb)
        have n1_:=Aside0.mk (Kd.V_lower (Kd.V_mono (ok':=fun k_=>(w.heap.size≤k_)∧k_≠gb175∧k_≠gb176) ho0 (fun k_ hk_=>⟨Or.elim hk_ (fun hs_=>hs_.1) (fun hn_=>(Nat.le_trans (below_size (by repeat (first|(with_reducible first|exact HB.out|apply below_alloc|apply pw_below_drewN|apply below_drew1|refine below_set ?_ GE175.out|refine below_set ?_ GE176.out)|exact HB.out))) hn_)),Or.elim hk_ (fun hs_=>hs_.2.1) (fun hn_=>(Kd.freshB (g:=gb175) (o:=.cells #[.slice none 0 0] 78 (0,0)) (by (with_reducible repeat (first|refine blk_drewN ?_ _|refine blk_drew ?_|refine blk_alloc ?_ _));exact BK175.out) k_ hn_)),Or.elim hk_ (fun hs_=>hs_.2.2) (fun hn_=>(Kd.freshB (g:=gb176) (o:=.cells #[.slice Ao8 x177000_1.length co8] 78 (0,0)) (by (with_reducible repeat (first|refine blk_drewN ?_ _|refine blk_drew ?_|refine blk_alloc ?_ _));exact BK176.out) k_ hn_))⟩)) (below_size (by repeat (first|(with_reducible first|exact HB.out|apply below_alloc|apply pw_below_drewN|apply below_drew1|refine below_set ?_ GE175.out|refine below_set ?_ GE176.out)|exact HB.out))))
        have n2_:=Aside0.mk (blk_below (g:=gb175) (o:=.cells #[.slice none 0 0] 78 (0,0)) (by (with_reducible repeat (first|refine blk_drewN ?_ _|refine blk_drew ?_|refine blk_alloc ?_ _));exact BK175.out) hb)
        have n3_:=Aside0.mk (blk_below (g:=gb176) (o:=.cells #[.slice Ao8 x177000_1.length co8] 78 (0,0)) (by (with_reducible repeat (first|refine blk_drewN ?_ _|refine blk_drew ?_|refine blk_alloc ?_ _));exact BK176.out) hb)
        have n4_:=Aside0.mk (below_step (by repeat (first|(with_reducible first|exact HB.out|apply below_alloc|apply pw_below_drewN|apply below_drew1|refine below_set ?_ GE175.out|refine below_set ?_ GE176.out)|exact HB.out)) hb)
        clear HO_177000 BK175 BK176 HB
        have HO_177000:=n0_
        have HO180:=n1_
        have BK175:=n2_
        have BK176:=n3_
        have HB:=n4_
        clear n0_ n1_ n2_ n3_ n4_
        (try clear hb)
        (try clear hb2)
        (try clear hk)
        (try clear hi)
        (try clear ho0)
        refine hK.out _ _ ⟨(blk_cell BK176.out 0).trans rfl,((HB.out.cell (World.block_lt_of_cell? w _ hw177_0)).trans hw177_0),((HB.out.cell (World.block_lt_of_cell? w _ hw177_1)).trans hw177_1)⟩ (fun hHeld=>?_)
        clear hK K
        refine norm_ (a':=?_) ?_ ?_
        rotate_left
        ·show Act.put _ (some 20) _=_
         simp only [Act.put,List.setIfInBounds_toArray,List.set_cons_zero,List.set_cons_succ,i64_w,i32_w]
         rfl
        refine pure_ (i:=6) (N:=some 14) (v:=?_) (a':=?_) #[true,true,true,true,true,true,true,false,false,false,false,false] rfl rfl (any_of HT_.out (by kernel_rfl)) (fun _ _ _ h=>h) (Or.inl ⟨by rfl,?_⟩) ?_ ?_
        rotate_left
        ·intro w'
         go_simp
         with_reducible rfl
        rotate_left
        ·simp only [Act.put,List.setIfInBounds_toArray,List.set_cons_zero,List.set_cons_succ,i64_w,i32_w]
         rfl
        refine pure_ (i:=7) (N:=some 21) (v:=?_) (a':=?_) #[true,true,true,true,true,true,true,true,false,false,false,false] rfl rfl (any_of HT_.out (by kernel_rfl)) (fun _ _ _ h=>h) (Or.inl ⟨by rfl,?_⟩) ?_ ?_
        rotate_left
        ·intro w'
         go_simp
         with_reducible rfl
        rotate_left
        ·simp only [Act.put,List.setIfInBounds_toArray,List.set_cons_zero,List.set_cons_succ,i64_w,i32_w]
         rfl
        refine pure_ (i:=8) (N:=some 22) (v:=?_) (a':=?_) #[true,true,true,true,true,true,true,true,true,false,false,false] rfl rfl (any_of HT_.out (by kernel_rfl)) (fun _ _ _ h=>h) (Or.inl ⟨by rfl,?_⟩) ?_ ?_
        rotate_left
        ·intro w'
         go_simp
         with_reducible rfl
        rotate_left
        ·simp only [Act.put,List.setIfInBounds_toArray,List.set_cons_zero,List.set_cons_succ,i64_w,i32_w]
         rfl
        refine one_ (i:=9) (N:=some 6) #[true,true,true,true,true,true,true,true,true,true,false,false] rfl rfl (one_of HT_.out (by kernel_rfl)) (by decide) (fun K hK=>?_)
        refine box_step ?hg (N:=6) ?hd (cs:=#[.slice none 0 0]) (t:=78) ?hr ?_;(case hd=>rfl);(case hg=>rfl);(case hr=>first|(go_simp;done)|(go_simp;rfl))
        intro gb182 hg w11 hbox hb
        have n0_:=Aside0.mk (Kd.V_below (Kd.V_elderB (by (with_reducible repeat (first|apply Kd.V_alloc|apply Kd.V_drewN|apply Kd.V_drew));exact HO_177000.out) gb182 (Nat.le_of_eq hg.symm)) hb)
        have n1_:=Aside0.mk (Kd.V_below (Kd.V_elderB (by (with_reducible repeat (first|apply Kd.V_alloc|apply Kd.V_drewN|apply Kd.V_drew));exact HO180.out) gb182 (Nat.le_of_eq hg.symm)) hb)
        have n2_:=Aside0.mk (blk_below (g:=gb175) (o:=.cells #[.slice none 0 0] 78 (0,0)) (by (with_reducible repeat (first|refine blk_drewN ?_ _|refine blk_drew ?_|refine blk_alloc ?_ _));exact BK175.out) hb)
        have n3_:=Aside0.mk (blk_below (g:=gb176) (o:=.cells #[.slice Ao8 x177000_1.length co8] 78 (0,0)) (by (with_reducible repeat (first|refine blk_drewN ?_ _|refine blk_drew ?_|refine blk_alloc ?_ _));exact BK176.out) hb)
        have n4_:=Aside0.mk (below_step (by repeat (first|(with_reducible first|exact HB.out|apply below_alloc|apply pw_below_drewN|apply below_drew1|refine below_set ?_ GE175.out|refine below_set ?_ GE176.out)|exact HB.out)) hb)
        have n5_:=Aside0.mk (hbox)
        have n6_:=Aside0.mk ((by rw [hg];exact (below_size (by repeat (first|(with_reducible first|exact HB.out|apply below_alloc|apply pw_below_drewN|apply below_drew1|refine below_set ?_ GE175.out|refine below_set ?_ GE176.out)|exact HB.out))):w.heap.size≤gb182))
        have n7_:=Aside0.mk ((by rw [hg];exact (below_size (by repeat (first|(with_reducible first|exact HB.out|apply below_alloc|apply pw_below_drewN|apply below_drew1|refine below_set ?_ GE175.out|refine below_set ?_ GE176.out)|exact HB.out))):w.heap.size≤gb182))
        have n8_:=Aside0.mk ((by rw [hg];exact Nat.ne_of_lt (blk_lt (g:=gb175) (o:=.cells #[.slice none 0 0] 78 (0,0)) (by (with_reducible repeat (first|refine blk_drewN ?_ _|refine blk_drew ?_|refine blk_alloc ?_ _));exact BK175.out)):gb175≠gb182))
        have n9_:=Aside0.mk ((by rw [hg];exact Nat.ne_of_gt (blk_lt (g:=gb175) (o:=.cells #[.slice none 0 0] 78 (0,0)) (by (with_reducible repeat (first|refine blk_drewN ?_ _|refine blk_drew ?_|refine blk_alloc ?_ _));exact BK175.out)):gb182≠gb175))
        have n10_:=Aside0.mk ((by rw [hg];exact Nat.ne_of_lt (blk_lt (g:=gb176) (o:=.cells #[.slice Ao8 x177000_1.length co8] 78 (0,0)) (by (with_reducible repeat (first|refine blk_drewN ?_ _|refine blk_drew ?_|refine blk_alloc ?_ _));exact BK176.out)):gb176≠gb182))
        have n11_:=Aside0.mk ((by rw [hg];exact Nat.ne_of_gt (blk_lt (g:=gb176) (o:=.cells #[.slice Ao8 x177000_1.length co8] 78 (0,0)) (by (with_reducible repeat (first|refine blk_drewN ?_ _|refine blk_drew ?_|refine blk_alloc ?_ _));exact BK176.out)):gb182≠gb176))
        clear HO_177000 HO180 BK175 BK176 HB
        have HO_177000:=n0_
        have HO180:=n1_
        have BK175:=n2_
        have BK176:=n3_
        have HB:=n4_
        have BK182:=n5_
        have GW182:=n6_
        have GE182:=n7_
        have NB175_182:=n8_
        have NB182_175:=n9_
        have NB176_182:=n10_
        have NB182_176:=n11_
        clear n0_ n1_ n2_ n3_ n4_ n5_ n6_ n7_ n8_ n9_ n10_ n11_ hb hbox hg
        refine hK.out _ _ ⟨(blk_cell BK176.out 0).trans rfl,((HB.out.cell (World.block_lt_of_cell? w _ hw177_0)).trans hw177_0),((HB.out.cell (World.block_lt_of_cell? w _ hw177_1)).trans hw177_1)⟩ (fun hHeld=>?_)
        clear hK K
        refine norm_ (a':=?_) ?_ ?_
        rotate_left
        ·show Act.put _ (some 6) _=_
         simp only [Act.put,List.setIfInBounds_toArray,List.set_cons_zero,List.set_cons_succ,i64_w,i32_w]
         rfl
        exact norm_ (by simp only [putAll,Act.put,List.setIfInBounds_toArray,List.set_cons_zero,List.set_cons_succ]) (hCont (v179,gb182) _ ⟨hHeld,(by (with_reducible repeat (first|apply Kd.V_alloc|apply Kd.V_drewN|apply Kd.V_drew));exact Kd.V_mono HO180.out (fun _ hk=>⟨hk.1.1,⟨hk.1.2.1,⟨hk.1.2.2,hk.2⟩⟩⟩)),(by (with_reducible repeat (first|apply Kd.V_alloc|apply Kd.V_drewN|apply Kd.V_drew));exact Kd.V_mono HO_177000.out (fun _ hk=>⟨hk.1.1,⟨hk.1.2.1,⟨hk.1.2.2,hk.2⟩⟩⟩)),(by (with_reducible repeat (first|refine blk_drewN ?_ _|refine blk_drew ?_|refine blk_alloc ?_ _));exact BK175.out),(by (with_reducible repeat (first|refine blk_drewN ?_ _|refine blk_drew ?_|refine blk_alloc ?_ _));exact BK176.out),(by (with_reducible repeat (first|refine blk_drewN ?_ _|refine blk_drew ?_|refine blk_alloc ?_ _));exact BK182.out),GW182.out,GE182.out,NB175_182.out,NB182_175.out,NB176_182.out,NB182_176.out,(by repeat (first|(with_reducible first|exact HB.out|apply below_alloc|apply pw_below_drewN|apply below_drew1|refine below_set ?_ GE175.out|refine below_set ?_ GE176.out|refine below_set ?_ GE182.out)|exact HB.out))⟩)
       ·skip
        refine box_step ?hg (N:=6) ?hd (cs:=#[.slice none 0 0]) (t:=78) ?hr ?_;(case hd=>rfl);(case hg=>rfl);(case hr=>first|(go_simp;done)|(go_simp;rfl))
        intro gb182 hg w10 hbox hb
        have n0_:=Aside0.mk (Kd.V_below (Kd.V_elderB (by (with_reducible repeat (first|apply Kd.V_alloc|apply Kd.V_drewN|apply Kd.V_drew));exact HO_177000.out) gb182 (Nat.le_of_eq hg.symm)) hb)
        have n1_:=Aside0.mk (blk_below (g:=gb175) (o:=.cells #[.slice none 0 0] 78 (0,0)) (by (with_reducible repeat (first|refine blk_drewN ?_ _|refine blk_drew ?_|refine blk_alloc ?_ _));exact BK175.out) hb)
        have n2_:=Aside0.mk (blk_below (g:=gb176) (o:=.cells #[.slice Ao8 x177000_1.length co8] 78 (0,0)) (by (with_reducible repeat (first|refine blk_drewN ?_ _|refine blk_drew ?_|refine blk_alloc ?_ _));exact BK176.out) hb)
        have n3_:=Aside0.mk (below_step (by repeat (first|(with_reducible first|exact HB.out|apply below_alloc|apply pw_below_drewN|apply below_drew1|refine below_set ?_ GE175.out|refine below_set ?_ GE176.out)|exact HB.out)) hb)
        have n4_:=Aside0.mk (hbox)
        have n5_:=Aside0.mk ((by rw [hg];exact (below_size (by repeat (first|(with_reducible first|exact HB.out|apply below_alloc|apply pw_below_drewN|apply below_drew1|refine below_set ?_ GE175.out|refine below_set ?_ GE176.out)|exact HB.out))):w.heap.size≤gb182))
        have n6_:=Aside0.mk ((by rw [hg];exact (below_size (by repeat (first|(with_reducible first|exact HB.out|apply below_alloc|apply pw_below_drewN|apply below_drew1|refine below_set ?_ GE175.out|refine below_set ?_ GE176.out)|exact HB.out))):w.heap.size≤gb182))
        have n7_:=Aside0.mk ((by rw [hg];exact Nat.ne_of_lt (blk_lt (g:=gb175) (o:=.cells #[.slice none 0 0] 78 (0,0)) (by (with_reducible repeat (first|refine blk_drewN ?_ _|refine blk_drew ?_|refine blk_alloc ?_ _));exact BK175.out)):gb175≠gb182))
        have n8_:=Aside0.mk ((by rw [hg];exact Nat.ne_of_gt (blk_lt (g:=gb175) (o:=.cells #[.slice none 0 0] 78 (0,0)) (by (with_reducible repeat (first|refine blk_drewN ?_ _|refine blk_drew ?_|refine blk_alloc ?_ _));exact BK175.out)):gb182≠gb175))
        have n9_:=Aside0.mk ((by rw [hg];exact Nat.ne_of_lt (blk_lt (g:=gb176) (o:=.cells #[.slice Ao8 x177000_1.length co8] 78 (0,0)) (by (with_reducible repeat (first|refine blk_drewN ?_ _|refine blk_drew ?_|refine blk_alloc ?_ _));exact BK176.out)):gb176≠gb182))
        have n10_:=Aside0.mk ((by rw [hg];exact Nat.ne_of_gt (blk_lt (g:=gb176) (o:=.cells #[.slice Ao8 x177000_1.length co8] 78 (0,0)) (by (with_reducible repeat (first|refine blk_drewN ?_ _|refine blk_drew ?_|refine blk_alloc ?_ _));exact BK176.out)):gb182≠gb176))
        clear HO_177000 BK175 BK176 HB
        have HO_177000:=n0_
        have BK175:=n1_
        have BK176:=n2_
        have HB:=n3_
        have BK182:=n4_
        have GW182:=n5_
        have GE182:=n6_
        have NB175_182:=n7_
        have NB182_175:=n8_
        have NB176_182:=n9_
        have NB182_176:=n10_
        clear n0_ n1_ n2_ n3_ n4_ n5_ n6_ n7_ n8_ n9_ n10_ hb hbox hg
        refine hK.out _ _ ⟨(blk_cell BK176.out 0).trans rfl,((HB.out.cell (World.block_lt_of_cell? w _ hw177_0)).trans hw177_0),((HB.out.cell (World.block_lt_of_cell? w _ hw177_1)).trans hw177_1)⟩ (fun hHeld=>?_)
        clear hK K
        refine norm_ (a':=?_) ?_ ?_
        rotate_left
        ·show Act.put _ (some 6) _=_
         simp only [Act.put,List.setIfInBounds_toArray,List.set_cons_zero,List.set_cons_succ,i64_w,i32_w]
         rfl
        refine one_ (i:=5) (N:=some 20) #[true,true,true,true,true,true,false,false,false,true,false,false] rfl rfl (one_of HT_.out (by kernel_rfl)) (by decide) (fun K hK=>?_)
        refine goes_ Try.func39 (by kernel_rfl) rfl #[.agg #[.slice Ao8 x177000_1.length co8],.agg #[.int .u64 ((rd_T39 l0 x5_1).f0),.slice A177_1 ((rd_T39 l0 x5_1).f1).length c177_1]] (by rfl) rfl rfl (by (try simp only [List.map_toArray,List.map_cons,List.map_nil]);first|done|rfl|(simp only [List.length_drop,List.length_take];rfl)) ?_
        with_reducible refine (spindleref20_Space_Add.calls k1 (fun k_=>(((w.heap.size≤k_)∧(k_≠gb175∧k_≠gb176))∧k_≠gb182)) _ _ x177000_1 ((rd_T39 l0 x5_1).f0) _ _ ((rd_T39 l0 x5_1).f1) t178 t181 _ ?side1 ?side2 ?side3 A6.out).mono ?_
        (case side1=>exact HO_177000.out)
        (case side2=>repeat (first|exact (Kd.C_below HR177_1.out HB.out)|(with_reducible refine Kd.C_alloc ?_ _)|(with_reducible refine Kd.C_drewN ?_ _)|(with_reducible refine Kd.C_drew ?_)))
        (case side3=>exact HC177_1.out)
        rintro e w11 ⟨v179,rfl,ho0,hb⟩
        refine ⟨_,rfl,?_⟩
        have n0_:=Aside0.mk (Kd.V_below (by (with_reducible repeat (first|apply Kd.V_alloc|apply Kd.V_drewN|apply Kd.V_drew));exact HO_177000.out) hb)
        have n1_:=Aside0.mk (Kd.V_lower (Kd.V_mono (ok':=fun k_=>(w.heap.size≤k_)∧k_≠gb175∧k_≠gb176∧k_≠gb182) ho0 (fun k_ hk_=>⟨Or.elim hk_ (fun hs_=>hs_.1.1) (fun hn_=>(Nat.le_trans (below_size (by repeat (first|(with_reducible first|exact HB.out|apply below_alloc|apply pw_below_drewN|apply below_drew1|refine below_set ?_ GE175.out|refine below_set ?_ GE176.out|refine below_set ?_ GE182.out)|exact HB.out))) hn_)),Or.elim hk_ (fun hs_=>hs_.1.2.1) (fun hn_=>(Kd.freshB (g:=gb175) (o:=.cells #[.slice none 0 0] 78 (0,0)) (by (with_reducible repeat (first|refine blk_drewN ?_ _|refine blk_drew ?_|refine blk_alloc ?_ _));exact BK175.out) k_ hn_)),Or.elim hk_ (fun hs_=>hs_.1.2.2) (fun hn_=>(Kd.freshB (g:=gb176) (o:=.cells #[.slice Ao8 x177000_1.length co8] 78 (0,0)) (by (with_reducible repeat (first|refine blk_drewN ?_ _|refine blk_drew ?_|refine blk_alloc ?_ _));exact BK176.out) k_ hn_)),Or.elim hk_ (fun hs_=>hs_.2) (fun hn_=>(Kd.freshB (g:=gb182) (o:=.cells #[.slice none 0 0] 78 (0,0)) (by (with_reducible repeat (first|refine blk_drewN ?_ _|refine blk_drew ?_|refine blk_alloc ?_ _));exact BK182.out) k_ hn_))⟩)) (below_size (by repeat (first|(with_reducible first|exact HB.out|apply below_alloc|apply pw_below_drewN|apply below_drew1|refine below_set ?_ GE175.out|refine below_set ?_ GE176.out|refine below_set ?_ GE182.out)|exact HB.out))))
        have n2_:=Aside0.mk (blk_below (g:=gb175) (o:=.cells #[.slice none 0 0] 78 (0,0)) (by (with_reducible repeat (first|refine blk_drewN ?_ _|refine blk_drew ?_|refine blk_alloc ?_ _));exact BK175.out) hb)
        have n3_:=Aside0.mk (blk_below (g:=gb176) (o:=.cells #[.slice Ao8 x177000_1.length co8] 78 (0,0)) (by (with_reducible repeat (first|refine blk_drewN ?_ _|refine blk_drew ?_|refine blk_alloc ?_ _));exact BK176.out) hb)
        have n4_:=Aside0.mk (blk_below (g:=gb182) (o:=.cells #[.slice none 0 0] 78 (0,0)) (by (with_reducible repeat (first|refine blk_drewN ?_ _|refine blk_drew ?_|refine blk_alloc ?_ _));exact BK182.out) hb)
        have n5_:=Aside0.mk (below_step (by repeat (first|(with_reducible first|exact HB.out|apply below_alloc|apply pw_below_drewN|apply below_drew1|refine below_set ?_ GE175.out|refine below_set ?_ GE176.out|refine below_set ?_ GE182.out)|exact HB.out)) hb)
        clear HO_177000 BK175 BK176 BK182 HB
        have HO_177000:=n0_
        have HO180:=n1_
        have BK175:=n2_
        have BK176:=n3_
        have BK182:=n4_
        have HB:=n5_
        clear n0_ n1_ n2_ n3_ n4_ n5_
        (try clear hb)
        (try clear hb2)
        (try clear hk)
        (try clear hi)
        (try clear ho0)
        refine hK.out _ _ ⟨(blk_cell BK176.out 0).trans rfl,((HB.out.cell (World.block_lt_of_cell? w _ hw177_0)).trans hw177_0),((HB.out.cell (World.block_lt_of_cell? w _ hw177_1)).trans hw177_1)⟩ (fun hHeld=>?_)
        clear hK K
        refine norm_ (a':=?_) ?_ ?_
        rotate_left
        ·show Act.put _ (some 20) _=_
         simp only [Act.put,List.setIfInBounds_toArray,List.set_cons_zero,List.set_cons_succ,i64_w,i32_w]
         rfl
        refine pure_ (i:=6) (N:=some 14) (v:=?_) (a':=?_) #[true,true,true,true,true,true,true,false,false,true,false,false] rfl rfl (any_of HT_.out (by kernel_rfl)) (fun _ _ _ h=>h) (Or.inl ⟨by rfl,?_⟩) ?_ ?_
        rotate_left
        ·intro w'
         go_simp
         with_reducible rfl
        rotate_left
        ·simp only [Act.put,List.setIfInBounds_toArray,List.set_cons_zero,List.set_cons_succ,i64_w,i32_w]
         rfl
        refine pure_ (i:=7) (N:=some 21) (v:=?_) (a':=?_) #[true,true,true,true,true,true,true,true,false,true,false,false] rfl rfl (any_of HT_.out (by kernel_rfl)) (fun _ _ _ h=>h) (Or.inl ⟨by rfl,?_⟩) ?_ ?_
        rotate_left
        ·intro w'
         go_simp
         with_reducible rfl
        rotate_left
        ·simp only [Act.put,List.setIfInBounds_toArray,List.set_cons_zero,List.set_cons_succ,i64_w,i32_w]
         rfl
        refine pure_ (i:=8) (N:=some 22) (v:=?_) (a':=?_) #[true,true,true,true,true,true,true,true,true,true,false,false] rfl rfl (any_of HT_.out (by kernel_rfl)) (fun _ _ _ h=>h) (Or.inl ⟨by rfl,?_⟩) ?_ ?_
        rotate_left
        ·intro w'
         go_simp
         with_reducible rfl
        rotate_left
        ·simp only [Act.put,List.setIfInBounds_toArray,List.set_cons_zero,List.set_cons_succ,i64_w,i32_w]
         rfl
        exact norm_ (by simp only [putAll,Act.put,List.setIfInBounds_toArray,List.set_cons_zero,List.set_cons_succ]) (hCont (v179,gb182) _ ⟨hHeld,(by (with_reducible repeat (first|apply Kd.V_alloc|apply Kd.V_drewN|apply Kd.V_drew));exact HO180.out),(by (with_reducible repeat (first|apply Kd.V_alloc|apply Kd.V_drewN|apply Kd.V_drew));exact Kd.V_mono HO_177000.out (fun _ hk=>⟨hk.1.1,⟨hk.1.2.1,⟨hk.1.2.2,hk.2⟩⟩⟩)),(by (with_reducible repeat (first|refine blk_drewN ?_ _|refine blk_drew ?_|refine blk_alloc ?_ _));exact BK175.out),(by (with_reducible repeat (first|refine blk_drewN ?_ _|refine blk_drew ?_|refine blk_alloc ?_ _));exact BK176.out),(by (with_reducible repeat (first|refine blk_drewN ?_ _|refine blk_drew ?_|refine blk_alloc ?_ _));exact BK182.out),GW182.out,GE182.out,NB175_182.out,NB182_175.out,NB176_182.out,NB182_176.out,(by repeat (first|(with_reducible first|exact HB.out|apply below_alloc|apply pw_below_drewN|apply below_drew1|refine below_set ?_ GE175.out|refine below_set ?_ GE176.out|refine below_set ?_ GE182.out)|exact HB.out))⟩)
      rintro ⟨v179,gb182⟩ w12 ⟨hS_,h0_,h1_,h2_,h3_,h4_,h5_,h6_,h7_,h8_,h9_,h10_,h11_⟩
      have n0_:Aside0 (Kd.V k39 39 w12 w.heap.size (fun k_=>(w.heap.size≤k_)∧k_≠gb175∧k_≠gb176∧k_≠gb182) v179 t178):=⟨h0_⟩
      have n1_:Aside0 (Kd.V k39 39 w12 w.heap.size (fun k_=>(w.heap.size≤k_)∧k_≠gb175∧k_≠gb176∧k_≠gb182) (.slice Ao8 x177000_1.length co8) x177000_1):=⟨h1_⟩
      have n2_:Aside0 (w12.heap[gb175]?=some (.cells #[.slice none 0 0] 78 (0,0))):=⟨h2_⟩
      have n3_:Aside0 (w12.heap[gb176]?=some (.cells #[.slice Ao8 x177000_1.length co8] 78 (0,0))):=⟨h3_⟩
      have n4_:Aside0 (w12.heap[gb182]?=some (.cells #[.slice none 0 0] 78 (0,0))):=⟨h4_⟩
      have n5_:Aside0 (w.heap.size≤gb182):=⟨h5_⟩
      have n6_:Aside0 (w.heap.size≤gb182):=⟨h6_⟩
      have n7_:Aside0 (gb175≠gb182):=⟨h7_⟩
      have n8_:Aside0 (gb182≠gb175):=⟨h8_⟩
      have n9_:Aside0 (gb176≠gb182):=⟨h9_⟩
      have n10_:Aside0 (gb182≠gb176):=⟨h10_⟩
      have n11_:Aside0 (Below w.heap.size w w12):=⟨h11_⟩
      clear HO_177000 BK175 BK176 HB h0_ h1_ h2_ h3_ h4_ h5_ h6_ h7_ h8_ h9_ h10_ h11_
      have HO180:=n0_
      have HO_177000:=n1_
      have BK175:=n2_
      have BK176:=n3_
      have BK182:=n4_
      have GW182:=n5_
      have GE182:=n6_
      have NB175_182:=n7_
      have NB182_175:=n8_
      have NB176_182:=n9_
      have NB182_176:=n10_
      have HB:=n11_
      clear n0_ n1_ n2_ n3_ n4_ n5_ n6_ n7_ n8_ n9_ n10_ n11_
      have hHeld:w12.cell? ⟨gb176,0,none⟩=some (.slice Ao8 x177000_1.length co8)∧w12.cell? (ad177.add ((x5_1).toNat*2))=some (.int .u64 ((rd_T39 l0 x5_1).f0))∧w12.cell? ⟨(ad177.add ((x5_1).toNat*2)).block,(ad177.add ((x5_1).toNat*2)).off+1,none⟩=some (.slice A177_1 ((rd_T39 l0 x5_1).f1).length c177_1):=hS_
      obtain ⟨Ao13,co13,eo13⟩:=Kd.V_slice HO180.out
      (first|subst eo13|(injection eo13 with f1_ f2_ f3_;have f4_:=f1_.symm;have f5_:=f3_.symm;clear f1_ f2_ f3_;subst f4_;subst f5_))
      refine norm_ (a':=?_) ?_ ?_
      rotate_left
      ·simp only [putAll,Act.put,List.setIfInBounds_toArray,List.set_cons_zero,List.set_cons_succ]
       rfl
      refine one_ (i:=10) (N:=none) #[true,true,true,true,true,true,true,true,true,true,true,false] rfl rfl (one_of HT_.out (by kernel_rfl)) (by decide) (fun K hK=>?_)
      have hs14:w12.cell? ⟨gb182,0,none⟩=some (.slice none 0 0):=(blk_cell BK182.out 0).trans rfl
      have hfs14:=blk_frozen BK182.out 0
      have hns14_0:=NB175_182.out
      have hns14_1:=NB176_182.out
      have hms14_0:=NB182_175.out
      have hms14_1:=NB182_176.out
      refine skip_ (w1:=?_) (by rfl) rfl ?_ ?_
      rotate_left
      ·go_simp
       rfl
      refine hK.out _ _ ⟨((cell_far (p:=⟨gb182,_,none⟩) NB176_182.out _).trans (hHeld.1)),((cell_far (p:=⟨gb182,_,none⟩) (by first|exact Nat.ne_of_lt (Nat.lt_of_lt_of_le (by have:=World.block_lt_of_cell? _ _ hw177_0;first|rwa [add_block] at this|exact this) GW182.out)|(rw [add_block];exact Nat.ne_of_lt (Nat.lt_of_lt_of_le (by have:=World.block_lt_of_cell? _ _ hw177_0;first|rwa [add_block] at this|exact this) GW182.out))|(show (Addr.add _ _).block≠_;rw [add_block];exact Nat.ne_of_lt (Nat.lt_of_lt_of_le (by have:=World.block_lt_of_cell? _ _ hw177_0;first|rwa [add_block] at this|exact this) GW182.out))|(dsimp only;exact Nat.ne_of_lt (Nat.lt_of_lt_of_le (by have:=World.block_lt_of_cell? _ _ hw177_0;first|rwa [add_block] at this|exact this) GW182.out))) _).trans (hHeld.2.1)),((cell_far (p:=⟨gb182,_,none⟩) (by first|exact Nat.ne_of_lt (Nat.lt_of_lt_of_le (by have:=World.block_lt_of_cell? _ _ hw177_1;first|rwa [add_block] at this|exact this) GW182.out)|(rw [add_block];exact Nat.ne_of_lt (Nat.lt_of_lt_of_le (by have:=World.block_lt_of_cell? _ _ hw177_1;first|rwa [add_block] at this|exact this) GW182.out))|(show (Addr.add _ _).block≠_;rw [add_block];exact Nat.ne_of_lt (Nat.lt_of_lt_of_le (by have:=World.block_lt_of_cell? _ _ hw177_1;first|rwa [add_block] at this|exact this) GW182.out))|(dsimp only;exact Nat.ne_of_lt (Nat.lt_of_lt_of_le (by have:=World.block_lt_of_cell? _ _ hw177_1;first|rwa [add_block] at this|exact this) GW182.out))) _).trans (hHeld.2.2))⟩ (fun hHeld=>?_)
      clear hK K
      refine pure_ (i:=11) (N:=some 7) (v:=?_) (a':=?_) #[true,true,true,true,true,true,true,true,true,true,true,true] rfl rfl (any_of HT_.out (by kernel_rfl)) (fun _ _ _ h=>h) (Or.inl ⟨by rfl,?_⟩) ?_ ?_
      rotate_left
      ·intro w'
       go_simp
       with_reducible rfl
      rotate_left
      ·simp only [Act.put,List.setIfInBounds_toArray,List.set_cons_zero,List.set_cons_succ,i64_w,i32_w]
       rfl
      refine done_ (done_of HT_.out (by kernel_rfl)) ?_
      have hnb15:=NB182_175.out
      have hnc15:=NB175_182.out
      have hnb16:=NB182_176.out
      have hnc16:=NB176_182.out
      have hcz17_0:w12.cell? ⟨gb182,0,none⟩=some (.slice none 0 0):=(blk_cell BK182.out 0).trans rfl
      have hfz17_0:=blk_frozen BK182.out 0
      have hnb18:=NB176_175.out
      have hnc18:=NB175_176.out
      have hcz19_0:w12.cell? ⟨gb176,0,none⟩=some (.slice Ao8 x177000_1.length co8):=(blk_cell BK176.out 0).trans rfl
      have hfz19_0:=blk_frozen BK176.out 0
      try go_wp2
      go_roundg k1
      case measure=>have:=HK1.out;omega
      case rel=>exact ⟨(wrap64 (x5_1+1)),(t178),(.slice Ao13 t178.length co13),(by first|rfl|(simp;done)|(simp [*];done)),H',⟨by have:=HK1.out;omega⟩,⟨by (with_reducible repeat (first|apply Kd.V_alloc|apply Kd.V_drewN|apply Kd.V_drew));exact Kd.V_mono (Kd.V_far (p:=⟨gb176,0,none⟩) (Kd.V_far (p:=⟨gb182,0,none⟩) (Kd.V_mono (Kd.V_mono HO180.out (fun k_ hk=>(⟨hk,hk.2.2.2⟩:_∧k_≠gb182))) (fun k_ hk=>(⟨hk,hk.1.2.2.1⟩:_∧k_≠gb176))) (fun _ hk=>hk.1.2) (.slice Ao13 t178.length co13)) (fun _ hk=>hk.2) (.slice Ao13 t178.length co13)) (fun _ hk=>⟨hk.1.1.1,⟨hk.1.1.2.1,hk.1.1.2.2.1⟩⟩)⟩,⟨by (with_reducible repeat (first|refine blk_drewN ?_ _|refine blk_drew ?_|refine blk_alloc ?_ _));refine blk_far ?_ NB175_176.out _;(with_reducible repeat (first|refine blk_drewN ?_ _|refine blk_drew ?_|refine blk_alloc ?_ _));refine blk_far ?_ NB175_182.out _;(with_reducible repeat (first|refine blk_drewN ?_ _|refine blk_drew ?_|refine blk_alloc ?_ _));exact BK175.out⟩,⟨by (with_reducible repeat (first|refine blk_drewN ?_ _|refine blk_drew ?_|refine blk_alloc ?_ _));refine blk_put (cs:=#[.slice Ao8 x177000_1.length co8]) ?_ 0 _ rfl;(with_reducible repeat (first|refine blk_drewN ?_ _|refine blk_drew ?_|refine blk_alloc ?_ _));refine blk_far ?_ NB176_182.out _;(with_reducible repeat (first|refine blk_drewN ?_ _|refine blk_drew ?_|refine blk_alloc ?_ _));exact BK176.out⟩,⟨by repeat (first|(with_reducible first|exact HB.out|apply below_alloc|apply pw_below_drewN|apply below_drew1|refine below_set ?_ GE175.out|refine below_set ?_ GE176.out|refine below_set ?_ GE182.out)|exact HB.out)⟩⟩
     ·rw [if_neg c7] at H
      have c7b0:(t181 == 0)=false:=beq_eq_false_iff_ne.mpr c7
      have c7b1:(t181 != 0)=true:=bne_iff_ne.mpr c7
      simp only [Option.some.injEq,Prod.mk.injEq] at H
      obtain ⟨rfl,rfl⟩:=H
      obtain ⟨Ao20,co20,eo20⟩:=Kd.V_slice HO_177000.out
      subst eo20
      try go_wp2
      have n0_:=Aside0.mk (Kd.V_drew HO_177000.out)
      have n1_:=Aside0.mk (blk_drew BK175.out)
      have n2_:=Aside0.mk (blk_drew BK176.out)
      have n3_:=Aside0.mk (below_drew1 HB.out)
      clear HO_177000 BK175 BK176 HB
      have HO_177000:=n0_
      have BK175:=n1_
      have BK176:=n2_
      have HB:=n3_
      clear n0_ n1_ n2_ n3_
      have p177:0≤(x5_1:Int):=of_decide_eq_true (by first|(with_reducible assumption)|assumption)
      have q177:x5_1<(l0.length:Int):=of_decide_eq_true (by first|(with_reducible assumption)|assumption)
      obtain ⟨ad177,A177_1,c177_1,e177,hx177_0,hx177_1,hl177_1,hi177_1⟩:=at_T39 HR0.out x5_1 p177 q177
      have hw177_1:=hx177_1
      have hw177_0:=hx177_0
      cases e177
      replace hx177_0:=(HB.out.cell (World.block_lt_of_cell? w _ hx177_0)).trans hx177_0
      replace hx177_1:=(HB.out.cell (World.block_lt_of_cell? w _ hx177_1)).trans hx177_1
      have HR177_1:=Aside0.mk hi177_1
      have HC177_1:=Aside0.mk hl177_1
      clear hi177_1 hl177_1
      replace p177:=eq_true p177
      replace q177:=eq_true q177
      refine start_ (n:=12) (S:=fun w'=>w'.cell? ⟨gb176,0,none⟩=some (.slice Ao20 x177000_1.length co20)∧w'.cell? (ad177.add ((x5_1).toNat*2))=some (.int .u64 ((rd_T39 l0 x5_1).f0))∧w'.cell? ⟨(ad177.add ((x5_1).toNat*2)).block,(ad177.add ((x5_1).toNat*2)).off+1,none⟩=some (.slice A177_1 ((rd_T39 l0 x5_1).f1).length c177_1)) (ds:=[]) #[false,false,false,false,false,false,false,false,false,false,false,false] (by kernel_rfl) rfl rfl ⟨(blk_cell BK176.out 0).trans rfl,((HB.out.cell (World.block_lt_of_cell? w _ hw177_0)).trans hw177_0),((HB.out.cell (World.block_lt_of_cell? w _ hw177_1)).trans hw177_1)⟩ (fun hHeld=>?_);refine with_tabW spindleref20_New.tab5 spindleref20_New.bits5 (fun HT_ HW_=>?_)
      generalize wr.drew=w21 at HO_177000 BK175 BK176 HB HR177_1 hx177_0 hx177_1 hHeld ⊢
      refine pure_ (i:=1) (N:=some 16) (v:=?_) (a':=?_) #[false,true,false,false,false,false,false,false,false,false,false,false] rfl rfl (any_of HT_.out (by kernel_rfl)) (fun _ _ _ h=>h) (Or.inl ⟨by rfl,?_⟩) ?_ ?_
      rotate_left
      ·intro w'
       go_simp
       with_reducible rfl
      rotate_left
      ·simp only [Act.put,List.setIfInBounds_toArray,List.set_cons_zero,List.set_cons_succ,i64_w,i32_w]
       rfl
      refine pure_ (i:=2) (N:=some 17) (v:=?_) (a':=?_) #[false,true,true,false,false,false,false,false,false,false,false,false] rfl rfl (any_of HT_.out (by kernel_rfl)) (fun _ _ _ h=>h) (Or.inl ⟨by rfl,?_⟩) ?_ ?_
      rotate_left
      ·intro w'
       go_simp
       with_reducible rfl
      rotate_left
      ·simp only [Act.put,List.setIfInBounds_toArray,List.set_cons_zero,List.set_cons_succ,i64_w,i32_w]
       rfl
      refine pure_ (i:=3) (N:=some 18) (v:=?_) (a':=?_) #[false,true,true,true,false,false,false,false,false,false,false,false] rfl rfl (any_of HT_.out (by kernel_rfl)) (fun _ _ _ h=>h) (Or.inl ⟨by rfl,?_⟩) ?_ ?_
      rotate_left
      ·intro w'
       go_simp
       with_reducible rfl
      rotate_left
      ·simp only [Act.put,List.setIfInBounds_toArray,List.set_cons_zero,List.set_cons_succ,i64_w,i32_w]
       rfl
      refine take_ (i:=0) (N:=some 15) (v:=?_) (a':=?_) #[true,true,true,true,false,false,false,false,false,false,false,false] rfl rfl (take_ofW HT_.out HW_.out (by kernel_rfl)) (fun _ _ _ h=>h) (Or.inl ⟨by rfl,?_⟩) hHeld ?_ ?_
      rotate_left
      ·rintro w' ⟨s0,s1,s2⟩
       go_simp
       with_reducible rfl
      rotate_left
      ·simp only [Act.put,List.setIfInBounds_toArray,List.set_cons_zero,List.set_cons_succ,i64_w,i32_w]
       rfl
      refine take_ (i:=4) (N:=some 19) (v:=?_) (a':=?_) #[true,true,true,true,true,false,false,false,false,false,false,false] rfl rfl (take_ofW HT_.out HW_.out (by kernel_rfl)) (fun _ _ _ h=>h) (Or.inl ⟨by rfl,?_⟩) hHeld ?_ ?_
      rotate_left
      ·rintro w' ⟨s0,s1,s2⟩
       go_simp
       with_reducible rfl
      rotate_left
      ·simp only [Act.put,List.setIfInBounds_toArray,List.set_cons_zero,List.set_cons_succ,i64_w,i32_w]
       rfl
      refine join_ (σ:=Value × Nat) 2 #[true,true,true,true,true,true,true,true,true,true,false,false] (fun s_=>[(20,.tuple #[.agg #[s_.1],.int .i64 t181]),(6,.pointer (some ⟨s_.2,0,none⟩)),(14,.tuple #[.agg #[s_.1],.int .i64 t181]),(21,.agg #[s_.1]),(22,.int .i64 t181)]) (fun s_ w'=>(w'.cell? ⟨gb176,0,none⟩=some (.slice Ao20 x177000_1.length co20)∧w'.cell? (ad177.add ((x5_1).toNat*2))=some (.int .u64 ((rd_T39 l0 x5_1).f0))∧w'.cell? ⟨(ad177.add ((x5_1).toNat*2)).block,(ad177.add ((x5_1).toNat*2)).off+1,none⟩=some (.slice A177_1 ((rd_T39 l0 x5_1).f1).length c177_1))∧(Kd.V k39 39 w' w.heap.size (fun k_=>(w.heap.size≤k_)∧k_≠gb175∧k_≠gb176∧k_≠s_.2) s_.1 t178)∧(Kd.V k39 39 w' w.heap.size (fun k_=>(w.heap.size≤k_)∧k_≠gb175∧k_≠gb176∧k_≠s_.2) (.slice Ao20 x177000_1.length co20) x177000_1)∧(w'.heap[gb175]?=some (.cells #[.slice none 0 0] 78 (0,0)))∧(w'.heap[gb176]?=some (.cells #[.slice Ao20 x177000_1.length co20] 78 (0,0)))∧(w'.heap[s_.2]?=some (.cells #[.slice none 0 0] 78 (0,0)))∧(w.heap.size≤s_.2)∧(w.heap.size≤s_.2)∧(gb175≠s_.2)∧(s_.2≠gb175)∧(gb176≠s_.2)∧(s_.2≠gb176)∧(Below w.heap.size w w')) ?_ ?_
      rotate_left
      ·intro hCont
       refine two_ (i:=5) (j:=9) (Ni:=some 20) (Nj:=some 6) #[true,true,true,true,true,true,false,false,false,false,false,false] #[true,true,true,true,true,false,false,false,false,true,false,false] rfl rfl rfl rfl (two_of HT_.out (by kernel_rfl)) (by decide) (by decide) (fun K hK=>?_) (fun K hK=>?_)
       ·skip
        refine goes_ Try.func39 (by kernel_rfl) rfl #[.agg #[.slice Ao20 x177000_1.length co20],.agg #[.int .u64 ((rd_T39 l0 x5_1).f0),.slice A177_1 ((rd_T39 l0 x5_1).f1).length c177_1]] (by rfl) rfl rfl (by (try simp only [List.map_toArray,List.map_cons,List.map_nil]);first|done|rfl|(simp only [List.length_drop,List.length_take];rfl)) ?_
        with_reducible refine (spindleref20_Space_Add.calls k1 (fun k_=>((w.heap.size≤k_)∧(k_≠gb175∧k_≠gb176))) _ _ x177000_1 ((rd_T39 l0 x5_1).f0) _ _ ((rd_T39 l0 x5_1).f1) t178 t181 _ ?side1 ?side2 ?side3 A6.out).mono ?_
        (case side1=>exact HO_177000.out)
        (case side2=>repeat (first|exact (Kd.C_below HR177_1.out HB.out)|(with_reducible refine Kd.C_alloc ?_ _)|(with_reducible refine Kd.C_drewN ?_ _)|(with_reducible refine Kd.C_drew ?_)))
        (case side3=>exact HC177_1.out)
        rintro e w22 ⟨v179,rfl,ho0,hb⟩
        refine ⟨_,rfl,?_⟩
        have n0_:=Aside0.mk (Kd.V_below (by (with_reducible repeat (first|apply Kd.V_alloc|apply Kd.V_drewN|apply Kd.V_drew));exact HO_177000.out) hb)
        have n1_:=Aside0.mk (Kd.V_lower (Kd.V_mono (ok':=fun k_=>(w.heap.size≤k_)∧k_≠gb175∧k_≠gb176) ho0 (fun k_ hk_=>⟨Or.elim hk_ (fun hs_=>hs_.1) (fun hn_=>(Nat.le_trans (below_size (by repeat (first|(with_reducible first|exact HB.out|apply below_alloc|apply pw_below_drewN|apply below_drew1|refine below_set ?_ GE175.out|refine below_set ?_ GE176.out)|exact HB.out))) hn_)),Or.elim hk_ (fun hs_=>hs_.2.1) (fun hn_=>(Kd.freshB (g:=gb175) (o:=.cells #[.slice none 0 0] 78 (0,0)) (by (with_reducible repeat (first|refine blk_drewN ?_ _|refine blk_drew ?_|refine blk_alloc ?_ _));exact BK175.out) k_ hn_)),Or.elim hk_ (fun hs_=>hs_.2.2) (fun hn_=>(Kd.freshB (g:=gb176) (o:=.cells #[.slice Ao20 x177000_1.length co20] 78 (0,0)) (by (with_reducible repeat (first|refine blk_drewN ?_ _|refine blk_drew ?_|refine blk_alloc ?_ _));exact BK176.out) k_ hn_))⟩)) (below_size (by repeat (first|(with_reducible first|exact HB.out|apply below_alloc|apply pw_below_drewN|apply below_drew1|refine below_set ?_ GE175.out|refine below_set ?_ GE176.out)|exact HB.out))))
        have n2_:=Aside0.mk (blk_below (g:=gb175) (o:=.cells #[.slice none 0 0] 78 (0,0)) (by (with_reducible repeat (first|refine blk_drewN ?_ _|refine blk_drew ?_|refine blk_alloc ?_ _));exact BK175.out) hb)
        have n3_:=Aside0.mk (blk_below (g:=gb176) (o:=.cells #[.slice Ao20 x177000_1.length co20] 78 (0,0)) (by (with_reducible repeat (first|refine blk_drewN ?_ _|refine blk_drew ?_|refine blk_alloc ?_ _));exact BK176.out) hb)
        have n4_:=Aside0.mk (below_step (by repeat (first|(with_reducible first|exact HB.out|apply below_alloc|apply pw_below_drewN|apply below_drew1|refine below_set ?_ GE175.out|refine below_set ?_ GE176.out)|exact HB.out)) hb)
        clear HO_177000 BK175 BK176 HB
        have HO_177000:=n0_
        have HO180:=n1_
        have BK175:=n2_
        have BK176:=n3_
        have HB:=n4_
        clear n0_ n1_ n2_ n3_ n4_
        (try clear hb)
        (try clear hb2)
        (try clear hk)
        (try clear hi)
        (try clear ho0)
        refine hK.out _ _ ⟨(blk_cell BK176.out 0).trans rfl,((HB.out.cell (World.block_lt_of_cell? w _ hw177_0)).trans hw177_0),((HB.out.cell (World.block_lt_of_cell? w _ hw177_1)).trans hw177_1)⟩ (fun hHeld=>?_)
        clear hK K
        refine norm_ (a':=?_) ?_ ?_
        rotate_left
        ·show Act.put _ (some 20) _=_
         simp only [Act.put,List.setIfInBounds_toArray,List.set_cons_zero,List.set_cons_succ,i64_w,i32_w]
         rfl
        refine pure_ (i:=6) (N:=some 14) (v:=?_) (a':=?_) #[true,true,true,true,true,true,true,false,false,false,false,false] rfl rfl (any_of HT_.out (by kernel_rfl)) (fun _ _ _ h=>h) (Or.inl ⟨by rfl,?_⟩) ?_ ?_
        rotate_left
        ·intro w'
         go_simp
         with_reducible rfl
        rotate_left
        ·simp only [Act.put,List.setIfInBounds_toArray,List.set_cons_zero,List.set_cons_succ,i64_w,i32_w]
         rfl
        refine pure_ (i:=7) (N:=some 21) (v:=?_) (a':=?_) #[true,true,true,true,true,true,true,true,false,false,false,false] rfl rfl (any_of HT_.out (by kernel_rfl)) (fun _ _ _ h=>h) (Or.inl ⟨by rfl,?_⟩) ?_ ?_
        rotate_left
        ·intro w'
         go_simp
         with_reducible rfl
        rotate_left
        ·simp only [Act.put,List.setIfInBounds_toArray,List.set_cons_zero,List.set_cons_succ,i64_w,i32_w]
         rfl
        refine pure_ (i:=8) (N:=some 22) (v:=?_) (a':=?_) #[true,true,true,true,true,true,true,true,true,false,false,false] rfl rfl (any_of HT_.out (by kernel_rfl)) (fun _ _ _ h=>h) (Or.inl ⟨by rfl,?_⟩) ?_ ?_
        rotate_left
        ·intro w'
         go_simp
         with_reducible rfl
        rotate_left
        ·simp only [Act.put,List.setIfInBounds_toArray,List.set_cons_zero,List.set_cons_succ,i64_w,i32_w]
         rfl
        refine one_ (i:=9) (N:=some 6) #[true,true,true,true,true,true,true,true,true,true,false,false] rfl rfl (one_of HT_.out (by kernel_rfl)) (by decide) (fun K hK=>?_)
        refine box_step ?hg (N:=6) ?hd (cs:=#[.slice none 0 0]) (t:=78) ?hr ?_;(case hd=>rfl);(case hg=>rfl);(case hr=>first|(go_simp;done)|(go_simp;rfl))
        intro gb182 hg w23 hbox hb
        have n0_:=Aside0.mk (Kd.V_below (Kd.V_elderB (by (with_reducible repeat (first|apply Kd.V_alloc|apply Kd.V_drewN|apply Kd.V_drew));exact HO_177000.out) gb182 (Nat.le_of_eq hg.symm)) hb)
        have n1_:=Aside0.mk (Kd.V_below (Kd.V_elderB (by (with_reducible repeat (first|apply Kd.V_alloc|apply Kd.V_drewN|apply Kd.V_drew));exact HO180.out) gb182 (Nat.le_of_eq hg.symm)) hb)
        have n2_:=Aside0.mk (blk_below (g:=gb175) (o:=.cells #[.slice none 0 0] 78 (0,0)) (by (with_reducible repeat (first|refine blk_drewN ?_ _|refine blk_drew ?_|refine blk_alloc ?_ _));exact BK175.out) hb)
        have n3_:=Aside0.mk (blk_below (g:=gb176) (o:=.cells #[.slice Ao20 x177000_1.length co20] 78 (0,0)) (by (with_reducible repeat (first|refine blk_drewN ?_ _|refine blk_drew ?_|refine blk_alloc ?_ _));exact BK176.out) hb)
        have n4_:=Aside0.mk (below_step (by repeat (first|(with_reducible first|exact HB.out|apply below_alloc|apply pw_below_drewN|apply below_drew1|refine below_set ?_ GE175.out|refine below_set ?_ GE176.out)|exact HB.out)) hb)
        have n5_:=Aside0.mk (hbox)
        have n6_:=Aside0.mk ((by rw [hg];exact (below_size (by repeat (first|(with_reducible first|exact HB.out|apply below_alloc|apply pw_below_drewN|apply below_drew1|refine below_set ?_ GE175.out|refine below_set ?_ GE176.out)|exact HB.out))):w.heap.size≤gb182))
        have n7_:=Aside0.mk ((by rw [hg];exact (below_size (by repeat (first|(with_reducible first|exact HB.out|apply below_alloc|apply pw_below_drewN|apply below_drew1|refine below_set ?_ GE175.out|refine below_set ?_ GE176.out)|exact HB.out))):w.heap.size≤gb182))
        have n8_:=Aside0.mk ((by rw [hg];exact Nat.ne_of_lt (blk_lt (g:=gb175) (o:=.cells #[.slice none 0 0] 78 (0,0)) (by (with_reducible repeat (first|refine blk_drewN ?_ _|refine blk_drew ?_|refine blk_alloc ?_ _));exact BK175.out)):gb175≠gb182))
        have n9_:=Aside0.mk ((by rw [hg];exact Nat.ne_of_gt (blk_lt (g:=gb175) (o:=.cells #[.slice none 0 0] 78 (0,0)) (by (with_reducible repeat (first|refine blk_drewN ?_ _|refine blk_drew ?_|refine blk_alloc ?_ _));exact BK175.out)):gb182≠gb175))
        have n10_:=Aside0.mk ((by rw [hg];exact Nat.ne_of_lt (blk_lt (g:=gb176) (o:=.cells #[.slice Ao20 x177000_1.length co20] 78 (0,0)) (by (with_reducible repeat (first|refine blk_drewN ?_ _|refine blk_drew ?_|refine blk_alloc ?_ _));exact BK176.out)):gb176≠gb182))
        have n11_:=Aside0.mk ((by rw [hg];exact Nat.ne_of_gt (blk_lt (g:=gb176) (o:=.cells #[.slice Ao20 x177000_1.length co20] 78 (0,0)) (by (with_reducible repeat (first|refine blk_drewN ?_ _|refine blk_drew ?_|refine blk_alloc ?_ _));exact BK176.out)):gb182≠gb176))
        clear HO_177000 HO180 BK175 BK176 HB
        have HO_177000:=n0_
        have HO180:=n1_
        have BK175:=n2_
        have BK176:=n3_
        have HB:=n4_
        have BK182:=n5_
        have GW182:=n6_
        have GE182:=n7_
        have NB175_182:=n8_
        have NB182_175:=n9_
        have NB176_182:=n10_
        have NB182_176:=n11_
        clear n0_ n1_ n2_ n3_ n4_ n5_ n6_ n7_ n8_ n9_ n10_ n11_ hb hbox hg
        refine hK.out _ _ ⟨(blk_cell BK176.out 0).trans rfl,((HB.out.cell (World.block_lt_of_cell? w _ hw177_0)).trans hw177_0),((HB.out.cell (World.block_lt_of_cell? w _ hw177_1)).trans hw177_1)⟩ (fun hHeld=>?_)
        clear hK K
        refine norm_ (a':=?_) ?_ ?_
        rotate_left
        ·show Act.put _ (some 6) _=_
         simp only [Act.put,List.setIfInBounds_toArray,List.set_cons_zero,List.set_cons_succ,i64_w,i32_w]
         rfl
        exact norm_ (by simp only [putAll,Act.put,List.setIfInBounds_toArray,List.set_cons_zero,List.set_cons_succ]) (hCont (v179,gb182) _ ⟨hHeld,(by (with_reducible repeat (first|apply Kd.V_alloc|apply Kd.V_drewN|apply Kd.V_drew));exact Kd.V_mono HO180.out (fun _ hk=>⟨hk.1.1,⟨hk.1.2.1,⟨hk.1.2.2,hk.2⟩⟩⟩)),(by (with_reducible repeat (first|apply Kd.V_alloc|apply Kd.V_drewN|apply Kd.V_drew));exact Kd.V_mono HO_177000.out (fun _ hk=>⟨hk.1.1,⟨hk.1.2.1,⟨hk.1.2.2,hk.2⟩⟩⟩)),(by (with_reducible repeat (first|refine blk_drewN ?_ _|refine blk_drew ?_|refine blk_alloc ?_ _));exact BK175.out),(by (with_reducible repeat (first|refine blk_drewN ?_ _|refine blk_drew ?_|refine blk_alloc ?_ _));exact BK176.out),(by (with_reducible repeat (first|refine blk_drewN ?_ _|refine blk_drew ?_|refine blk_alloc ?_ _));exact BK182.out),GW182.out,GE182.out,NB175_182.out,NB182_175.out,NB176_182.out,NB182_176.out,(by repeat (first|(with_reducible first|exact HB.out|apply below_alloc|apply pw_below_drewN|apply below_drew1|refine below_set ?_ GE175.out|refine below_set ?_ GE176.out|refine below_set ?_ GE182.out)|exact HB.out))⟩)
       ·skip
        refine box_step ?hg (N:=6) ?hd (cs:=#[.slice none 0 0]) (t:=78) ?hr ?_;(case hd=>rfl);(case hg=>rfl);(case hr=>first|(go_simp;done)|(go_simp;rfl))
        intro gb182 hg w22 hbox hb
        have n0_:=Aside0.mk (Kd.V_below (Kd.V_elderB (by (with_reducible repeat (first|apply Kd.V_alloc|apply Kd.V_drewN|apply Kd.V_drew));exact HO_177000.out) gb182 (Nat.le_of_eq hg.symm)) hb)
        have n1_:=Aside0.mk (blk_below (g:=gb175) (o:=.cells #[.slice none 0 0] 78 (0,0)) (by (with_reducible repeat (first|refine blk_drewN ?_ _|refine blk_drew ?_|refine blk_alloc ?_ _));exact BK175.out) hb)
        have n2_:=Aside0.mk (blk_below (g:=gb176) (o:=.cells #[.slice Ao20 x177000_1.length co20] 78 (0,0)) (by (with_reducible repeat (first|refine blk_drewN ?_ _|refine blk_drew ?_|refine blk_alloc ?_ _));exact BK176.out) hb)
        have n3_:=Aside0.mk (below_step (by repeat (first|(with_reducible first|exact HB.out|apply below_alloc|apply pw_below_drewN|apply below_drew1|refine below_set ?_ GE175.out|refine below_set ?_ GE176.out)|exact HB.out)) hb)
        have n4_:=Aside0.mk (hbox)
        have n5_:=Aside0.mk ((by rw [hg];exact (below_size (by repeat (first|(with_reducible first|exact HB.out|apply below_alloc|apply pw_below_drewN|apply below_drew1|refine below_set ?_ GE175.out|refine below_set ?_ GE176.out)|exact HB.out))):w.heap.size≤gb182))
        have n6_:=Aside0.mk ((by rw [hg];exact (below_size (by repeat (first|(with_reducible first|exact HB.out|apply below_alloc|apply pw_below_drewN|apply below_drew1|refine below_set ?_ GE175.out|refine below_set ?_ GE176.out)|exact HB.out))):w.heap.size≤gb182))
        have n7_:=Aside0.mk ((by rw [hg];exact Nat.ne_of_lt (blk_lt (g:=gb175) (o:=.cells #[.slice none 0 0] 78 (0,0)) (by (with_reducible repeat (first|refine blk_drewN ?_ _|refine blk_drew ?_|refine blk_alloc ?_ _));exact BK175.out)):gb175≠gb182))
        have n8_:=Aside0.mk ((by rw [hg];exact Nat.ne_of_gt (blk_lt (g:=gb175) (o:=.cells #[.slice none 0 0] 78 (0,0)) (by (with_reducible repeat (first|refine blk_drewN ?_ _|refine blk_drew ?_|refine blk_alloc ?_ _));exact BK175.out)):gb182≠gb175))
        have n9_:=Aside0.mk ((by rw [hg];exact Nat.ne_of_lt (blk_lt (g:=gb176) (o:=.cells #[.slice Ao20 x177000_1.length co20] 78 (0,0)) (by (with_reducible repeat (first|refine blk_drewN ?_ _|refine blk_drew ?_|refine blk_alloc ?_ _));exact BK176.out)):gb176≠gb182))
        have n10_:=Aside0.mk ((by rw [hg];exact Nat.ne_of_gt (blk_lt (g:=gb176) (o:=.cells #[.slice Ao20 x177000_1.length co20] 78 (0,0)) (by (with_reducible repeat (first|refine blk_drewN ?_ _|refine blk_drew ?_|refine blk_alloc ?_ _));exact BK176.out)):gb182≠gb176))
        clear HO_177000 BK175 BK176 HB
        have HO_177000:=n0_
        have BK175:=n1_
        have BK176:=n2_
        have HB:=n3_
        have BK182:=n4_
        have GW182:=n5_
        have GE182:=n6_
        have NB175_182:=n7_
        have NB182_175:=n8_
        have NB176_182:=n9_
        have NB182_176:=n10_
        clear n0_ n1_ n2_ n3_ n4_ n5_ n6_ n7_ n8_ n9_ n10_ hb hbox hg
        refine hK.out _ _ ⟨(blk_cell BK176.out 0).trans rfl,((HB.out.cell (World.block_lt_of_cell? w _ hw177_0)).trans hw177_0),((HB.out.cell (World.block_lt_of_cell? w _ hw177_1)).trans hw177_1)⟩ (fun hHeld=>?_)
        clear hK K
        refine norm_ (a':=?_) ?_ ?_
        rotate_left
        ·show Act.put _ (some 6) _=_
         simp only [Act.put,List.setIfInBounds_toArray,List.set_cons_zero,List.set_cons_succ,i64_w,i32_w]
         rfl
        refine one_ (i:=5) (N:=some 20) #[true,true,true,true,true,true,false,false,false,true,false,false] rfl rfl (one_of HT_.out (by kernel_rfl)) (by decide) (fun K hK=>?_)
        refine goes_ Try.func39 (by kernel_rfl) rfl #[.agg #[.slice Ao20 x177000_1.length co20],.agg #[.int .u64 ((rd_T39 l0 x5_1).f0),.slice A177_1 ((rd_T39 l0 x5_1).f1).length c177_1]] (by rfl) rfl rfl (by (try simp only [List.map_toArray,List.map_cons,List.map_nil]);first|done|rfl|(simp only [List.length_drop,List.length_take];rfl)) ?_
        with_reducible refine (spindleref20_Space_Add.calls k1 (fun k_=>(((w.heap.size≤k_)∧(k_≠gb175∧k_≠gb176))∧k_≠gb182)) _ _ x177000_1 ((rd_T39 l0 x5_1).f0) _ _ ((rd_T39 l0 x5_1).f1) t178 t181 _ ?side1 ?side2 ?side3 A6.out).mono ?_
        (case side1=>exact HO_177000.out)
        (case side2=>repeat (first|exact (Kd.C_below HR177_1.out HB.out)|(with_reducible refine Kd.C_alloc ?_ _)|(with_reducible refine Kd.C_drewN ?_ _)|(with_reducible refine Kd.C_drew ?_)))
        (case side3=>exact HC177_1.out)
        rintro e w23 ⟨v179,rfl,ho0,hb⟩
        refine ⟨_,rfl,?_⟩
        have n0_:=Aside0.mk (Kd.V_below (by (with_reducible repeat (first|apply Kd.V_alloc|apply Kd.V_drewN|apply Kd.V_drew));exact HO_177000.out) hb)
        have n1_:=Aside0.mk (Kd.V_lower (Kd.V_mono (ok':=fun k_=>(w.heap.size≤k_)∧k_≠gb175∧k_≠gb176∧k_≠gb182) ho0 (fun k_ hk_=>⟨Or.elim hk_ (fun hs_=>hs_.1.1) (fun hn_=>(Nat.le_trans (below_size (by repeat (first|(with_reducible first|exact HB.out|apply below_alloc|apply pw_below_drewN|apply below_drew1|refine below_set ?_ GE175.out|refine below_set ?_ GE176.out|refine below_set ?_ GE182.out)|exact HB.out))) hn_)),Or.elim hk_ (fun hs_=>hs_.1.2.1) (fun hn_=>(Kd.freshB (g:=gb175) (o:=.cells #[.slice none 0 0] 78 (0,0)) (by (with_reducible repeat (first|refine blk_drewN ?_ _|refine blk_drew ?_|refine blk_alloc ?_ _));exact BK175.out) k_ hn_)),Or.elim hk_ (fun hs_=>hs_.1.2.2) (fun hn_=>(Kd.freshB (g:=gb176) (o:=.cells #[.slice Ao20 x177000_1.length co20] 78 (0,0)) (by (with_reducible repeat (first|refine blk_drewN ?_ _|refine blk_drew ?_|refine blk_alloc ?_ _));exact BK176.out) k_ hn_)),Or.elim hk_ (fun hs_=>hs_.2) (fun hn_=>(Kd.freshB (g:=gb182) (o:=.cells #[.slice none 0 0] 78 (0,0)) (by (with_reducible repeat (first|refine blk_drewN ?_ _|refine blk_drew ?_|refine blk_alloc ?_ _));exact BK182.out) k_ hn_))⟩)) (below_size (by repeat (first|(with_reducible first|exact HB.out|apply below_alloc|apply pw_below_drewN|apply below_drew1|refine below_set ?_ GE175.out|refine below_set ?_ GE176.out|refine below_set ?_ GE182.out)|exact HB.out))))
        have n2_:=Aside0.mk (blk_below (g:=gb175) (o:=.cells #[.slice none 0 0] 78 (0,0)) (by (with_reducible repeat (first|refine blk_drewN ?_ _|refine blk_drew ?_|refine blk_alloc ?_ _));exact BK175.out) hb)
        have n3_:=Aside0.mk (blk_below (g:=gb176) (o:=.cells #[.slice Ao20 x177000_1.length co20] 78 (0,0)) (by (with_reducible repeat (first|refine blk_drewN ?_ _|refine blk_drew ?_|refine blk_alloc ?_ _));exact BK176.out) hb)
        have n4_:=Aside0.mk (blk_below (g:=gb182) (o:=.cells #[.slice none 0 0] 78 (0,0)) (by (with_reducible repeat (first|refine blk_drewN ?_ _|refine blk_drew ?_|refine blk_alloc ?_ _));exact BK182.out) hb)
        have n5_:=Aside0.mk (below_step (by repeat (first|(with_reducible first|exact HB.out|apply below_alloc|apply pw_below_drewN|apply below_drew1|refine below_set ?_ GE175.out|refine below_set ?_ GE176.out|refine below_set ?_ GE182.out)|exact HB.out)) hb)
        clear HO_177000 BK175 BK176 BK182 HB
        have HO_177000:=n0_
        have HO180:=n1_
        have BK175:=n2_
        have BK176:=n3_
        have BK182:=n4_
        have HB:=n5_
        clear n0_ n1_ n2_ n3_ n4_ n5_
        (try clear hb)
        (try clear hb2)
        (try clear hk)
        (try clear hi)
        (try clear ho0)
        refine hK.out _ _ ⟨(blk_cell BK176.out 0).trans rfl,((HB.out.cell (World.block_lt_of_cell? w _ hw177_0)).trans hw177_0),((HB.out.cell (World.block_lt_of_cell? w _ hw177_1)).trans hw177_1)⟩ (fun hHeld=>?_)
        clear hK K
        refine norm_ (a':=?_) ?_ ?_
        rotate_left
        ·show Act.put _ (some 20) _=_
         simp only [Act.put,List.setIfInBounds_toArray,List.set_cons_zero,List.set_cons_succ,i64_w,i32_w]
         rfl
        refine pure_ (i:=6) (N:=some 14) (v:=?_) (a':=?_) #[true,true,true,true,true,true,true,false,false,true,false,false] rfl rfl (any_of HT_.out (by kernel_rfl)) (fun _ _ _ h=>h) (Or.inl ⟨by rfl,?_⟩) ?_ ?_
        rotate_left
        ·intro w'
         go_simp
         with_reducible rfl
        rotate_left
        ·simp only [Act.put,List.setIfInBounds_toArray,List.set_cons_zero,List.set_cons_succ,i64_w,i32_w]
         rfl
        refine pure_ (i:=7) (N:=some 21) (v:=?_) (a':=?_) #[true,true,true,true,true,true,true,true,false,true,false,false] rfl rfl (any_of HT_.out (by kernel_rfl)) (fun _ _ _ h=>h) (Or.inl ⟨by rfl,?_⟩) ?_ ?_
        rotate_left
        ·intro w'
         go_simp
         with_reducible rfl
        rotate_left
        ·simp only [Act.put,List.setIfInBounds_toArray,List.set_cons_zero,List.set_cons_succ,i64_w,i32_w]
         rfl
        refine pure_ (i:=8) (N:=some 22) (v:=?_) (a':=?_) #[true,true,true,true,true,true,true,true,true,true,false,false] rfl rfl (any_of HT_.out (by kernel_rfl)) (fun _ _ _ h=>h) (Or.inl ⟨by rfl,?_⟩) ?_ ?_
        rotate_left
        ·intro w'
         go_simp
         with_reducible rfl
        rotate_left
        ·simp only [Act.put,List.setIfInBounds_toArray,List.set_cons_zero,List.set_cons_succ,i64_w,i32_w]
         rfl
        exact norm_ (by simp only [putAll,Act.put,List.setIfInBounds_toArray,List.set_cons_zero,List.set_cons_succ]) (hCont (v179,gb182) _ ⟨hHeld,(by (with_reducible repeat (first|apply Kd.V_alloc|apply Kd.V_drewN|apply Kd.V_drew));exact HO180.out),(by (with_reducible repeat (first|apply Kd.V_alloc|apply Kd.V_drewN|apply Kd.V_drew));exact Kd.V_mono HO_177000.out (fun _ hk=>⟨hk.1.1,⟨hk.1.2.1,⟨hk.1.2.2,hk.2⟩⟩⟩)),(by (with_reducible repeat (first|refine blk_drewN ?_ _|refine blk_drew ?_|refine blk_alloc ?_ _));exact BK175.out),(by (with_reducible repeat (first|refine blk_drewN ?_ _|refine blk_drew ?_|refine blk_alloc ?_ _));exact BK176.out),(by (with_reducible repeat (first|refine blk_drewN ?_ _|refine blk_drew ?_|refine blk_alloc ?_ _));exact BK182.out),GW182.out,GE182.out,NB175_182.out,NB182_175.out,NB176_182.out,NB182_176.out,(by repeat (first|(with_reducible first|exact HB.out|apply below_alloc|apply pw_below_drewN|apply below_drew1|refine below_set ?_ GE175.out|refine below_set ?_ GE176.out|refine below_set ?_ GE182.out)|exact HB.out))⟩)
      rintro ⟨v179,gb182⟩ w24 ⟨hS_,h0_,h1_,h2_,h3_,h4_,h5_,h6_,h7_,h8_,h9_,h10_,h11_⟩
      have n0_:Aside0 (Kd.V k39 39 w24 w.heap.size (fun k_=>(w.heap.size≤k_)∧k_≠gb175∧k_≠gb176∧k_≠gb182) v179 t178):=⟨h0_⟩
      have n1_:Aside0 (Kd.V k39 39 w24 w.heap.size (fun k_=>(w.heap.size≤k_)∧k_≠gb175∧k_≠gb176∧k_≠gb182) (.slice Ao20 x177000_1.length co20) x177000_1):=⟨h1_⟩
      have n2_:Aside0 (w24.heap[gb175]?=some (.cells #[.slice none 0 0] 78 (0,0))):=⟨h2_⟩
      have n3_:Aside0 (w24.heap[gb176]?=some (.cells #[.slice Ao20 x177000_1.length co20] 78 (0,0))):=⟨h3_⟩
      have n4_:Aside0 (w24.heap[gb182]?=some (.cells #[.slice none 0 0] 78 (0,0))):=⟨h4_⟩
      have n5_:Aside0 (w.heap.size≤gb182):=⟨h5_⟩
      have n6_:Aside0 (w.heap.size≤gb182):=⟨h6_⟩
      have n7_:Aside0 (gb175≠gb182):=⟨h7_⟩
      have n8_:Aside0 (gb182≠gb175):=⟨h8_⟩
      have n9_:Aside0 (gb176≠gb182):=⟨h9_⟩
      have n10_:Aside0 (gb182≠gb176):=⟨h10_⟩
      have n11_:Aside0 (Below w.heap.size w w24):=⟨h11_⟩
      clear HO_177000 BK175 BK176 HB h0_ h1_ h2_ h3_ h4_ h5_ h6_ h7_ h8_ h9_ h10_ h11_
      have HO180:=n0_
      have HO_177000:=n1_
      have BK175:=n2_
      have BK176:=n3_
      have BK182:=n4_
      have GW182:=n5_
      have GE182:=n6_
      have NB175_182:=n7_
      have NB182_175:=n8_
      have NB176_182:=n9_
      have NB182_176:=n10_
      have HB:=n11_
      clear n0_ n1_ n2_ n3_ n4_ n5_ n6_ n7_ n8_ n9_ n10_ n11_
      have hHeld:w24.cell? ⟨gb176,0,none⟩=some (.slice Ao20 x177000_1.length co20)∧w24.cell? (ad177.add ((x5_1).toNat*2))=some (.int .u64 ((rd_T39 l0 x5_1).f0))∧w24.cell? ⟨(ad177.add ((x5_1).toNat*2)).block,(ad177.add ((x5_1).toNat*2)).off+1,none⟩=some (.slice A177_1 ((rd_T39 l0 x5_1).f1).length c177_1):=hS_
      obtain ⟨Ao25,co25,eo25⟩:=Kd.V_slice HO180.out
      (first|subst eo25|(injection eo25 with f1_ f2_ f3_;have f4_:=f1_.symm;have f5_:=f3_.symm;clear f1_ f2_ f3_;subst f4_;subst f5_))
      refine norm_ (a':=?_) ?_ ?_
      rotate_left
      ·simp only [putAll,Act.put,List.setIfInBounds_toArray,List.set_cons_zero,List.set_cons_succ]
       rfl
      refine one_ (i:=10) (N:=none) #[true,true,true,true,true,true,true,true,true,true,true,false] rfl rfl (one_of HT_.out (by kernel_rfl)) (by decide) (fun K hK=>?_)
      have hs26:w24.cell? ⟨gb182,0,none⟩=some (.slice none 0 0):=(blk_cell BK182.out 0).trans rfl
      have hfs26:=blk_frozen BK182.out 0
      have hns26_0:=NB175_182.out
      have hns26_1:=NB176_182.out
      have hms26_0:=NB182_175.out
      have hms26_1:=NB182_176.out
      refine skip_ (w1:=?_) (by rfl) rfl ?_ ?_
      rotate_left
      ·go_simp
       rfl
      refine hK.out _ _ ⟨((cell_far (p:=⟨gb182,_,none⟩) NB176_182.out _).trans (hHeld.1)),((cell_far (p:=⟨gb182,_,none⟩) (by first|exact Nat.ne_of_lt (Nat.lt_of_lt_of_le (by have:=World.block_lt_of_cell? _ _ hw177_0;first|rwa [add_block] at this|exact this) GW182.out)|(rw [add_block];exact Nat.ne_of_lt (Nat.lt_of_lt_of_le (by have:=World.block_lt_of_cell? _ _ hw177_0;first|rwa [add_block] at this|exact this) GW182.out))|(show (Addr.add _ _).block≠_;rw [add_block];exact Nat.ne_of_lt (Nat.lt_of_lt_of_le (by have:=World.block_lt_of_cell? _ _ hw177_0;first|rwa [add_block] at this|exact this) GW182.out))|(dsimp only;exact Nat.ne_of_lt (Nat.lt_of_lt_of_le (by have:=World.block_lt_of_cell? _ _ hw177_0;first|rwa [add_block] at this|exact this) GW182.out))) _).trans (hHeld.2.1)),((cell_far (p:=⟨gb182,_,none⟩) (by first|exact Nat.ne_of_lt (Nat.lt_of_lt_of_le (by have:=World.block_lt_of_cell? _ _ hw177_1;first|rwa [add_block] at this|exact this) GW182.out)|(rw [add_block];exact Nat.ne_of_lt (Nat.lt_of_lt_of_le (by have:=World.block_lt_of_cell? _ _ hw177_1;first|rwa [add_block] at this|exact this) GW182.out))|(show (Addr.add _ _).block≠_;rw [add_block];exact Nat.ne_of_lt (Nat.lt_of_lt_of_le (by have:=World.block_lt_of_cell? _ _ hw177_1;first|rwa [add_block] at this|exact this) GW182.out))|(dsimp only;exact Nat.ne_of_lt (Nat.lt_of_lt_of_le (by have:=World.block_lt_of_cell? _ _ hw177_1;first|rwa [add_block] at this|exact this) GW182.out))) _).trans (hHeld.2.2))⟩ (fun hHeld=>?_)
      clear hK K
      refine pure_ (i:=11) (N:=some 7) (v:=?_) (a':=?_) #[true,true,true,true,true,true,true,true,true,true,true,true] rfl rfl (any_of HT_.out (by kernel_rfl)) (fun _ _ _ h=>h) (Or.inl ⟨by rfl,?_⟩) ?_ ?_
      rotate_left
      ·intro w'
       go_simp
       with_reducible rfl
      rotate_left
      ·simp only [Act.put,List.setIfInBounds_toArray,List.set_cons_zero,List.set_cons_succ,i64_w,i32_w]
       rfl
      refine done_ (done_of HT_.out (by kernel_rfl)) ?_
      have hnb27:=NB175_176.out
      have hnc27:=NB176_175.out
      have hnb28:=NB175_182.out
      have hnc28:=NB182_175.out
      have hcz29_0:w24.cell? ⟨gb175,0,none⟩=some (.slice none 0 0):=(blk_cell BK175.out 0).trans rfl
      have hfz29_0:=blk_frozen BK175.out 0
      try go_wp2
      refine bodyPost_ret (results_ct rfl _ _ gb175 78 #[.slice none 0 0] (0,0) _ rfl (by (with_reducible repeat (first|refine blk_drewN ?_ _|refine blk_drew ?_|refine blk_alloc ?_ _));refine blk_put (cs:=#[.slice none 0 0]) ?_ 0 _ rfl;(with_reducible repeat (first|refine blk_drewN ?_ _|refine blk_drew ?_|refine blk_alloc ?_ _));refine blk_far ?_ NB175_182.out _;(with_reducible repeat (first|refine blk_drewN ?_ _|refine blk_drew ?_|refine blk_alloc ?_ _));exact BK175.out) Try.underlying78 rfl (by kernel_rfl)) rfl ?_
      exact ⟨_,by first|rfl|(simp [errW_none,errW_some] <;> rfl)|(simp [*,errW_none,errW_some] <;> rfl),Kd.S_V (Kd.S_nil _ _ _ w.heap.size _),by repeat (first|(with_reducible first|exact HB.out|apply below_alloc|apply pw_below_drewN|apply below_drew1|refine below_set ?_ GE175.out|refine below_set ?_ GE176.out|refine below_set ?_ GE182.out)|exact HB.out)⟩
    ·rw [if_neg c5] at H
     exact absurd H (by simp)
   ·rw [if_neg c4] at H
    have c4b0:decide (x5_1<(l0.length:Int))=false:=decide_eq_false c4
    clear c4
    simp only [Option.some.injEq,Prod.mk.injEq] at H
    obtain ⟨rfl,rfl⟩:=H
    have hnb30:=NB176_175.out
    have hnc30:=NB175_176.out
    have hcz31_0:wr.cell? ⟨gb176,0,none⟩=some (u177000):=(blk_cell BK176.out 0).trans rfl
    have hfz31_0:=blk_frozen BK176.out 0
    obtain ⟨Ao32,co32,eo32⟩:=Kd.V_slice HO_177000.out
    subst eo32
    have hcz33_0:wr.cell? ⟨gb175,0,none⟩=some (.slice none 0 0):=(blk_cell BK175.out 0).trans rfl
    have hfz33_0:=blk_frozen BK175.out 0
    go_wp2
    refine bodyPost_ret (results_ct rfl _ _ gb175 78 #[.slice Ao32 x177000_1.length co32] (0,0) _ rfl (by (with_reducible repeat (first|refine blk_drewN ?_ _|refine blk_drew ?_|refine blk_alloc ?_ _));refine blk_put (cs:=#[.slice none 0 0]) ?_ 0 _ rfl;(with_reducible repeat (first|refine blk_drewN ?_ _|refine blk_drew ?_|refine blk_alloc ?_ _));exact BK175.out) Try.underlying78 rfl (by kernel_rfl)) rfl ?_
    exact ⟨_,by first|rfl|(simp [errW_none,errW_some] <;> rfl)|(simp [*,errW_none,errW_some] <;> rfl),by (with_reducible repeat (first|apply Kd.V_alloc|apply Kd.V_drewN|apply Kd.V_drew));exact Kd.V_mono (Kd.V_far (p:=⟨gb175,0,none⟩) (Kd.V_mono HO_177000.out (fun k_ hk=>(⟨hk,hk.2.1⟩:_∧k_≠gb175))) (fun _ hk=>hk.2) (.slice Ao32 x177000_1.length co32)) (fun _ hk=>hk.1.1),by repeat (first|(with_reducible first|exact HB.out|apply below_alloc|apply pw_below_drewN|apply below_drew1|refine below_set ?_ GE175.out|refine below_set ?_ GE176.out)|exact HB.out)⟩
def spindlelaw0_spare.l0:Nat→List Int→Int→Option (List Int)
 | 0,_,_=>none
 | k+1,x3,x4=>if x4<(x3.length:Int) then (if 0≤x4 then (spindlelaw0_spare.l0 k (x3.set (x4:Int).toNat ((wrap64 (201 - (wrap64 (3*x4)))) % 256)) (wrap64 (x4+1))) else (none)) else (some x3)
def spindlelaw0_spare.f (k:Nat) (a0:Int):Option (List Int):=if 0≤(wrap64 (a0+70)) then (if (wrap64 (a0+70):Int).toNat≤281474976710656 then (spindlelaw0_spare.l0 k (List.replicate (wrap64 (a0+70):Int).toNat 0) 0) else (none)) else (none)
theorem spindlelaw0_spare.calls (k:Nat) (a0:Int) (r:List Int) (w:World) (h:spindlelaw0_spare.f k a0=some r) :
  Calls Try.prog 89 #[.int .i64 a0] w fun e w'=>∃ v0_:Value,e=.returned (v0_)∧Kd.R (Kd.int .u8) 5 w' w.heap.size (fun _=>True) v0_ r∧Below w.heap.size w w':=by
 have HB:=Aside0.mk (Below.refl w.heap.size w)
 have H:(if 0≤(wrap64 (a0+70)) then (if (wrap64 (a0+70):Int).toNat≤281474976710656 then (spindlelaw0_spare.l0 k (List.replicate (wrap64 (a0+70):Int).toNat 0) 0) else (none)) else (none))=some r:=h
 clear h
 obtain ⟨ji2,hji2⟩:∃ j_:Int,(wrap64 (a0+70))=j_:=⟨_,rfl⟩
 replace H:(if 0≤(ji2) then (if (ji2:Int).toNat≤281474976710656 then (spindlelaw0_spare.l0 k (List.replicate (ji2:Int).toNat 0) 0) else (none)) else (none))=some r:=by first|(rw [hji2] at H;exact H)|(simp only [hji2] at H ⊢;exact H)
 have hji2w:(IntKind.i64.wrap (a0+70))=ji2:=(i64_w _).trans hji2
 by_cases c3:0≤(ji2)
 ·rw [if_pos c3] at H
  have c3b0:=eq_true c3
  have c3b1:decide (0≤(ji2))=true:=decide_eq_true c3
  clear c3
  by_cases c4:(ji2:Int).toNat≤281474976710656
  ·rw [if_pos c4] at H
   have c4b0:=eq_true c4
   have c4b1:decide ((ji2:Int).toNat≤281474976710656)=true:=decide_eq_true c4
   clear c4
   obtain ⟨y183,hy183⟩:∃ y_:List Int,y_=(List.replicate (ji2:Int).toNat 0):=⟨_,rfl⟩
   replace H:(spindlelaw0_spare.l0 k y183 0)=some r:=by first|(rw [hy183];with_reducible exact H)|(have H2_:=(Option.bind_some _ _).symm.trans H;rw [hy183];with_reducible exact H2_)|(have H2_:=(Option.bind_some _ _).symm.trans H;with_reducible exact H2_)|with_reducible exact H|(rw [hy183];exact H)|exact H
   have Ny183:=Aside0.mk hy183
   clear hy183
   have H':=Aside0.mk H
   clear H
   go_enter Try.func89,Try.ntmps89
   go_wp2_with (first|((with_reducible refine gate_dst (N:=7) rfl ?_);refine Kd.R_make (Kd.int .u8) _ 5 rfl (N:=7) rfl 37 _ _ rfl ji2 rfl rfl Try.underlying37 (.int .u8 0) 1 info5 rfl (by decide) (by omega) 0 (ok:=fun _=>True) (okp:=fun _=>True) rfl (fun _ hk=>hk) trivial (of_decide_eq_true (by first|(with_reducible assumption)|assumption)) (Nat.le_trans (Nat.mul_le_mul_right _ (of_decide_eq_true (by first|(with_reducible assumption)|assumption):ji2.toNat≤281474976710656)) (by omega)) (Below.refl _ _) (Nat.le_refl _) ?_;intro v184 w5 ho6 hb hg_ hnew_;clear hg_ hnew_;(first|rw [← Ny183.out] at ho6|(simp only [Int.reduceToNat] at ho6;rw [← Ny183.out] at ho6));have n0_:=Aside0.mk (Kd.R_lower ho6 (below_size (by repeat (first|(with_reducible first|exact HB.out|apply below_alloc|apply pw_below_drewN|apply below_drew1)|exact HB.out))));have n1_:=Aside0.mk (below_step (by repeat (first|(with_reducible first|exact HB.out|apply below_alloc|apply pw_below_drewN|apply below_drew1)|exact HB.out)) hb);clear HB;have HO185:=n0_;have HB:=n1_;clear n0_ n1_;clear hb ho6))
   go_loopg [4] k (fun kq v4 w'=>∃ (x3_1:List Int) (x4_1:Int),v4=.int .i64 x4_1∧Aside0 (spindlelaw0_spare.l0 kq x3_1 x4_1=some r)∧Aside0 (kq≤k)∧Aside0 (Kd.R (Kd.int .u8) 5 w' w.heap.size (fun _=>True) v184 x3_1)∧Aside0 (Below w.heap.size w w'))
   case atStart=>exact ⟨(y183),(0),(by first|rfl|(simp;done)|(simp [*];done)),H',⟨Nat.le_refl _⟩,⟨by (with_reducible repeat (first|apply Kd.R_alloc|apply Kd.R_drewN|apply Kd.R_drew));exact HO185.out⟩,⟨by repeat (first|(with_reducible first|exact HB.out|apply below_alloc|apply pw_below_drewN|apply below_drew1)|exact HB.out)⟩⟩
   case round =>
    clear H'
    try clear p2
    try clear c3
    try clear c3b0
    try clear c3b1
    try clear c4
    try clear c4b0
    try clear c4b1
    try clear p6
    obtain ⟨x3_1,x4_1,rfl,HA,HK1,HO_3,HB⟩:=hrel
    cases gk with
    | zero=>exact absurd HA.out (by simp [spindlelaw0_spare.l0])
    | succ k1 =>
     have H:=HA.out
     clear HA
     simp only [spindlelaw0_spare.l0] at H
     by_cases c7:x4_1<(x3_1.length:Int)
     ·rw [if_pos c7] at H
      have c7b0:decide (x4_1<(x3_1.length:Int))=true:=decide_eq_true c7
      clear c7
      by_cases c8:0≤x4_1
      ·rw [if_pos c8] at H
       have c8b0:decide (0≤x4_1)=true:=decide_eq_true c8
       clear c8
       obtain ⟨y186,hy186⟩:∃ y_:List Int,y_=(x3_1.set (x4_1:Int).toNat ((wrap64 (201 - (wrap64 (3*x4_1)))) % 256)):=⟨_,rfl⟩
       replace H:(spindlelaw0_spare.l0 k1 y186 (wrap64 (x4_1+1)))=some r:=by first|(rw [hy186];with_reducible exact H)|(have H2_:=(Option.bind_some _ _).symm.trans H;rw [hy186];with_reducible exact H2_)|(have H2_:=(Option.bind_some _ _).symm.trans H;with_reducible exact H2_)|with_reducible exact H|(rw [hy186];exact H)|exact H
       have Ny186:=Aside0.mk hy186
       clear hy186
       have H':=Aside0.mk H
       clear H
       obtain ⟨Ao10,co10,eo10⟩:=Kd.R_slice HO_3.out
       subst eo10
       have p9:0≤(x4_1:Int):=of_decide_eq_true (by first|(with_reducible assumption)|assumption)
       have q9:(x4_1:Int)<((x3_1.length:Int):Int):=of_decide_eq_true (by first|(with_reducible assumption)|assumption)
       obtain ⟨go9,co9,eo9,gb9,gl9,cl9,HG9⟩:=Kd.R_form HO_3.out (by omega)
       (first|cases eo9|(injection eo9 with ea_ en_ ec_;(first|subst ea_|(injection ea_ with ea_;subst ea_));subst ec_;clear en_))
       have GB9:=Aside0.mk gb9
       have GG9:=Aside0.mk HG9
       clear gb9 gl9 HG9
       obtain ⟨hx9_0,hf9_0⟩:=Kd.R_celln 0 HO_3.out (x4_1:Int) p9 q9
       replace p9:=eq_true p9
       replace q9:=eq_true q9
       have HP11:=Kd.R_putg HO_3.out (x4_1:Int) ((wrap64 (201 - (wrap64 (3*x4_1)))) % 256)
       go_wp2_with (first|((with_reducible refine gate_store (t:=5) (p:=20) rfl ?_);refine store_event (t:=5) (p:=20) (v:=?vo_w12) (w1:=(wr.setCell ⟨go9,(x4_1:Int).toNat,none⟩ (.int .u8 ((wrap64 (201 - (wrap64 (3*x4_1)))) % 256)))) ?hg ?ho ?hn ?hr ?_;(case ho=>rfl);(case hg=>rfl);(case hn=>rfl);(case hr=>first|(go_simp;done)|(go_simp;rfl));intro w12 hw;have hg:wr.grownBy w12 (some go9):=(by rw [hw];exact HP11.2);have hp_:Kd.R (Kd.int .u8) 5 w12 w.heap.size (fun _=>True) (.slice (some ⟨go9,0,none⟩) x3_1.length co10) y186:=(by rw [hw,Ny186.out];exact HP11.1);clear HP11;have n0_:=Aside0.mk (hp_);have n1_:=Aside0.mk ((by rw [hw];exact below_set (HB.out) GB9.out:Below w.heap.size w w12));clear HO_3;clear HB;have HO_3:=n0_;have HB:=n1_;clear n0_ n1_;clear hg hw hp_))
       go_roundg k1
       case measure=>have:=HK1.out;omega
       case rel=>exact ⟨(y186),(wrap64 (x4_1+1)),(by first|rfl|(simp;done)|(simp [*];done)),H',⟨by have:=HK1.out;omega⟩,⟨by (with_reducible repeat (first|apply Kd.R_alloc|apply Kd.R_drewN|apply Kd.R_drew));exact HO_3.out⟩,⟨by repeat (first|(with_reducible first|exact HB.out|apply below_alloc|apply pw_below_drewN|apply below_drew1)|exact HB.out)⟩⟩
      ·rw [if_neg c8] at H
       exact absurd H (by simp)
     ·rw [if_neg c7] at H
      have c7b0:decide (x4_1<(x3_1.length:Int))=false:=decide_eq_false c7
      clear c7
      obtain rfl:=Option.some.inj H
      obtain ⟨Ao13,co13,eo13⟩:=Kd.R_slice HO_3.out
      subst eo13
      go_wp2
      go_ret
      exact ⟨_,by first|rfl|(simp [errW_none,errW_some] <;> rfl)|(simp only [← hji2];first|rfl|(simp [errW_none,errW_some] <;> rfl))|(simp [*,errW_none,errW_some] <;> rfl),by (with_reducible repeat (first|apply Kd.R_alloc|apply Kd.R_drewN|apply Kd.R_drew));exact HO_3.out,by repeat (first|(with_reducible first|exact HB.out|apply below_alloc|apply pw_below_drewN|apply below_drew1)|exact HB.out)⟩
  ·rw [if_neg c4] at H
   exact absurd H (by simp)
 ·rw [if_neg c3] at H
  exact absurd H (by simp)
def spindlelaw0_Spare.f (k:Nat) (l0:List Int):Option (List Int):=(spindlelaw0_CopyBytes.f l0).bind fun t187=>((spindlelaw0_spare.f k (l0.length:Int)).bind fun t190=>(if t187.length+t190.length<140737488355328 then (some (t187 ++ t190)) else (none)))
theorem spindlelaw0_Spare.calls (k:Nat) (A0:Option Addr) (c0:Nat) (l0:List Int) (r:List Int) (w:World) (hr0:Kd.C (Kd.int .u8) w A0 l0.length l0) (hc0:l0.length≤c0) (h:spindlelaw0_Spare.f k l0=some r) :
  Calls Try.prog 67 #[.slice A0 l0.length c0] w fun e w'=>∃ v0_:Value,e=.returned (v0_)∧Kd.R (Kd.int .u8) 5 w' w.heap.size (fun _=>True) v0_ r∧Below w.heap.size w w':=by
 have HR0:=Aside0.mk hr0
 have HC0:=Aside0.mk hc0
 clear hr0 hc0
 have HB:=Aside0.mk (Below.refl w.heap.size w)
 have H:((spindlelaw0_CopyBytes.f l0).bind fun t187=>((spindlelaw0_spare.f k (l0.length:Int)).bind fun t190=>(if t187.length+t190.length<140737488355328 then (some (t187 ++ t190)) else (none))))=some r:=h
 clear h
 replace H:=Option.bind_eq_some_iff.mp H
 obtain ⟨t187,A20,H⟩:=H
 replace H:((spindlelaw0_spare.f k (l0.length:Int)).bind fun t190=>(if t187.length+t190.length<140737488355328 then (some (t187 ++ t190)) else (none)))=some r:=H
 have A2:=Aside0.mk A20
 clear A20
 replace H:=Option.bind_eq_some_iff.mp H
 obtain ⟨t190,A30,H⟩:=H
 replace H:(if t187.length+t190.length<140737488355328 then (some (t187 ++ t190)) else (none))=some r:=H
 have A3:=Aside0.mk A30
 clear A30
 by_cases c4:t187.length+t190.length<140737488355328
 ·rw [if_pos c4] at H
  have LMc4:=Aside0.mk c4
  clear c4
  obtain ⟨y193,hy193⟩:∃ y_:List Int,y_=(t187 ++ t190):=⟨_,rfl⟩
  replace H:(some y193)=some r:=by first|(rw [hy193];with_reducible exact H)|(have H2_:=(Option.bind_some _ _).symm.trans H;rw [hy193];with_reducible exact H2_)|(have H2_:=(Option.bind_some _ _).symm.trans H;with_reducible exact H2_)|with_reducible exact H|(rw [hy193];exact H)|exact H
  have Ny193:=Aside0.mk hy193
  clear hy193
  obtain rfl:=Option.some.inj H
  go_enter Try.func67,Try.ntmps67
  go_wp2_with (first|((with_reducible refine gate_callee (f:=21) rfl ?_);refine goesL_ (some 4) rfl rfl Try.func21 (by kernel_rfl) rfl #[.slice A0 l0.length c0] rfl (by (try simp only [List.map_toArray,List.map_cons,List.map_nil]);first|done|rfl|(simp only [List.length_drop,List.length_take];rfl)) ?_;(with_reducible refine (spindlelaw0_CopyBytes.calls _ _ l0 t187 _ ?side1 ?side2 A2.out).mono ?_);(case side1=>repeat (first|exact HR0.out|(with_reducible refine Kd.C_alloc ?_ _)|(with_reducible refine Kd.C_drewN ?_ _)|(with_reducible refine Kd.C_drew ?_)));(case side2=>exact HC0.out);rintro e w5 ⟨v188,rfl,ho0,hb⟩;refine ⟨_,rfl,?_⟩;have n0_:=Aside0.mk (Kd.R_lower ho0 (below_size (by repeat (first|(with_reducible first|exact HB.out|apply below_alloc|apply pw_below_drewN|apply below_drew1)|exact HB.out))));have n1_:=Aside0.mk (below_step (by repeat (first|(with_reducible first|exact HB.out|apply below_alloc|apply pw_below_drewN|apply below_drew1)|exact HB.out)) hb);clear HB;have HO189:=n0_;have HB:=n1_;clear n0_ n1_;(try clear hb);(try clear hb2);(try clear hk);(try clear hi);(try clear ho0))|((with_reducible refine gate_callee (f:=89) rfl ?_);refine goesL_ (some 7) rfl rfl Try.func89 (by kernel_rfl) rfl #[.int .i64 (l0.length:Int)] rfl (by (try simp only [List.map_toArray,List.map_cons,List.map_nil]);first|done|rfl|(simp only [List.length_drop,List.length_take];rfl)) ?_;(with_reducible refine (spindlelaw0_spare.calls k (l0.length:Int) t190 _ A3.out).mono ?_);rintro e w6 ⟨v191,rfl,ho0,hb⟩;refine ⟨_,rfl,?_⟩;have n0_:=Aside0.mk (Kd.R_elder' (by (with_reducible repeat (first|apply Kd.R_alloc|apply Kd.R_drewN|apply Kd.R_drew));exact HO189.out) (Kd.R_base ho0) hb);have n1_:=Aside0.mk (Kd.R_lower (Kd.R_new' ho0 (Kd.R_lt (by (with_reducible repeat (first|apply Kd.R_alloc|apply Kd.R_drewN|apply Kd.R_drew));exact HO189.out))) (below_size (by repeat (first|(with_reducible first|exact HB.out|apply below_alloc|apply pw_below_drewN|apply below_drew1)|exact HB.out))));have n2_:=Aside0.mk (below_step (by repeat (first|(with_reducible first|exact HB.out|apply below_alloc|apply pw_below_drewN|apply below_drew1)|exact HB.out)) hb);clear HO189;clear HB;have HO189:=n0_;have HO192:=n1_;have HB:=n2_;clear n0_ n1_ n2_;(try clear hb);(try clear hb2);(try clear hk);(try clear hi);(try clear ho0);obtain ⟨Ao8,co8,eo8⟩:=Kd.R_slice HO192.out;subst eo8)|((with_reducible refine gate_builtin (b:=.append) (xs:=#[.tmp 4,.tmp 7]) rfl ?_);at_builtin;refine Kd.R_append_rows (Kd.int .u8) (w0:=w) w.heap.size rfl (.tmp 4) (.tmp 7) 37 5 (.int .u8 0) 1 rfl Try.underlying37 info5 rfl (by decide) (by omega) v188 t187 t190 _ _ _ (fun k_=>some k_≠(.slice Ao8 t190.length co8:Value).ownBlock) (fun _=>False) rfl rfl ?aO ?aR (fun _ _ h=>h) (fun _ h=>h.elim) ?aF ?aB ?aS ?aL ?_;(case aR=>repeat (first|exact (Kd.R_reads' HO192.out).2.2|(with_reducible refine Kd.C_alloc ?_ _)|(with_reducible refine Kd.C_drewN ?_ _)|(with_reducible refine Kd.C_drew ?_)));(case aB=>exact (by repeat (first|(with_reducible first|exact HB.out|apply below_alloc|apply pw_below_drewN|apply below_drew1)|exact HB.out)));(case aF=>exact (fun k_ hk=>Kd.fresh' (Kd.R_lt (by (with_reducible repeat (first|apply Kd.R_alloc|apply Kd.R_drewN|apply Kd.R_drew));exact HO192.out)) k_ hk));(case aO=>exact (by (with_reducible repeat (first|apply Kd.R_alloc|apply Kd.R_drewN|apply Kd.R_drew));exact Kd.R_mono HO189.out (fun _ hk=>hk.2)));(case aS=>exact (below_size (by repeat (first|(with_reducible first|exact HB.out|apply below_alloc|apply pw_below_drewN|apply below_drew1)|exact HB.out))));(case aL=>have:=LMc4.out;omega);intro v194 w7 ho hb hg hat;rw [← Ny193.out] at ho;have n0_:=Aside0.mk (Kd.R_after (ok:=(fun _=>True)) (by (with_reducible repeat (first|apply Kd.R_alloc|apply Kd.R_drewN|apply Kd.R_drew));exact HO192.out) hg hat);have n1_:=Aside0.mk (hb);have n2_:=Aside0.mk (ho);clear HO192;clear HB;clear HO189;have HO192:=n0_;have HB:=n1_;have HO195:=n2_;clear n0_ n1_ n2_;clear ho hb hg hat))
  go_ret
  exact ⟨_,by first|rfl|(simp [errW_none,errW_some] <;> rfl)|(simp [*,errW_none,errW_some] <;> rfl),by (with_reducible repeat (first|apply Kd.R_alloc|apply Kd.R_drewN|apply Kd.R_drew));exact Kd.R_mono HO195.out (fun _ hk=>trivial),by repeat (first|(with_reducible first|exact HB.out|apply below_alloc|apply pw_below_drewN|apply below_drew1)|exact HB.out)⟩
 ·rw [if_neg c4] at H
  exact absurd H (by simp)
end Go.Proofs.Ythmeojeehemlaaa.PM
end
end
