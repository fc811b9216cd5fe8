/- Parts of the proof, laid together by a program of this session (pack.py): PIx8, PIx9. Of the kit's print what the claim does not use is left out. -/
import Derived.Test.YtbeikcckcjadbaaZL2
set_option linter.unusedVariables false
set_option linter.unusedSimpArgs false
set_option maxRecDepth 100000
set_option maxHeartbeats 16000000
section
namespace Go.Proofs.Ytbeikcckcjadbaa.PI
open Go.RowKit Go.Proofs.YtbeikcckcjadbaaW.PrintWords Go.Proofs.YtbeikcckcjadbaaW.PrintLast Go.Proofs.YtbeikcckcjadbaaW.PrintMore
attribute [local go_sem] isSome_setCell max2_int min2_int max_two min_two max_three min_three max_four min_four
def sr17u.l0:Nat→Int→Int→List (S54)→List (S68)→List (S56)→Int→Option (Int)
 | 0,_,_,_,_,_,_=>none
 | k+1,x3,x4,x149000,x149001,x149002,x149003=>if x4<(x149001.length:Int) then (if 0≤x4 then (if ((rd_T68 x149001 x4).f2)=x3 then (if ((rd_T68 x149001 x4).f3)<1 then (some x4) else (if ((rd_T68 x149001 x4).f3) > (wrap64 ((x149000.length:Int) - x3)) then (some x4) else (sr17u.l0 k (wrap64 (x3+((rd_T68 x149001 x4).f3))) (wrap64 (x4+1)) x149000 x149001 x149002 x149003))) else (some x4)) else (none)) else (if x3<(x149000.length:Int) then (some (x149001.length:Int)) else (some (-1)))
def sr17u.f (k:Nat) (l0_0:List (S54)) (l0_1:List (S68)) (l0_2:List (S56)) (a0_3:Int):Option (Int):=sr17u.l0 k 0 0 l0_0 l0_1 l0_2 a0_3
theorem sr17u.calls (k:Nat) (A0_0:Option Addr) (c0_0:Nat) (l0_0:List (S54)) (A0_1:Option Addr) (c0_1:Nat) (l0_1:List (S68)) (A0_2:Option Addr) (c0_2:Nat) (l0_2:List (S56)) (a0_3:Int) (r:Int) (w:World) (hr0_0:Kd.C k54 w A0_0 l0_0.length l0_0) (hc0_0:l0_0.length≤c0_0) (hr0_1:Kd.C k68 w A0_1 l0_1.length l0_1) (hc0_1:l0_1.length≤c0_1) (hr0_2:Kd.C k56 w A0_2 l0_2.length l0_2) (hc0_2:l0_2.length≤c0_2) (h:sr17u.f k l0_0 l0_1 l0_2 a0_3=some r) :
  Calls Try.prog 51 #[.agg #[.slice A0_0 l0_0.length c0_0,.slice A0_1 l0_1.length c0_1,.slice A0_2 l0_2.length c0_2,.int .i64 a0_3]] w fun e w'=>e=.returned (.int .i64 r)∧Below w.heap.size w w':=by
 have hu26:=Try.underlying26
 have hu68:=Try.underlying68
 have HR0_0:=As0.mk hr0_0
 have HC0_0:=As0.mk hc0_0
 clear hr0_0 hc0_0
 have HR0_1:=As0.mk hr0_1
 have HC0_1:=As0.mk hc0_1
 clear hr0_1 hc0_1
 have HR0_2:=As0.mk hr0_2
 have HC0_2:=As0.mk hc0_2
 clear hr0_2 hc0_2
 have HB:=As0.mk (Below.refl w.heap.size w)
 have H:(sr17u.l0 k 0 0 l0_0 l0_1 l0_2 a0_3)=some r:=h
 clear h
 have H':=As0.mk H
 clear H
 go_enter Try.func51,Try.ntmps51
 go_wp2_with (first|((with_reducible refine gtD (N:=1) rfl ?_);(try (refine gate_guard (by rfl) ?_;dsimp only));refine bxE ?hg (N:=1) ?hd (cs:=#[.slice A0_0 l0_0.length c0_0,.slice A0_1 l0_1.length c0_1,.slice A0_2 l0_2.length c0_2,.int .i64 a0_3]) (t:=26) ?hr ?_;(case hd=>rfl);(case hg=>rfl);(case hr=>first|(go_simp;done)|(go_simp;rfl));intro gb148 hg w2 hbox hb;have n0_:=As0.mk (bdT (by repeat (first|(with_reducible first|exact HB.out|apply bdA|apply bdN|apply bd1)|exact HB.out)) hb);have n1_:=As0.mk (hbox);have n2_:=As0.mk ((by rw [hg];exact (bdZ (by repeat (first|(with_reducible first|exact HB.out|apply bdA|apply bdN|apply bd1)|exact HB.out))):w.heap.size≤gb148));have n3_:=As0.mk ((by rw [hg];exact (bdZ (by repeat (first|(with_reducible first|exact HB.out|apply bdA|apply bdN|apply bd1)|exact HB.out))):w.heap.size≤gb148));clear HB;have HB:=n0_;have BK148:=n1_;have GW148:=n2_;have GE148:=n3_;clear n0_ n1_ n2_ n3_;clear hb hbox hg))
 go_loopg [3,4] k (fun kq v3 v4 w'=>∃ (x3_1:Int) (x4_1:Int),v3=.int .i64 x3_1∧v4=.int .i64 x4_1∧As0 (sr17u.l0 kq x3_1 x4_1 l0_0 l0_1 l0_2 a0_3=some r)∧As0 (kq≤k)∧As0 (w'.heap[gb148]?=some (.cells #[(.slice A0_0 l0_0.length c0_0),(.slice A0_1 l0_1.length c0_1),(.slice A0_2 l0_2.length c0_2),.int .i64 a0_3] 26 (0,0)))∧As0 (Below w.heap.size w w'))
 case atStart=>exact ⟨(0),(0),(by first|rfl|(simp;done)|(simp [*];done)),(by first|rfl|(simp;done)|(simp [*];done)),H',⟨Nat.le_refl _⟩,⟨by (with_reducible repeat (first|refine bkN ?_ _|refine bkD ?_|refine bkA ?_ _));exact BK148.out⟩,⟨by repeat (first|(with_reducible first|exact HB.out|apply bdA|apply bdN|apply bd1|refine bdS ?_ GE148.out)|exact HB.out)⟩⟩
 case round =>
  clear H'
  try clear p2
  obtain ⟨x3_1,x4_1,rfl,rfl,HA,HK1,BK148,HB⟩:=hrel
  cases gk with
  | zero=>exact absurd HA.out (by simp [sr17u.l0])
  | succ k1 =>
   have H:=HA.out
   clear HA
   simp only [sr17u.l0] at H
   by_cases c3:x4_1<(l0_1.length:Int)
   ·rw [if_pos c3] at H
    have c3b0:decide (x4_1<(l0_1.length:Int))=true:=decide_eq_true c3
    clear c3
    by_cases c4:0≤x4_1
    ·rw [if_pos c4] at H
     have c4b0:decide (0≤x4_1)=true:=decide_eq_true c4
     clear c4
     by_cases c5:((rd_T68 l0_1 x4_1).f2)=x3_1
     ·rw [if_pos c5] at H
      have c5b0:(((rd_T68 l0_1 x4_1).f2) == x3_1)=true:=beq_iff_eq.mpr c5
      have c5b1:(((rd_T68 l0_1 x4_1).f2) != x3_1)=false:=bne_eq_false_iff_eq.mpr c5
      clear c5
      by_cases c6:((rd_T68 l0_1 x4_1).f3)<1
      ·rw [if_pos c6] at H
       have c6b0:decide (((rd_T68 l0_1 x4_1).f3)<1)=true:=decide_eq_true c6
       clear c6
       obtain rfl:=Option.some.inj H
       have hcz7_0:wr.cell? ⟨gb148,0,none⟩=some (.slice A0_0 l0_0.length c0_0):=(bkC BK148.out 0).trans rfl
       have hcz7_1:wr.cell? ⟨gb148,1,none⟩=some (.slice A0_1 l0_1.length c0_1):=(bkC BK148.out 1).trans rfl
       have hcz7_2:wr.cell? ⟨gb148,2,none⟩=some (.slice A0_2 l0_2.length c0_2):=(bkC BK148.out 2).trans rfl
       have hcz7_3:wr.cell? ⟨gb148,3,none⟩=some (.int .i64 a0_3):=(bkC BK148.out 3).trans rfl
       have hfz7_0:=bkF BK148.out 0
       have hfz7_1:=bkF BK148.out 1
       have hfz7_2:=bkF BK148.out 2
       have hfz7_3:=bkF BK148.out 3
       have p149:0≤(x4_1:Int):=of_decide_eq_true (by first|(with_reducible assumption)|assumption)
       have q149:x4_1<(l0_1.length:Int):=of_decide_eq_true (by first|(with_reducible assumption)|assumption)
       obtain ⟨ad149,e149,hx149_0,hx149_1,hx149_2,hx149_3⟩:=at_T68 HR0_1.out x4_1 p149 q149
       cases e149
       replace hx149_0:=(HB.out.cell (World.block_lt_of_cell? w _ hx149_0)).trans hx149_0
       replace hx149_1:=(HB.out.cell (World.block_lt_of_cell? w _ hx149_1)).trans hx149_1
       replace hx149_2:=(HB.out.cell (World.block_lt_of_cell? w _ hx149_2)).trans hx149_2
       replace hx149_3:=(HB.out.cell (World.block_lt_of_cell? w _ hx149_3)).trans hx149_3
       replace p149:=eq_true p149
       replace q149:=eq_true q149
       go_wp2_with (first|((with_reducible refine gtD (N:=5) rfl ?_);(try (refine gate_guard (by rfl) ?_;dsimp only));refine bxE ?hg (N:=5) ?hd (cs:=#[.string (⟨#[]⟩:ByteArray),.int .i64 0,.int .i64 0,.int .i64 0]) (t:=68) ?hr ?_;(case hd=>rfl);(case hg=>rfl);(case hr=>first|(go_simp;done)|(go_simp;rfl));intro gb150 hg w8 hbox hb;have n0_:=As0.mk (bkB (g:=gb148) (o:=.cells #[.slice A0_0 l0_0.length c0_0,.slice (some ad149) l0_1.length c0_1,.slice A0_2 l0_2.length c0_2,.int .i64 a0_3] 26 (0,0)) (by (with_reducible repeat (first|refine bkN ?_ _|refine bkD ?_|refine bkA ?_ _));exact BK148.out) hb);have n1_:=As0.mk (bdT (by repeat (first|(with_reducible first|exact HB.out|apply bdA|apply bdN|apply bd1|refine bdS ?_ GE148.out)|exact HB.out)) hb);have n2_:=As0.mk (hbox);have n3_:=As0.mk ((by rw [hg];exact (bdZ (by repeat (first|(with_reducible first|exact HB.out|apply bdA|apply bdN|apply bd1|refine bdS ?_ GE148.out)|exact HB.out))):w.heap.size≤gb150));have n4_:=As0.mk ((by rw [hg];exact (bdZ (by repeat (first|(with_reducible first|exact HB.out|apply bdA|apply bdN|apply bd1|refine bdS ?_ GE148.out)|exact HB.out))):w.heap.size≤gb150));have n5_:=As0.mk ((by rw [hg];exact Nat.ne_of_lt (blk_lt (g:=gb148) (o:=.cells #[.slice A0_0 l0_0.length c0_0,.slice (some ad149) l0_1.length c0_1,.slice A0_2 l0_2.length c0_2,.int .i64 a0_3] 26 (0,0)) (by (with_reducible repeat (first|refine bkN ?_ _|refine bkD ?_|refine bkA ?_ _));exact BK148.out)):gb148≠gb150));have n6_:=As0.mk ((by rw [hg];exact Nat.ne_of_gt (blk_lt (g:=gb148) (o:=.cells #[.slice A0_0 l0_0.length c0_0,.slice (some ad149) l0_1.length c0_1,.slice A0_2 l0_2.length c0_2,.int .i64 a0_3] 26 (0,0)) (by (with_reducible repeat (first|refine bkN ?_ _|refine bkD ?_|refine bkA ?_ _));exact BK148.out)):gb150≠gb148));clear BK148;clear HB;have BK148:=n0_;have HB:=n1_;have BK150:=n2_;have GW150:=n3_;have GE150:=n4_;have NB148_150:=n5_;have NB150_148:=n6_;clear n0_ n1_ n2_ n3_ n4_ n5_ n6_;clear hb hbox hg;have hnb9:=NB150_148.out;have hnc9:=NB148_150.out;have hcz10_0:w8.cell? ⟨gb150,0,none⟩=some (.string (⟨#[]⟩:ByteArray)):=(bkC BK150.out 0).trans rfl;have hcz10_1:w8.cell? ⟨gb150,1,none⟩=some (.int .i64 0):=(bkC BK150.out 1).trans rfl;have hcz10_2:w8.cell? ⟨gb150,2,none⟩=some (.int .i64 0):=(bkC BK150.out 2).trans rfl;have hcz10_3:w8.cell? ⟨gb150,3,none⟩=some (.int .i64 0):=(bkC BK150.out 3).trans rfl;have hfz10_0:=bkF BK150.out 0;have hfz10_1:=bkF BK150.out 1;have hfz10_2:=bkF BK150.out 2;have hfz10_3:=bkF BK150.out 3))
       go_ret
       exact ⟨by first|rfl|(simp [errW_none,errW_some] <;> rfl)|(simp [*,errW_none,errW_some] <;> rfl),by repeat (first|(with_reducible first|exact HB.out|apply bdA|apply bdN|apply bd1|refine bdS ?_ GE148.out|refine bdS ?_ GE150.out)|exact HB.out)⟩
      ·rw [if_neg c6] at H
       have c6b0:decide (((rd_T68 l0_1 x4_1).f3)<1)=false:=decide_eq_false c6
       clear c6
       by_cases c11:((rd_T68 l0_1 x4_1).f3) > (wrap64 ((l0_0.length:Int) - x3_1))
       ·rw [if_pos c11] at H
        have c11b0:decide ((wrap64 ((l0_0.length:Int) - x3_1))<((rd_T68 l0_1 x4_1).f3))=true:=decide_eq_true c11
        clear c11
        obtain rfl:=Option.some.inj H
        have hcz12_0:wr.cell? ⟨gb148,0,none⟩=some (.slice A0_0 l0_0.length c0_0):=(bkC BK148.out 0).trans rfl
        have hcz12_1:wr.cell? ⟨gb148,1,none⟩=some (.slice A0_1 l0_1.length c0_1):=(bkC BK148.out 1).trans rfl
        have hcz12_2:wr.cell? ⟨gb148,2,none⟩=some (.slice A0_2 l0_2.length c0_2):=(bkC BK148.out 2).trans rfl
        have hcz12_3:wr.cell? ⟨gb148,3,none⟩=some (.int .i64 a0_3):=(bkC BK148.out 3).trans rfl
        have hfz12_0:=bkF BK148.out 0
        have hfz12_1:=bkF BK148.out 1
        have hfz12_2:=bkF BK148.out 2
        have hfz12_3:=bkF BK148.out 3
        have p149:0≤(x4_1:Int):=of_decide_eq_true (by first|(with_reducible assumption)|assumption)
        have q149:x4_1<(l0_1.length:Int):=of_decide_eq_true (by first|(with_reducible assumption)|assumption)
        obtain ⟨ad149,e149,hx149_0,hx149_1,hx149_2,hx149_3⟩:=at_T68 HR0_1.out x4_1 p149 q149
        cases e149
        replace hx149_0:=(HB.out.cell (World.block_lt_of_cell? w _ hx149_0)).trans hx149_0
        replace hx149_1:=(HB.out.cell (World.block_lt_of_cell? w _ hx149_1)).trans hx149_1
        replace hx149_2:=(HB.out.cell (World.block_lt_of_cell? w _ hx149_2)).trans hx149_2
        replace hx149_3:=(HB.out.cell (World.block_lt_of_cell? w _ hx149_3)).trans hx149_3
        replace p149:=eq_true p149
        replace q149:=eq_true q149
        go_wp2_with (first|((with_reducible refine gtD (N:=5) rfl ?_);(try (refine gate_guard (by rfl) ?_;dsimp only));refine bxE ?hg (N:=5) ?hd (cs:=#[.string (⟨#[]⟩:ByteArray),.int .i64 0,.int .i64 0,.int .i64 0]) (t:=68) ?hr ?_;(case hd=>rfl);(case hg=>rfl);(case hr=>first|(go_simp;done)|(go_simp;rfl));intro gb150 hg w13 hbox hb;have n0_:=As0.mk (bkB (g:=gb148) (o:=.cells #[.slice A0_0 l0_0.length c0_0,.slice (some ad149) l0_1.length c0_1,.slice A0_2 l0_2.length c0_2,.int .i64 a0_3] 26 (0,0)) (by (with_reducible repeat (first|refine bkN ?_ _|refine bkD ?_|refine bkA ?_ _));exact BK148.out) hb);have n1_:=As0.mk (bdT (by repeat (first|(with_reducible first|exact HB.out|apply bdA|apply bdN|apply bd1|refine bdS ?_ GE148.out)|exact HB.out)) hb);have n2_:=As0.mk (hbox);have n3_:=As0.mk ((by rw [hg];exact (bdZ (by repeat (first|(with_reducible first|exact HB.out|apply bdA|apply bdN|apply bd1|refine bdS ?_ GE148.out)|exact HB.out))):w.heap.size≤gb150));have n4_:=As0.mk ((by rw [hg];exact (bdZ (by repeat (first|(with_reducible first|exact HB.out|apply bdA|apply bdN|apply bd1|refine bdS ?_ GE148.out)|exact HB.out))):w.heap.size≤gb150));have n5_:=As0.mk ((by rw [hg];exact Nat.ne_of_lt (blk_lt (g:=gb148) (o:=.cells #[.slice A0_0 l0_0.length c0_0,.slice (some ad149) l0_1.length c0_1,.slice A0_2 l0_2.length c0_2,.int .i64 a0_3] 26 (0,0)) (by (with_reducible repeat (first|refine bkN ?_ _|refine bkD ?_|refine bkA ?_ _));exact BK148.out)):gb148≠gb150));have n6_:=As0.mk ((by rw [hg];exact Nat.ne_of_gt (blk_lt (g:=gb148) (o:=.cells #[.slice A0_0 l0_0.length c0_0,.slice (some ad149) l0_1.length c0_1,.slice A0_2 l0_2.length c0_2,.int .i64 a0_3] 26 (0,0)) (by (with_reducible repeat (first|refine bkN ?_ _|refine bkD ?_|refine bkA ?_ _));exact BK148.out)):gb150≠gb148));clear BK148;clear HB;have BK148:=n0_;have HB:=n1_;have BK150:=n2_;have GW150:=n3_;have GE150:=n4_;have NB148_150:=n5_;have NB150_148:=n6_;clear n0_ n1_ n2_ n3_ n4_ n5_ n6_;clear hb hbox hg;have hnb14:=NB150_148.out;have hnc14:=NB148_150.out;have hcz15_0:w13.cell? ⟨gb150,0,none⟩=some (.string (⟨#[]⟩:ByteArray)):=(bkC BK150.out 0).trans rfl;have hcz15_1:w13.cell? ⟨gb150,1,none⟩=some (.int .i64 0):=(bkC BK150.out 1).trans rfl;have hcz15_2:w13.cell? ⟨gb150,2,none⟩=some (.int .i64 0):=(bkC BK150.out 2).trans rfl;have hcz15_3:w13.cell? ⟨gb150,3,none⟩=some (.int .i64 0):=(bkC BK150.out 3).trans rfl;have hfz15_0:=bkF BK150.out 0;have hfz15_1:=bkF BK150.out 1;have hfz15_2:=bkF BK150.out 2;have hfz15_3:=bkF BK150.out 3;have hcz16_0:w13.cell? ⟨gb148,0,none⟩=some (.slice A0_0 l0_0.length c0_0):=(bkC BK148.out 0).trans rfl;have hcz16_1:w13.cell? ⟨gb148,1,none⟩=some (.slice (some ad149) l0_1.length c0_1):=(bkC BK148.out 1).trans rfl;have hcz16_2:w13.cell? ⟨gb148,2,none⟩=some (.slice A0_2 l0_2.length c0_2):=(bkC BK148.out 2).trans rfl;have hcz16_3:w13.cell? ⟨gb148,3,none⟩=some (.int .i64 a0_3):=(bkC BK148.out 3).trans rfl;have hfz16_0:=bkF BK148.out 0;have hfz16_1:=bkF BK148.out 1;have hfz16_2:=bkF BK148.out 2;have hfz16_3:=bkF BK148.out 3))
        go_ret
        exact ⟨by first|rfl|(simp [errW_none,errW_some] <;> rfl)|(simp [*,errW_none,errW_some] <;> rfl),by repeat (first|(with_reducible first|exact HB.out|apply bdA|apply bdN|apply bd1|refine bdS ?_ GE148.out|refine bdS ?_ GE150.out)|exact HB.out)⟩
       ·rw [if_neg c11] at H
        have c11b0:decide ((wrap64 ((l0_0.length:Int) - x3_1))<((rd_T68 l0_1 x4_1).f3))=false:=decide_eq_false c11
        clear c11
        have H':=As0.mk H
        clear H
        have hcz17_0:wr.cell? ⟨gb148,0,none⟩=some (.slice A0_0 l0_0.length c0_0):=(bkC BK148.out 0).trans rfl
        have hcz17_1:wr.cell? ⟨gb148,1,none⟩=some (.slice A0_1 l0_1.length c0_1):=(bkC BK148.out 1).trans rfl
        have hcz17_2:wr.cell? ⟨gb148,2,none⟩=some (.slice A0_2 l0_2.length c0_2):=(bkC BK148.out 2).trans rfl
        have hcz17_3:wr.cell? ⟨gb148,3,none⟩=some (.int .i64 a0_3):=(bkC BK148.out 3).trans rfl
        have hfz17_0:=bkF BK148.out 0
        have hfz17_1:=bkF BK148.out 1
        have hfz17_2:=bkF BK148.out 2
        have hfz17_3:=bkF BK148.out 3
        have p149:0≤(x4_1:Int):=of_decide_eq_true (by first|(with_reducible assumption)|assumption)
        have q149:x4_1<(l0_1.length:Int):=of_decide_eq_true (by first|(with_reducible assumption)|assumption)
        obtain ⟨ad149,e149,hx149_0,hx149_1,hx149_2,hx149_3⟩:=at_T68 HR0_1.out x4_1 p149 q149
        cases e149
        replace hx149_0:=(HB.out.cell (World.block_lt_of_cell? w _ hx149_0)).trans hx149_0
        replace hx149_1:=(HB.out.cell (World.block_lt_of_cell? w _ hx149_1)).trans hx149_1
        replace hx149_2:=(HB.out.cell (World.block_lt_of_cell? w _ hx149_2)).trans hx149_2
        replace hx149_3:=(HB.out.cell (World.block_lt_of_cell? w _ hx149_3)).trans hx149_3
        replace p149:=eq_true p149
        replace q149:=eq_true q149
        go_wp2_with (first|((with_reducible refine gtD (N:=5) rfl ?_);(try (refine gate_guard (by rfl) ?_;dsimp only));refine bxE ?hg (N:=5) ?hd (cs:=#[.string (⟨#[]⟩:ByteArray),.int .i64 0,.int .i64 0,.int .i64 0]) (t:=68) ?hr ?_;(case hd=>rfl);(case hg=>rfl);(case hr=>first|(go_simp;done)|(go_simp;rfl));intro gb150 hg w18 hbox hb;have n0_:=As0.mk (bkB (g:=gb148) (o:=.cells #[.slice A0_0 l0_0.length c0_0,.slice (some ad149) l0_1.length c0_1,.slice A0_2 l0_2.length c0_2,.int .i64 a0_3] 26 (0,0)) (by (with_reducible repeat (first|refine bkN ?_ _|refine bkD ?_|refine bkA ?_ _));exact BK148.out) hb);have n1_:=As0.mk (bdT (by repeat (first|(with_reducible first|exact HB.out|apply bdA|apply bdN|apply bd1|refine bdS ?_ GE148.out)|exact HB.out)) hb);have n2_:=As0.mk (hbox);have n3_:=As0.mk ((by rw [hg];exact (bdZ (by repeat (first|(with_reducible first|exact HB.out|apply bdA|apply bdN|apply bd1|refine bdS ?_ GE148.out)|exact HB.out))):w.heap.size≤gb150));have n4_:=As0.mk ((by rw [hg];exact (bdZ (by repeat (first|(with_reducible first|exact HB.out|apply bdA|apply bdN|apply bd1|refine bdS ?_ GE148.out)|exact HB.out))):w.heap.size≤gb150));have n5_:=As0.mk ((by rw [hg];exact Nat.ne_of_lt (blk_lt (g:=gb148) (o:=.cells #[.slice A0_0 l0_0.length c0_0,.slice (some ad149) l0_1.length c0_1,.slice A0_2 l0_2.length c0_2,.int .i64 a0_3] 26 (0,0)) (by (with_reducible repeat (first|refine bkN ?_ _|refine bkD ?_|refine bkA ?_ _));exact BK148.out)):gb148≠gb150));have n6_:=As0.mk ((by rw [hg];exact Nat.ne_of_gt (blk_lt (g:=gb148) (o:=.cells #[.slice A0_0 l0_0.length c0_0,.slice (some ad149) l0_1.length c0_1,.slice A0_2 l0_2.length c0_2,.int .i64 a0_3] 26 (0,0)) (by (with_reducible repeat (first|refine bkN ?_ _|refine bkD ?_|refine bkA ?_ _));exact BK148.out)):gb150≠gb148));clear BK148;clear HB;have BK148:=n0_;have HB:=n1_;have BK150:=n2_;have GW150:=n3_;have GE150:=n4_;have NB148_150:=n5_;have NB150_148:=n6_;clear n0_ n1_ n2_ n3_ n4_ n5_ n6_;clear hb hbox hg;have hnb19:=NB150_148.out;have hnc19:=NB148_150.out;have hcz20_0:w18.cell? ⟨gb150,0,none⟩=some (.string (⟨#[]⟩:ByteArray)):=(bkC BK150.out 0).trans rfl;have hcz20_1:w18.cell? ⟨gb150,1,none⟩=some (.int .i64 0):=(bkC BK150.out 1).trans rfl;have hcz20_2:w18.cell? ⟨gb150,2,none⟩=some (.int .i64 0):=(bkC BK150.out 2).trans rfl;have hcz20_3:w18.cell? ⟨gb150,3,none⟩=some (.int .i64 0):=(bkC BK150.out 3).trans rfl;have hfz20_0:=bkF BK150.out 0;have hfz20_1:=bkF BK150.out 1;have hfz20_2:=bkF BK150.out 2;have hfz20_3:=bkF BK150.out 3;have hcz21_0:w18.cell? ⟨gb148,0,none⟩=some (.slice A0_0 l0_0.length c0_0):=(bkC BK148.out 0).trans rfl;have hcz21_1:w18.cell? ⟨gb148,1,none⟩=some (.slice (some ad149) l0_1.length c0_1):=(bkC BK148.out 1).trans rfl;have hcz21_2:w18.cell? ⟨gb148,2,none⟩=some (.slice A0_2 l0_2.length c0_2):=(bkC BK148.out 2).trans rfl;have hcz21_3:w18.cell? ⟨gb148,3,none⟩=some (.int .i64 a0_3):=(bkC BK148.out 3).trans rfl;have hfz21_0:=bkF BK148.out 0;have hfz21_1:=bkF BK148.out 1;have hfz21_2:=bkF BK148.out 2;have hfz21_3:=bkF BK148.out 3))
        go_roundg k1
        case measure=>have:=HK1.out;omega
        case rel=>exact ⟨(wrap64 (x3_1+((rd_T68 l0_1 x4_1).f3))),(wrap64 (x4_1+1)),(by first|rfl|(simp;done)|(simp [*];done)),(by first|rfl|(simp;done)|(simp [*];done)),H',⟨by have:=HK1.out;omega⟩,⟨by (with_reducible repeat (first|refine bkN ?_ _|refine bkD ?_|refine bkA ?_ _));refine bkR ?_ NB148_150.out _;(with_reducible repeat (first|refine bkN ?_ _|refine bkD ?_|refine bkA ?_ _));refine bkR ?_ NB148_150.out _;(with_reducible repeat (first|refine bkN ?_ _|refine bkD ?_|refine bkA ?_ _));refine bkR ?_ NB148_150.out _;(with_reducible repeat (first|refine bkN ?_ _|refine bkD ?_|refine bkA ?_ _));refine bkR ?_ NB148_150.out _;(with_reducible repeat (first|refine bkN ?_ _|refine bkD ?_|refine bkA ?_ _));exact BK148.out⟩,⟨by repeat (first|(with_reducible first|exact HB.out|apply bdA|apply bdN|apply bd1|refine bdS ?_ GE148.out|refine bdS ?_ GE150.out)|exact HB.out)⟩⟩
     ·rw [if_neg c5] at H
      have c5b0:(((rd_T68 l0_1 x4_1).f2) == x3_1)=false:=beq_eq_false_iff_ne.mpr c5
      have c5b1:(((rd_T68 l0_1 x4_1).f2) != x3_1)=true:=bne_iff_ne.mpr c5
      obtain rfl:=Option.some.inj H
      have hcz22_0:wr.cell? ⟨gb148,0,none⟩=some (.slice A0_0 l0_0.length c0_0):=(bkC BK148.out 0).trans rfl
      have hcz22_1:wr.cell? ⟨gb148,1,none⟩=some (.slice A0_1 l0_1.length c0_1):=(bkC BK148.out 1).trans rfl
      have hcz22_2:wr.cell? ⟨gb148,2,none⟩=some (.slice A0_2 l0_2.length c0_2):=(bkC BK148.out 2).trans rfl
      have hcz22_3:wr.cell? ⟨gb148,3,none⟩=some (.int .i64 a0_3):=(bkC BK148.out 3).trans rfl
      have hfz22_0:=bkF BK148.out 0
      have hfz22_1:=bkF BK148.out 1
      have hfz22_2:=bkF BK148.out 2
      have hfz22_3:=bkF BK148.out 3
      have p149:0≤(x4_1:Int):=of_decide_eq_true (by first|(with_reducible assumption)|assumption)
      have q149:x4_1<(l0_1.length:Int):=of_decide_eq_true (by first|(with_reducible assumption)|assumption)
      obtain ⟨ad149,e149,hx149_0,hx149_1,hx149_2,hx149_3⟩:=at_T68 HR0_1.out x4_1 p149 q149
      cases e149
      replace hx149_0:=(HB.out.cell (World.block_lt_of_cell? w _ hx149_0)).trans hx149_0
      replace hx149_1:=(HB.out.cell (World.block_lt_of_cell? w _ hx149_1)).trans hx149_1
      replace hx149_2:=(HB.out.cell (World.block_lt_of_cell? w _ hx149_2)).trans hx149_2
      replace hx149_3:=(HB.out.cell (World.block_lt_of_cell? w _ hx149_3)).trans hx149_3
      replace p149:=eq_true p149
      replace q149:=eq_true q149
      go_wp2_with (first|((with_reducible refine gtD (N:=5) rfl ?_);(try (refine gate_guard (by rfl) ?_;dsimp only));refine bxE ?hg (N:=5) ?hd (cs:=#[.string (⟨#[]⟩:ByteArray),.int .i64 0,.int .i64 0,.int .i64 0]) (t:=68) ?hr ?_;(case hd=>rfl);(case hg=>rfl);(case hr=>first|(go_simp;done)|(go_simp;rfl));intro gb150 hg w23 hbox hb;have n0_:=As0.mk (bkB (g:=gb148) (o:=.cells #[.slice A0_0 l0_0.length c0_0,.slice (some ad149) l0_1.length c0_1,.slice A0_2 l0_2.length c0_2,.int .i64 a0_3] 26 (0,0)) (by (with_reducible repeat (first|refine bkN ?_ _|refine bkD ?_|refine bkA ?_ _));exact BK148.out) hb);have n1_:=As0.mk (bdT (by repeat (first|(with_reducible first|exact HB.out|apply bdA|apply bdN|apply bd1|refine bdS ?_ GE148.out)|exact HB.out)) hb);have n2_:=As0.mk (hbox);have n3_:=As0.mk ((by rw [hg];exact (bdZ (by repeat (first|(with_reducible first|exact HB.out|apply bdA|apply bdN|apply bd1|refine bdS ?_ GE148.out)|exact HB.out))):w.heap.size≤gb150));have n4_:=As0.mk ((by rw [hg];exact (bdZ (by repeat (first|(with_reducible first|exact HB.out|apply bdA|apply bdN|apply bd1|refine bdS ?_ GE148.out)|exact HB.out))):w.heap.size≤gb150));have n5_:=As0.mk ((by rw [hg];exact Nat.ne_of_lt (blk_lt (g:=gb148) (o:=.cells #[.slice A0_0 l0_0.length c0_0,.slice (some ad149) l0_1.length c0_1,.slice A0_2 l0_2.length c0_2,.int .i64 a0_3] 26 (0,0)) (by (with_reducible repeat (first|refine bkN ?_ _|refine bkD ?_|refine bkA ?_ _));exact BK148.out)):gb148≠gb150));have n6_:=As0.mk ((by rw [hg];exact Nat.ne_of_gt (blk_lt (g:=gb148) (o:=.cells #[.slice A0_0 l0_0.length c0_0,.slice (some ad149) l0_1.length c0_1,.slice A0_2 l0_2.length c0_2,.int .i64 a0_3] 26 (0,0)) (by (with_reducible repeat (first|refine bkN ?_ _|refine bkD ?_|refine bkA ?_ _));exact BK148.out)):gb150≠gb148));clear BK148;clear HB;have BK148:=n0_;have HB:=n1_;have BK150:=n2_;have GW150:=n3_;have GE150:=n4_;have NB148_150:=n5_;have NB150_148:=n6_;clear n0_ n1_ n2_ n3_ n4_ n5_ n6_;clear hb hbox hg;have hnb24:=NB150_148.out;have hnc24:=NB148_150.out;have hcz25_0:w23.cell? ⟨gb150,0,none⟩=some (.string (⟨#[]⟩:ByteArray)):=(bkC BK150.out 0).trans rfl;have hcz25_1:w23.cell? ⟨gb150,1,none⟩=some (.int .i64 0):=(bkC BK150.out 1).trans rfl;have hcz25_2:w23.cell? ⟨gb150,2,none⟩=some (.int .i64 0):=(bkC BK150.out 2).trans rfl;have hcz25_3:w23.cell? ⟨gb150,3,none⟩=some (.int .i64 0):=(bkC BK150.out 3).trans rfl;have hfz25_0:=bkF BK150.out 0;have hfz25_1:=bkF BK150.out 1;have hfz25_2:=bkF BK150.out 2;have hfz25_3:=bkF BK150.out 3))
      go_ret
      exact ⟨by first|rfl|(simp [errW_none,errW_some] <;> rfl)|(simp [*,errW_none,errW_some] <;> rfl),by repeat (first|(with_reducible first|exact HB.out|apply bdA|apply bdN|apply bd1|refine bdS ?_ GE148.out|refine bdS ?_ GE150.out)|exact HB.out)⟩
    ·rw [if_neg c4] at H
     exact absurd H (by simp)
   ·rw [if_neg c3] at H
    have c3b0:decide (x4_1<(l0_1.length:Int))=false:=decide_eq_false c3
    clear c3
    by_cases c26:x3_1<(l0_0.length:Int)
    ·rw [if_pos c26] at H
     have c26b0:decide (x3_1<(l0_0.length:Int))=true:=decide_eq_true c26
     clear c26
     obtain rfl:=Option.some.inj H
     have hcz27_0:wr.cell? ⟨gb148,0,none⟩=some (.slice A0_0 l0_0.length c0_0):=(bkC BK148.out 0).trans rfl
     have hcz27_1:wr.cell? ⟨gb148,1,none⟩=some (.slice A0_1 l0_1.length c0_1):=(bkC BK148.out 1).trans rfl
     have hcz27_2:wr.cell? ⟨gb148,2,none⟩=some (.slice A0_2 l0_2.length c0_2):=(bkC BK148.out 2).trans rfl
     have hcz27_3:wr.cell? ⟨gb148,3,none⟩=some (.int .i64 a0_3):=(bkC BK148.out 3).trans rfl
     have hfz27_0:=bkF BK148.out 0
     have hfz27_1:=bkF BK148.out 1
     have hfz27_2:=bkF BK148.out 2
     have hfz27_3:=bkF BK148.out 3
     go_wp2
     go_ret
     exact ⟨by first|rfl|(simp [errW_none,errW_some] <;> rfl)|(simp [*,errW_none,errW_some] <;> rfl),by repeat (first|(with_reducible first|exact HB.out|apply bdA|apply bdN|apply bd1|refine bdS ?_ GE148.out)|exact HB.out)⟩
    ·rw [if_neg c26] at H
     have c26b0:decide (x3_1<(l0_0.length:Int))=false:=decide_eq_false c26
     clear c26
     obtain rfl:=Option.some.inj H
     have hcz28_0:wr.cell? ⟨gb148,0,none⟩=some (.slice A0_0 l0_0.length c0_0):=(bkC BK148.out 0).trans rfl
     have hcz28_1:wr.cell? ⟨gb148,1,none⟩=some (.slice A0_1 l0_1.length c0_1):=(bkC BK148.out 1).trans rfl
     have hcz28_2:wr.cell? ⟨gb148,2,none⟩=some (.slice A0_2 l0_2.length c0_2):=(bkC BK148.out 2).trans rfl
     have hcz28_3:wr.cell? ⟨gb148,3,none⟩=some (.int .i64 a0_3):=(bkC BK148.out 3).trans rfl
     have hfz28_0:=bkF BK148.out 0
     have hfz28_1:=bkF BK148.out 1
     have hfz28_2:=bkF BK148.out 2
     have hfz28_3:=bkF BK148.out 3
     go_wp2
     go_ret
     exact ⟨by first|rfl|(simp [errW_none,errW_some] <;> rfl)|(simp [*,errW_none,errW_some] <;> rfl),by repeat (first|(with_reducible first|exact HB.out|apply bdA|apply bdN|apply bd1|refine bdS ?_ GE148.out)|exact HB.out)⟩
def spindleref12_TableSize.f (a0_0:ByteArray) (a0_1:Int) (a0_2:Int) (a0_3:Int) (a0_4:Int):Option (Int):=some (wrap64 (a0_4*(wrap64 ((wrap64 (a0_2+(wrap64 ((wrap64 (Int.tdiv (wrap64 (a0_3+7)) 8))*8))))+8))))
theorem spindleref12_TableSize.calls (a0_0:ByteArray) (a0_1:Int) (a0_2:Int) (a0_3:Int) (a0_4:Int) (r:Int) (w:World) (h:spindleref12_TableSize.f a0_0 a0_1 a0_2 a0_3 a0_4=some r) :
  Calls Try.prog 83 #[.agg #[.string a0_0,.int .i64 a0_1,.int .i64 a0_2,.int .i64 a0_3,.int .i64 a0_4]] w fun e w'=>e=.returned (.int .i64 r)∧Below w.heap.size w w':=by
 have hu56:=Try.underlying56
 have HB:=As0.mk (Below.refl w.heap.size w)
 have H:(some (wrap64 (a0_4*(wrap64 ((wrap64 (a0_2+(wrap64 ((wrap64 (Int.tdiv (wrap64 (a0_3+7)) 8))*8))))+8)))))=some r:=h
 clear h
 obtain rfl:=Option.some.inj H
 go_enter Try.func83,Try.ntmps83
 go_wp2_with (first|((with_reducible refine gtD (N:=1) rfl ?_);refine bxE ?hg (N:=1) ?hd (cs:=#[.string a0_0,.int .i64 a0_1,.int .i64 a0_2,.int .i64 a0_3,.int .i64 a0_4]) (t:=56) ?hr ?_;(case hd=>rfl);(case hg=>rfl);(case hr=>first|(go_simp;done)|(go_simp;rfl));intro gb151 hg w2 hbox hb;have n0_:=As0.mk (bdT (by repeat (first|(with_reducible first|exact HB.out|apply bdA|apply bdN|apply bd1)|exact HB.out)) hb);have n1_:=As0.mk (hbox);have n2_:=As0.mk ((by rw [hg];exact (bdZ (by repeat (first|(with_reducible first|exact HB.out|apply bdA|apply bdN|apply bd1)|exact HB.out))):w.heap.size≤gb151));have n3_:=As0.mk ((by rw [hg];exact (bdZ (by repeat (first|(with_reducible first|exact HB.out|apply bdA|apply bdN|apply bd1)|exact HB.out))):w.heap.size≤gb151));clear HB;have HB:=n0_;have BK151:=n1_;have GW151:=n2_;have GE151:=n3_;clear n0_ n1_ n2_ n3_;clear hb hbox hg;have hcz3_0:w2.cell? ⟨gb151,0,none⟩=some (.string a0_0):=(bkC BK151.out 0).trans rfl;have hcz3_1:w2.cell? ⟨gb151,1,none⟩=some (.int .i64 a0_1):=(bkC BK151.out 1).trans rfl;have hcz3_2:w2.cell? ⟨gb151,2,none⟩=some (.int .i64 a0_2):=(bkC BK151.out 2).trans rfl;have hcz3_3:w2.cell? ⟨gb151,3,none⟩=some (.int .i64 a0_3):=(bkC BK151.out 3).trans rfl;have hcz3_4:w2.cell? ⟨gb151,4,none⟩=some (.int .i64 a0_4):=(bkC BK151.out 4).trans rfl;have hfz3_0:=bkF BK151.out 0;have hfz3_1:=bkF BK151.out 1;have hfz3_2:=bkF BK151.out 2;have hfz3_3:=bkF BK151.out 3;have hfz3_4:=bkF BK151.out 4))
 go_ret
 exact ⟨by first|rfl|(simp [errW_none,errW_some] <;> rfl)|(simp [*,errW_none,errW_some] <;> rfl),by repeat (first|(with_reducible first|exact HB.out|apply bdA|apply bdN|apply bd1|refine bdS ?_ GE151.out)|exact HB.out)⟩
def sr12m.f (a0_0:ByteArray) (a0_1:Int) (a0_2:Int) (a0_3:Int) (a0_4:Int):Option (Bool):=if a0_1=1 then (if a0_2<1 then (some false) else (if a0_2 > 64 then (some false) else (if a0_3<1 then (some false) else (if a0_3 > 4096 then (some false) else (if a0_4<1 then (some false) else (if a0_4 > 65536 then (some false) else (if a0_2=4 then ((spindleref12_TableSize.f a0_0 a0_1 a0_2 a0_3 a0_4).bind fun t153=>(some (decide (t153≤16777216)))) else (some false)))))))) else (if a0_1=2 then (if a0_2<1 then (some false) else (if a0_2 > 64 then (some false) else (if a0_3<1 then (some false) else (if a0_3 > 4096 then (some false) else (if a0_4<1 then (some false) else (if a0_4 > 65536 then (some false) else ((spindleref12_TableSize.f a0_0 a0_1 a0_2 a0_3 a0_4).bind fun t154=>(some (decide (t154≤16777216)))))))))) else (some false))
theorem sr12m.calls (a0_0:ByteArray) (a0_1:Int) (a0_2:Int) (a0_3:Int) (a0_4:Int) (r:Bool) (w:World) (h:sr12m.f a0_0 a0_1 a0_2 a0_3 a0_4=some r) :
  Calls Try.prog 82 #[.agg #[.string a0_0,.int .i64 a0_1,.int .i64 a0_2,.int .i64 a0_3,.int .i64 a0_4]] w fun e w'=>e=.returned (.bool r)∧Below w.heap.size w w':=by
 have hu56:=Try.underlying56
 have HB:=As0.mk (Below.refl w.heap.size w)
 have H:(if a0_1=1 then (if a0_2<1 then (some false) else (if a0_2 > 64 then (some false) else (if a0_3<1 then (some false) else (if a0_3 > 4096 then (some false) else (if a0_4<1 then (some false) else (if a0_4 > 65536 then (some false) else (if a0_2=4 then ((spindleref12_TableSize.f a0_0 a0_1 a0_2 a0_3 a0_4).bind fun t153=>(some (decide (t153≤16777216)))) else (some false)))))))) else (if a0_1=2 then (if a0_2<1 then (some false) else (if a0_2 > 64 then (some false) else (if a0_3<1 then (some false) else (if a0_3 > 4096 then (some false) else (if a0_4<1 then (some false) else (if a0_4 > 65536 then (some false) else ((spindleref12_TableSize.f a0_0 a0_1 a0_2 a0_3 a0_4).bind fun t154=>(some (decide (t154≤16777216)))))))))) else (some false)))=some r:=h
 clear h
 by_cases c2:a0_1=1
 ·rw [if_pos c2] at H
  have c2b0:(a0_1 == 1)=true:=beq_iff_eq.mpr c2
  have c2b1:(a0_1 != 1)=false:=bne_eq_false_iff_eq.mpr c2
  clear c2
  by_cases c3:a0_2<1
  ·rw [if_pos c3] at H
   have c3b0:decide (a0_2<1)=true:=decide_eq_true c3
   clear c3
   obtain rfl:=Option.some.inj H
   go_enter Try.func82,Try.ntmps82
   go_wp2_with (first|((with_reducible refine gtD (N:=1) rfl ?_);refine bxE ?hg (N:=1) ?hd (cs:=#[.string a0_0,.int .i64 a0_1,.int .i64 a0_2,.int .i64 a0_3,.int .i64 a0_4]) (t:=56) ?hr ?_;(case hd=>rfl);(case hg=>rfl);(case hr=>first|(go_simp;done)|(go_simp;rfl));intro gb152 hg w4 hbox hb;have n0_:=As0.mk (bdT (by repeat (first|(with_reducible first|exact HB.out|apply bdA|apply bdN|apply bd1)|exact HB.out)) hb);have n1_:=As0.mk (hbox);have n2_:=As0.mk ((by rw [hg];exact (bdZ (by repeat (first|(with_reducible first|exact HB.out|apply bdA|apply bdN|apply bd1)|exact HB.out))):w.heap.size≤gb152));have n3_:=As0.mk ((by rw [hg];exact (bdZ (by repeat (first|(with_reducible first|exact HB.out|apply bdA|apply bdN|apply bd1)|exact HB.out))):w.heap.size≤gb152));clear HB;have HB:=n0_;have BK152:=n1_;have GW152:=n2_;have GE152:=n3_;clear n0_ n1_ n2_ n3_;clear hb hbox hg;have hcz5_0:w4.cell? ⟨gb152,0,none⟩=some (.string a0_0):=(bkC BK152.out 0).trans rfl;have hcz5_1:w4.cell? ⟨gb152,1,none⟩=some (.int .i64 a0_1):=(bkC BK152.out 1).trans rfl;have hcz5_2:w4.cell? ⟨gb152,2,none⟩=some (.int .i64 a0_2):=(bkC BK152.out 2).trans rfl;have hcz5_3:w4.cell? ⟨gb152,3,none⟩=some (.int .i64 a0_3):=(bkC BK152.out 3).trans rfl;have hcz5_4:w4.cell? ⟨gb152,4,none⟩=some (.int .i64 a0_4):=(bkC BK152.out 4).trans rfl;have hfz5_0:=bkF BK152.out 0;have hfz5_1:=bkF BK152.out 1;have hfz5_2:=bkF BK152.out 2;have hfz5_3:=bkF BK152.out 3;have hfz5_4:=bkF BK152.out 4))
   go_ret
   exact ⟨by first|rfl|(simp [errW_none,errW_some] <;> rfl)|(simp [*,errW_none,errW_some] <;> rfl),by repeat (first|(with_reducible first|exact HB.out|apply bdA|apply bdN|apply bd1|refine bdS ?_ GE152.out)|exact HB.out)⟩
  ·rw [if_neg c3] at H
   have c3b0:decide (a0_2<1)=false:=decide_eq_false c3
   clear c3
   by_cases c6:a0_2 > 64
   ·rw [if_pos c6] at H
    have c6b0:decide (64<a0_2)=true:=decide_eq_true c6
    clear c6
    obtain rfl:=Option.some.inj H
    go_enter Try.func82,Try.ntmps82
    go_wp2_with (first|((with_reducible refine gtD (N:=1) rfl ?_);refine bxE ?hg (N:=1) ?hd (cs:=#[.string a0_0,.int .i64 a0_1,.int .i64 a0_2,.int .i64 a0_3,.int .i64 a0_4]) (t:=56) ?hr ?_;(case hd=>rfl);(case hg=>rfl);(case hr=>first|(go_simp;done)|(go_simp;rfl));intro gb152 hg w7 hbox hb;have n0_:=As0.mk (bdT (by repeat (first|(with_reducible first|exact HB.out|apply bdA|apply bdN|apply bd1)|exact HB.out)) hb);have n1_:=As0.mk (hbox);have n2_:=As0.mk ((by rw [hg];exact (bdZ (by repeat (first|(with_reducible first|exact HB.out|apply bdA|apply bdN|apply bd1)|exact HB.out))):w.heap.size≤gb152));have n3_:=As0.mk ((by rw [hg];exact (bdZ (by repeat (first|(with_reducible first|exact HB.out|apply bdA|apply bdN|apply bd1)|exact HB.out))):w.heap.size≤gb152));clear HB;have HB:=n0_;have BK152:=n1_;have GW152:=n2_;have GE152:=n3_;clear n0_ n1_ n2_ n3_;clear hb hbox hg;have hcz8_0:w7.cell? ⟨gb152,0,none⟩=some (.string a0_0):=(bkC BK152.out 0).trans rfl;have hcz8_1:w7.cell? ⟨gb152,1,none⟩=some (.int .i64 a0_1):=(bkC BK152.out 1).trans rfl;have hcz8_2:w7.cell? ⟨gb152,2,none⟩=some (.int .i64 a0_2):=(bkC BK152.out 2).trans rfl;have hcz8_3:w7.cell? ⟨gb152,3,none⟩=some (.int .i64 a0_3):=(bkC BK152.out 3).trans rfl;have hcz8_4:w7.cell? ⟨gb152,4,none⟩=some (.int .i64 a0_4):=(bkC BK152.out 4).trans rfl;have hfz8_0:=bkF BK152.out 0;have hfz8_1:=bkF BK152.out 1;have hfz8_2:=bkF BK152.out 2;have hfz8_3:=bkF BK152.out 3;have hfz8_4:=bkF BK152.out 4))
    go_ret
    exact ⟨by first|rfl|(simp [errW_none,errW_some] <;> rfl)|(simp [*,errW_none,errW_some] <;> rfl),by repeat (first|(with_reducible first|exact HB.out|apply bdA|apply bdN|apply bd1|refine bdS ?_ GE152.out)|exact HB.out)⟩
   ·rw [if_neg c6] at H
    have c6b0:decide (64<a0_2)=false:=decide_eq_false c6
    clear c6
    by_cases c9:a0_3<1
    ·rw [if_pos c9] at H
     have c9b0:decide (a0_3<1)=true:=decide_eq_true c9
     clear c9
     obtain rfl:=Option.some.inj H
     go_enter Try.func82,Try.ntmps82
     go_wp2_with (first|((with_reducible refine gtD (N:=1) rfl ?_);refine bxE ?hg (N:=1) ?hd (cs:=#[.string a0_0,.int .i64 a0_1,.int .i64 a0_2,.int .i64 a0_3,.int .i64 a0_4]) (t:=56) ?hr ?_;(case hd=>rfl);(case hg=>rfl);(case hr=>first|(go_simp;done)|(go_simp;rfl));intro gb152 hg w10 hbox hb;have n0_:=As0.mk (bdT (by repeat (first|(with_reducible first|exact HB.out|apply bdA|apply bdN|apply bd1)|exact HB.out)) hb);have n1_:=As0.mk (hbox);have n2_:=As0.mk ((by rw [hg];exact (bdZ (by repeat (first|(with_reducible first|exact HB.out|apply bdA|apply bdN|apply bd1)|exact HB.out))):w.heap.size≤gb152));have n3_:=As0.mk ((by rw [hg];exact (bdZ (by repeat (first|(with_reducible first|exact HB.out|apply bdA|apply bdN|apply bd1)|exact HB.out))):w.heap.size≤gb152));clear HB;have HB:=n0_;have BK152:=n1_;have GW152:=n2_;have GE152:=n3_;clear n0_ n1_ n2_ n3_;clear hb hbox hg;have hcz11_0:w10.cell? ⟨gb152,0,none⟩=some (.string a0_0):=(bkC BK152.out 0).trans rfl;have hcz11_1:w10.cell? ⟨gb152,1,none⟩=some (.int .i64 a0_1):=(bkC BK152.out 1).trans rfl;have hcz11_2:w10.cell? ⟨gb152,2,none⟩=some (.int .i64 a0_2):=(bkC BK152.out 2).trans rfl;have hcz11_3:w10.cell? ⟨gb152,3,none⟩=some (.int .i64 a0_3):=(bkC BK152.out 3).trans rfl;have hcz11_4:w10.cell? ⟨gb152,4,none⟩=some (.int .i64 a0_4):=(bkC BK152.out 4).trans rfl;have hfz11_0:=bkF BK152.out 0;have hfz11_1:=bkF BK152.out 1;have hfz11_2:=bkF BK152.out 2;have hfz11_3:=bkF BK152.out 3;have hfz11_4:=bkF BK152.out 4))
     go_ret
     exact ⟨by first|rfl|(simp [errW_none,errW_some] <;> rfl)|(simp [*,errW_none,errW_some] <;> rfl),by repeat (first|(with_reducible first|exact HB.out|apply bdA|apply bdN|apply bd1|refine bdS ?_ GE152.out)|exact HB.out)⟩
    ·rw [if_neg c9] at H
     have c9b0:decide (a0_3<1)=false:=decide_eq_false c9
     clear c9
     by_cases c12:a0_3 > 4096
     ·rw [if_pos c12] at H
      have c12b0:decide (4096<a0_3)=true:=decide_eq_true c12
      clear c12
      obtain rfl:=Option.some.inj H
      go_enter Try.func82,Try.ntmps82
      go_wp2_with (first|((with_reducible refine gtD (N:=1) rfl ?_);refine bxE ?hg (N:=1) ?hd (cs:=#[.string a0_0,.int .i64 a0_1,.int .i64 a0_2,.int .i64 a0_3,.int .i64 a0_4]) (t:=56) ?hr ?_;(case hd=>rfl);(case hg=>rfl);(case hr=>first|(go_simp;done)|(go_simp;rfl));intro gb152 hg w13 hbox hb;have n0_:=As0.mk (bdT (by repeat (first|(with_reducible first|exact HB.out|apply bdA|apply bdN|apply bd1)|exact HB.out)) hb);have n1_:=As0.mk (hbox);have n2_:=As0.mk ((by rw [hg];exact (bdZ (by repeat (first|(with_reducible first|exact HB.out|apply bdA|apply bdN|apply bd1)|exact HB.out))):w.heap.size≤gb152));have n3_:=As0.mk ((by rw [hg];exact (bdZ (by repeat (first|(with_reducible first|exact HB.out|apply bdA|apply bdN|apply bd1)|exact HB.out))):w.heap.size≤gb152));clear HB;have HB:=n0_;have BK152:=n1_;have GW152:=n2_;have GE152:=n3_;clear n0_ n1_ n2_ n3_;clear hb hbox hg;have hcz14_0:w13.cell? ⟨gb152,0,none⟩=some (.string a0_0):=(bkC BK152.out 0).trans rfl;have hcz14_1:w13.cell? ⟨gb152,1,none⟩=some (.int .i64 a0_1):=(bkC BK152.out 1).trans rfl;have hcz14_2:w13.cell? ⟨gb152,2,none⟩=some (.int .i64 a0_2):=(bkC BK152.out 2).trans rfl;have hcz14_3:w13.cell? ⟨gb152,3,none⟩=some (.int .i64 a0_3):=(bkC BK152.out 3).trans rfl;have hcz14_4:w13.cell? ⟨gb152,4,none⟩=some (.int .i64 a0_4):=(bkC BK152.out 4).trans rfl;have hfz14_0:=bkF BK152.out 0;have hfz14_1:=bkF BK152.out 1;have hfz14_2:=bkF BK152.out 2;have hfz14_3:=bkF BK152.out 3;have hfz14_4:=bkF BK152.out 4))
      go_ret
      exact ⟨by first|rfl|(simp [errW_none,errW_some] <;> rfl)|(simp [*,errW_none,errW_some] <;> rfl),by repeat (first|(with_reducible first|exact HB.out|apply bdA|apply bdN|apply bd1|refine bdS ?_ GE152.out)|exact HB.out)⟩
     ·rw [if_neg c12] at H
      have c12b0:decide (4096<a0_3)=false:=decide_eq_false c12
      clear c12
      by_cases c15:a0_4<1
      ·rw [if_pos c15] at H
       have c15b0:decide (a0_4<1)=true:=decide_eq_true c15
       clear c15
       obtain rfl:=Option.some.inj H
       go_enter Try.func82,Try.ntmps82
       go_wp2_with (first|((with_reducible refine gtD (N:=1) rfl ?_);refine bxE ?hg (N:=1) ?hd (cs:=#[.string a0_0,.int .i64 a0_1,.int .i64 a0_2,.int .i64 a0_3,.int .i64 a0_4]) (t:=56) ?hr ?_;(case hd=>rfl);(case hg=>rfl);(case hr=>first|(go_simp;done)|(go_simp;rfl));intro gb152 hg w16 hbox hb;have n0_:=As0.mk (bdT (by repeat (first|(with_reducible first|exact HB.out|apply bdA|apply bdN|apply bd1)|exact HB.out)) hb);have n1_:=As0.mk (hbox);have n2_:=As0.mk ((by rw [hg];exact (bdZ (by repeat (first|(with_reducible first|exact HB.out|apply bdA|apply bdN|apply bd1)|exact HB.out))):w.heap.size≤gb152));have n3_:=As0.mk ((by rw [hg];exact (bdZ (by repeat (first|(with_reducible first|exact HB.out|apply bdA|apply bdN|apply bd1)|exact HB.out))):w.heap.size≤gb152));clear HB;have HB:=n0_;have BK152:=n1_;have GW152:=n2_;have GE152:=n3_;clear n0_ n1_ n2_ n3_;clear hb hbox hg;have hcz17_0:w16.cell? ⟨gb152,0,none⟩=some (.string a0_0):=(bkC BK152.out 0).trans rfl;have hcz17_1:w16.cell? ⟨gb152,1,none⟩=some (.int .i64 a0_1):=(bkC BK152.out 1).trans rfl;have hcz17_2:w16.cell? ⟨gb152,2,none⟩=some (.int .i64 a0_2):=(bkC BK152.out 2).trans rfl;have hcz17_3:w16.cell? ⟨gb152,3,none⟩=some (.int .i64 a0_3):=(bkC BK152.out 3).trans rfl;have hcz17_4:w16.cell? ⟨gb152,4,none⟩=some (.int .i64 a0_4):=(bkC BK152.out 4).trans rfl;have hfz17_0:=bkF BK152.out 0;have hfz17_1:=bkF BK152.out 1;have hfz17_2:=bkF BK152.out 2;have hfz17_3:=bkF BK152.out 3;have hfz17_4:=bkF BK152.out 4))
       go_ret
       exact ⟨by first|rfl|(simp [errW_none,errW_some] <;> rfl)|(simp [*,errW_none,errW_some] <;> rfl),by repeat (first|(with_reducible first|exact HB.out|apply bdA|apply bdN|apply bd1|refine bdS ?_ GE152.out)|exact HB.out)⟩
      ·rw [if_neg c15] at H
       have c15b0:decide (a0_4<1)=false:=decide_eq_false c15
       clear c15
       by_cases c18:a0_4 > 65536
       ·rw [if_pos c18] at H
        have c18b0:decide (65536<a0_4)=true:=decide_eq_true c18
        clear c18
        obtain rfl:=Option.some.inj H
        go_enter Try.func82,Try.ntmps82
        go_wp2_with (first|((with_reducible refine gtD (N:=1) rfl ?_);refine bxE ?hg (N:=1) ?hd (cs:=#[.string a0_0,.int .i64 a0_1,.int .i64 a0_2,.int .i64 a0_3,.int .i64 a0_4]) (t:=56) ?hr ?_;(case hd=>rfl);(case hg=>rfl);(case hr=>first|(go_simp;done)|(go_simp;rfl));intro gb152 hg w19 hbox hb;have n0_:=As0.mk (bdT (by repeat (first|(with_reducible first|exact HB.out|apply bdA|apply bdN|apply bd1)|exact HB.out)) hb);have n1_:=As0.mk (hbox);have n2_:=As0.mk ((by rw [hg];exact (bdZ (by repeat (first|(with_reducible first|exact HB.out|apply bdA|apply bdN|apply bd1)|exact HB.out))):w.heap.size≤gb152));have n3_:=As0.mk ((by rw [hg];exact (bdZ (by repeat (first|(with_reducible first|exact HB.out|apply bdA|apply bdN|apply bd1)|exact HB.out))):w.heap.size≤gb152));clear HB;have HB:=n0_;have BK152:=n1_;have GW152:=n2_;have GE152:=n3_;clear n0_ n1_ n2_ n3_;clear hb hbox hg;have hcz20_0:w19.cell? ⟨gb152,0,none⟩=some (.string a0_0):=(bkC BK152.out 0).trans rfl;have hcz20_1:w19.cell? ⟨gb152,1,none⟩=some (.int .i64 a0_1):=(bkC BK152.out 1).trans rfl;have hcz20_2:w19.cell? ⟨gb152,2,none⟩=some (.int .i64 a0_2):=(bkC BK152.out 2).trans rfl;have hcz20_3:w19.cell? ⟨gb152,3,none⟩=some (.int .i64 a0_3):=(bkC BK152.out 3).trans rfl;have hcz20_4:w19.cell? ⟨gb152,4,none⟩=some (.int .i64 a0_4):=(bkC BK152.out 4).trans rfl;have hfz20_0:=bkF BK152.out 0;have hfz20_1:=bkF BK152.out 1;have hfz20_2:=bkF BK152.out 2;have hfz20_3:=bkF BK152.out 3;have hfz20_4:=bkF BK152.out 4))
        go_ret
        exact ⟨by first|rfl|(simp [errW_none,errW_some] <;> rfl)|(simp [*,errW_none,errW_some] <;> rfl),by repeat (first|(with_reducible first|exact HB.out|apply bdA|apply bdN|apply bd1|refine bdS ?_ GE152.out)|exact HB.out)⟩
       ·rw [if_neg c18] at H
        have c18b0:decide (65536<a0_4)=false:=decide_eq_false c18
        clear c18
        by_cases c21:a0_2=4
        ·rw [if_pos c21] at H
         have c21b0:(a0_2 == 4)=true:=beq_iff_eq.mpr c21
         have c21b1:(a0_2 != 4)=false:=bne_eq_false_iff_eq.mpr c21
         clear c21
         replace H:=Option.bind_eq_some_iff.mp H
         obtain ⟨t153,A220,H⟩:=H
         replace H:(some (decide (t153≤16777216)))=some r:=H
         have A22:=As0.mk A220
         clear A220
         obtain rfl:=Option.some.inj H
         go_enter Try.func82,Try.ntmps82
         go_wp2_with (first|((with_reducible refine gtD (N:=1) rfl ?_);refine bxE ?hg (N:=1) ?hd (cs:=#[.string a0_0,.int .i64 a0_1,.int .i64 a0_2,.int .i64 a0_3,.int .i64 a0_4]) (t:=56) ?hr ?_;(case hd=>rfl);(case hg=>rfl);(case hr=>first|(go_simp;done)|(go_simp;rfl));intro gb152 hg w23 hbox hb;have n0_:=As0.mk (bdT (by repeat (first|(with_reducible first|exact HB.out|apply bdA|apply bdN|apply bd1)|exact HB.out)) hb);have n1_:=As0.mk (hbox);have n2_:=As0.mk ((by rw [hg];exact (bdZ (by repeat (first|(with_reducible first|exact HB.out|apply bdA|apply bdN|apply bd1)|exact HB.out))):w.heap.size≤gb152));have n3_:=As0.mk ((by rw [hg];exact (bdZ (by repeat (first|(with_reducible first|exact HB.out|apply bdA|apply bdN|apply bd1)|exact HB.out))):w.heap.size≤gb152));clear HB;have HB:=n0_;have BK152:=n1_;have GW152:=n2_;have GE152:=n3_;clear n0_ n1_ n2_ n3_;clear hb hbox hg;have hcz24_0:w23.cell? ⟨gb152,0,none⟩=some (.string a0_0):=(bkC BK152.out 0).trans rfl;have hcz24_1:w23.cell? ⟨gb152,1,none⟩=some (.int .i64 a0_1):=(bkC BK152.out 1).trans rfl;have hcz24_2:w23.cell? ⟨gb152,2,none⟩=some (.int .i64 a0_2):=(bkC BK152.out 2).trans rfl;have hcz24_3:w23.cell? ⟨gb152,3,none⟩=some (.int .i64 a0_3):=(bkC BK152.out 3).trans rfl;have hcz24_4:w23.cell? ⟨gb152,4,none⟩=some (.int .i64 a0_4):=(bkC BK152.out 4).trans rfl;have hfz24_0:=bkF BK152.out 0;have hfz24_1:=bkF BK152.out 1;have hfz24_2:=bkF BK152.out 2;have hfz24_3:=bkF BK152.out 3;have hfz24_4:=bkF BK152.out 4)|(go_at_call 83;(with_reducible refine (spindleref12_TableSize.calls a0_0 a0_1 a0_2 a0_3 a0_4 t153 _ A22.out).mono ?_);rintro e w25 ⟨rfl,hb⟩;have n0_:=As0.mk (bkB (g:=gb152) (o:=.cells #[.string a0_0,.int .i64 a0_1,.int .i64 a0_2,.int .i64 a0_3,.int .i64 a0_4] 56 (0,0)) (by (with_reducible repeat (first|refine bkN ?_ _|refine bkD ?_|refine bkA ?_ _));exact BK152.out) hb);have n1_:=As0.mk (bdT (by repeat (first|(with_reducible first|exact HB.out|apply bdA|apply bdN|apply bd1|refine bdS ?_ GE152.out)|exact HB.out)) hb);clear BK152;clear HB;have BK152:=n0_;have HB:=n1_;clear n0_ n1_;(try clear hb);(try clear hb2);(try clear hk);(try clear hi)))
         go_ret
         exact ⟨by first|rfl|(simp [errW_none,errW_some] <;> rfl)|(simp [*,errW_none,errW_some] <;> rfl),by repeat (first|(with_reducible first|exact HB.out|apply bdA|apply bdN|apply bd1|refine bdS ?_ GE152.out)|exact HB.out)⟩
        ·rw [if_neg c21] at H
         have c21b0:(a0_2 == 4)=false:=beq_eq_false_iff_ne.mpr c21
         have c21b1:(a0_2 != 4)=true:=bne_iff_ne.mpr c21
         obtain rfl:=Option.some.inj H
         go_enter Try.func82,Try.ntmps82
         go_wp2_with (first|((with_reducible refine gtD (N:=1) rfl ?_);refine bxE ?hg (N:=1) ?hd (cs:=#[.string a0_0,.int .i64 a0_1,.int .i64 a0_2,.int .i64 a0_3,.int .i64 a0_4]) (t:=56) ?hr ?_;(case hd=>rfl);(case hg=>rfl);(case hr=>first|(go_simp;done)|(go_simp;rfl));intro gb152 hg w26 hbox hb;have n0_:=As0.mk (bdT (by repeat (first|(with_reducible first|exact HB.out|apply bdA|apply bdN|apply bd1)|exact HB.out)) hb);have n1_:=As0.mk (hbox);have n2_:=As0.mk ((by rw [hg];exact (bdZ (by repeat (first|(with_reducible first|exact HB.out|apply bdA|apply bdN|apply bd1)|exact HB.out))):w.heap.size≤gb152));have n3_:=As0.mk ((by rw [hg];exact (bdZ (by repeat (first|(with_reducible first|exact HB.out|apply bdA|apply bdN|apply bd1)|exact HB.out))):w.heap.size≤gb152));clear HB;have HB:=n0_;have BK152:=n1_;have GW152:=n2_;have GE152:=n3_;clear n0_ n1_ n2_ n3_;clear hb hbox hg;have hcz27_0:w26.cell? ⟨gb152,0,none⟩=some (.string a0_0):=(bkC BK152.out 0).trans rfl;have hcz27_1:w26.cell? ⟨gb152,1,none⟩=some (.int .i64 a0_1):=(bkC BK152.out 1).trans rfl;have hcz27_2:w26.cell? ⟨gb152,2,none⟩=some (.int .i64 a0_2):=(bkC BK152.out 2).trans rfl;have hcz27_3:w26.cell? ⟨gb152,3,none⟩=some (.int .i64 a0_3):=(bkC BK152.out 3).trans rfl;have hcz27_4:w26.cell? ⟨gb152,4,none⟩=some (.int .i64 a0_4):=(bkC BK152.out 4).trans rfl;have hfz27_0:=bkF BK152.out 0;have hfz27_1:=bkF BK152.out 1;have hfz27_2:=bkF BK152.out 2;have hfz27_3:=bkF BK152.out 3;have hfz27_4:=bkF BK152.out 4))
         go_ret
         exact ⟨by first|rfl|(simp [errW_none,errW_some] <;> rfl)|(simp [*,errW_none,errW_some] <;> rfl),by repeat (first|(with_reducible first|exact HB.out|apply bdA|apply bdN|apply bd1|refine bdS ?_ GE152.out)|exact HB.out)⟩
 ·rw [if_neg c2] at H
  have c2b0:(a0_1 == 1)=false:=beq_eq_false_iff_ne.mpr c2
  have c2b1:(a0_1 != 1)=true:=bne_iff_ne.mpr c2
  by_cases c28:a0_1=2
  ·rw [if_pos c28] at H
   have c28b0:(a0_1 == 2)=true:=beq_iff_eq.mpr c28
   have c28b1:(a0_1 != 2)=false:=bne_eq_false_iff_eq.mpr c28
   clear c28
   by_cases c29:a0_2<1
   ·rw [if_pos c29] at H
    have c29b0:decide (a0_2<1)=true:=decide_eq_true c29
    clear c29
    obtain rfl:=Option.some.inj H
    go_enter Try.func82,Try.ntmps82
    go_wp2_with (first|((with_reducible refine gtD (N:=1) rfl ?_);refine bxE ?hg (N:=1) ?hd (cs:=#[.string a0_0,.int .i64 a0_1,.int .i64 a0_2,.int .i64 a0_3,.int .i64 a0_4]) (t:=56) ?hr ?_;(case hd=>rfl);(case hg=>rfl);(case hr=>first|(go_simp;done)|(go_simp;rfl));intro gb152 hg w30 hbox hb;have n0_:=As0.mk (bdT (by repeat (first|(with_reducible first|exact HB.out|apply bdA|apply bdN|apply bd1)|exact HB.out)) hb);have n1_:=As0.mk (hbox);have n2_:=As0.mk ((by rw [hg];exact (bdZ (by repeat (first|(with_reducible first|exact HB.out|apply bdA|apply bdN|apply bd1)|exact HB.out))):w.heap.size≤gb152));have n3_:=As0.mk ((by rw [hg];exact (bdZ (by repeat (first|(with_reducible first|exact HB.out|apply bdA|apply bdN|apply bd1)|exact HB.out))):w.heap.size≤gb152));clear HB;have HB:=n0_;have BK152:=n1_;have GW152:=n2_;have GE152:=n3_;clear n0_ n1_ n2_ n3_;clear hb hbox hg;have hcz31_0:w30.cell? ⟨gb152,0,none⟩=some (.string a0_0):=(bkC BK152.out 0).trans rfl;have hcz31_1:w30.cell? ⟨gb152,1,none⟩=some (.int .i64 a0_1):=(bkC BK152.out 1).trans rfl;have hcz31_2:w30.cell? ⟨gb152,2,none⟩=some (.int .i64 a0_2):=(bkC BK152.out 2).trans rfl;have hcz31_3:w30.cell? ⟨gb152,3,none⟩=some (.int .i64 a0_3):=(bkC BK152.out 3).trans rfl;have hcz31_4:w30.cell? ⟨gb152,4,none⟩=some (.int .i64 a0_4):=(bkC BK152.out 4).trans rfl;have hfz31_0:=bkF BK152.out 0;have hfz31_1:=bkF BK152.out 1;have hfz31_2:=bkF BK152.out 2;have hfz31_3:=bkF BK152.out 3;have hfz31_4:=bkF BK152.out 4))
    go_ret
    exact ⟨by first|rfl|(simp [errW_none,errW_some] <;> rfl)|(simp [*,errW_none,errW_some] <;> rfl),by repeat (first|(with_reducible first|exact HB.out|apply bdA|apply bdN|apply bd1|refine bdS ?_ GE152.out)|exact HB.out)⟩
   ·rw [if_neg c29] at H
    have c29b0:decide (a0_2<1)=false:=decide_eq_false c29
    clear c29
    by_cases c32:a0_2 > 64
    ·rw [if_pos c32] at H
     have c32b0:decide (64<a0_2)=true:=decide_eq_true c32
     clear c32
     obtain rfl:=Option.some.inj H
     go_enter Try.func82,Try.ntmps82
     go_wp2_with (first|((with_reducible refine gtD (N:=1) rfl ?_);refine bxE ?hg (N:=1) ?hd (cs:=#[.string a0_0,.int .i64 a0_1,.int .i64 a0_2,.int .i64 a0_3,.int .i64 a0_4]) (t:=56) ?hr ?_;(case hd=>rfl);(case hg=>rfl);(case hr=>first|(go_simp;done)|(go_simp;rfl));intro gb152 hg w33 hbox hb;have n0_:=As0.mk (bdT (by repeat (first|(with_reducible first|exact HB.out|apply bdA|apply bdN|apply bd1)|exact HB.out)) hb);have n1_:=As0.mk (hbox);have n2_:=As0.mk ((by rw [hg];exact (bdZ (by repeat (first|(with_reducible first|exact HB.out|apply bdA|apply bdN|apply bd1)|exact HB.out))):w.heap.size≤gb152));have n3_:=As0.mk ((by rw [hg];exact (bdZ (by repeat (first|(with_reducible first|exact HB.out|apply bdA|apply bdN|apply bd1)|exact HB.out))):w.heap.size≤gb152));clear HB;have HB:=n0_;have BK152:=n1_;have GW152:=n2_;have GE152:=n3_;clear n0_ n1_ n2_ n3_;clear hb hbox hg;have hcz34_0:w33.cell? ⟨gb152,0,none⟩=some (.string a0_0):=(bkC BK152.out 0).trans rfl;have hcz34_1:w33.cell? ⟨gb152,1,none⟩=some (.int .i64 a0_1):=(bkC BK152.out 1).trans rfl;have hcz34_2:w33.cell? ⟨gb152,2,none⟩=some (.int .i64 a0_2):=(bkC BK152.out 2).trans rfl;have hcz34_3:w33.cell? ⟨gb152,3,none⟩=some (.int .i64 a0_3):=(bkC BK152.out 3).trans rfl;have hcz34_4:w33.cell? ⟨gb152,4,none⟩=some (.int .i64 a0_4):=(bkC BK152.out 4).trans rfl;have hfz34_0:=bkF BK152.out 0;have hfz34_1:=bkF BK152.out 1;have hfz34_2:=bkF BK152.out 2;have hfz34_3:=bkF BK152.out 3;have hfz34_4:=bkF BK152.out 4))
     go_ret
     exact ⟨by first|rfl|(simp [errW_none,errW_some] <;> rfl)|(simp [*,errW_none,errW_some] <;> rfl),by repeat (first|(with_reducible first|exact HB.out|apply bdA|apply bdN|apply bd1|refine bdS ?_ GE152.out)|exact HB.out)⟩
    ·rw [if_neg c32] at H
     have c32b0:decide (64<a0_2)=false:=decide_eq_false c32
     clear c32
     by_cases c35:a0_3<1
     ·rw [if_pos c35] at H
      have c35b0:decide (a0_3<1)=true:=decide_eq_true c35
      clear c35
      obtain rfl:=Option.some.inj H
      go_enter Try.func82,Try.ntmps82
      go_wp2_with (first|((with_reducible refine gtD (N:=1) rfl ?_);refine bxE ?hg (N:=1) ?hd (cs:=#[.string a0_0,.int .i64 a0_1,.int .i64 a0_2,.int .i64 a0_3,.int .i64 a0_4]) (t:=56) ?hr ?_;(case hd=>rfl);(case hg=>rfl);(case hr=>first|(go_simp;done)|(go_simp;rfl));intro gb152 hg w36 hbox hb;have n0_:=As0.mk (bdT (by repeat (first|(with_reducible first|exact HB.out|apply bdA|apply bdN|apply bd1)|exact HB.out)) hb);have n1_:=As0.mk (hbox);have n2_:=As0.mk ((by rw [hg];exact (bdZ (by repeat (first|(with_reducible first|exact HB.out|apply bdA|apply bdN|apply bd1)|exact HB.out))):w.heap.size≤gb152));have n3_:=As0.mk ((by rw [hg];exact (bdZ (by repeat (first|(with_reducible first|exact HB.out|apply bdA|apply bdN|apply bd1)|exact HB.out))):w.heap.size≤gb152));clear HB;have HB:=n0_;have BK152:=n1_;have GW152:=n2_;have GE152:=n3_;clear n0_ n1_ n2_ n3_;clear hb hbox hg;have hcz37_0:w36.cell? ⟨gb152,0,none⟩=some (.string a0_0):=(bkC BK152.out 0).trans rfl;have hcz37_1:w36.cell? ⟨gb152,1,none⟩=some (.int .i64 a0_1):=(bkC BK152.out 1).trans rfl;have hcz37_2:w36.cell? ⟨gb152,2,none⟩=some (.int .i64 a0_2):=(bkC BK152.out 2).trans rfl;have hcz37_3:w36.cell? ⟨gb152,3,none⟩=some (.int .i64 a0_3):=(bkC BK152.out 3).trans rfl;have hcz37_4:w36.cell? ⟨gb152,4,none⟩=some (.int .i64 a0_4):=(bkC BK152.out 4).trans rfl;have hfz37_0:=bkF BK152.out 0;have hfz37_1:=bkF BK152.out 1;have hfz37_2:=bkF BK152.out 2;have hfz37_3:=bkF BK152.out 3;have hfz37_4:=bkF BK152.out 4))
      go_ret
      exact ⟨by first|rfl|(simp [errW_none,errW_some] <;> rfl)|(simp [*,errW_none,errW_some] <;> rfl),by repeat (first|(with_reducible first|exact HB.out|apply bdA|apply bdN|apply bd1|refine bdS ?_ GE152.out)|exact HB.out)⟩
     ·rw [if_neg c35] at H
      have c35b0:decide (a0_3<1)=false:=decide_eq_false c35
      clear c35
      by_cases c38:a0_3 > 4096
      ·rw [if_pos c38] at H
       have c38b0:decide (4096<a0_3)=true:=decide_eq_true c38
       clear c38
       obtain rfl:=Option.some.inj H
       go_enter Try.func82,Try.ntmps82
       go_wp2_with (first|((with_reducible refine gtD (N:=1) rfl ?_);refine bxE ?hg (N:=1) ?hd (cs:=#[.string a0_0,.int .i64 a0_1,.int .i64 a0_2,.int .i64 a0_3,.int .i64 a0_4]) (t:=56) ?hr ?_;(case hd=>rfl);(case hg=>rfl);(case hr=>first|(go_simp;done)|(go_simp;rfl));intro gb152 hg w39 hbox hb;have n0_:=As0.mk (bdT (by repeat (first|(with_reducible first|exact HB.out|apply bdA|apply bdN|apply bd1)|exact HB.out)) hb);have n1_:=As0.mk (hbox);have n2_:=As0.mk ((by rw [hg];exact (bdZ (by repeat (first|(with_reducible first|exact HB.out|apply bdA|apply bdN|apply bd1)|exact HB.out))):w.heap.size≤gb152));have n3_:=As0.mk ((by rw [hg];exact (bdZ (by repeat (first|(with_reducible first|exact HB.out|apply bdA|apply bdN|apply bd1)|exact HB.out))):w.heap.size≤gb152));clear HB;have HB:=n0_;have BK152:=n1_;have GW152:=n2_;have GE152:=n3_;clear n0_ n1_ n2_ n3_;clear hb hbox hg;have hcz40_0:w39.cell? ⟨gb152,0,none⟩=some (.string a0_0):=(bkC BK152.out 0).trans rfl;have hcz40_1:w39.cell? ⟨gb152,1,none⟩=some (.int .i64 a0_1):=(bkC BK152.out 1).trans rfl;have hcz40_2:w39.cell? ⟨gb152,2,none⟩=some (.int .i64 a0_2):=(bkC BK152.out 2).trans rfl;have hcz40_3:w39.cell? ⟨gb152,3,none⟩=some (.int .i64 a0_3):=(bkC BK152.out 3).trans rfl;have hcz40_4:w39.cell? ⟨gb152,4,none⟩=some (.int .i64 a0_4):=(bkC BK152.out 4).trans rfl;have hfz40_0:=bkF BK152.out 0;have hfz40_1:=bkF BK152.out 1;have hfz40_2:=bkF BK152.out 2;have hfz40_3:=bkF BK152.out 3;have hfz40_4:=bkF BK152.out 4))
       go_ret
       exact ⟨by first|rfl|(simp [errW_none,errW_some] <;> rfl)|(simp [*,errW_none,errW_some] <;> rfl),by repeat (first|(with_reducible first|exact HB.out|apply bdA|apply bdN|apply bd1|refine bdS ?_ GE152.out)|exact HB.out)⟩
      ·rw [if_neg c38] at H
       have c38b0:decide (4096<a0_3)=false:=decide_eq_false c38
       clear c38
       by_cases c41:a0_4<1
       ·rw [if_pos c41] at H
        have c41b0:decide (a0_4<1)=true:=decide_eq_true c41
        clear c41
        obtain rfl:=Option.some.inj H
        go_enter Try.func82,Try.ntmps82
        go_wp2_with (first|((with_reducible refine gtD (N:=1) rfl ?_);refine bxE ?hg (N:=1) ?hd (cs:=#[.string a0_0,.int .i64 a0_1,.int .i64 a0_2,.int .i64 a0_3,.int .i64 a0_4]) (t:=56) ?hr ?_;(case hd=>rfl);(case hg=>rfl);(case hr=>first|(go_simp;done)|(go_simp;rfl));intro gb152 hg w42 hbox hb;have n0_:=As0.mk (bdT (by repeat (first|(with_reducible first|exact HB.out|apply bdA|apply bdN|apply bd1)|exact HB.out)) hb);have n1_:=As0.mk (hbox);have n2_:=As0.mk ((by rw [hg];exact (bdZ (by repeat (first|(with_reducible first|exact HB.out|apply bdA|apply bdN|apply bd1)|exact HB.out))):w.heap.size≤gb152));have n3_:=As0.mk ((by rw [hg];exact (bdZ (by repeat (first|(with_reducible first|exact HB.out|apply bdA|apply bdN|apply bd1)|exact HB.out))):w.heap.size≤gb152));clear HB;have HB:=n0_;have BK152:=n1_;have GW152:=n2_;have GE152:=n3_;clear n0_ n1_ n2_ n3_;clear hb hbox hg;have hcz43_0:w42.cell? ⟨gb152,0,none⟩=some (.string a0_0):=(bkC BK152.out 0).trans rfl;have hcz43_1:w42.cell? ⟨gb152,1,none⟩=some (.int .i64 a0_1):=(bkC BK152.out 1).trans rfl;have hcz43_2:w42.cell? ⟨gb152,2,none⟩=some (.int .i64 a0_2):=(bkC BK152.out 2).trans rfl;have hcz43_3:w42.cell? ⟨gb152,3,none⟩=some (.int .i64 a0_3):=(bkC BK152.out 3).trans rfl;have hcz43_4:w42.cell? ⟨gb152,4,none⟩=some (.int .i64 a0_4):=(bkC BK152.out 4).trans rfl;have hfz43_0:=bkF BK152.out 0;have hfz43_1:=bkF BK152.out 1;have hfz43_2:=bkF BK152.out 2;have hfz43_3:=bkF BK152.out 3;have hfz43_4:=bkF BK152.out 4))
        go_ret
        exact ⟨by first|rfl|(simp [errW_none,errW_some] <;> rfl)|(simp [*,errW_none,errW_some] <;> rfl),by repeat (first|(with_reducible first|exact HB.out|apply bdA|apply bdN|apply bd1|refine bdS ?_ GE152.out)|exact HB.out)⟩
       ·rw [if_neg c41] at H
        have c41b0:decide (a0_4<1)=false:=decide_eq_false c41
        clear c41
        by_cases c44:a0_4 > 65536
        ·rw [if_pos c44] at H
         have c44b0:decide (65536<a0_4)=true:=decide_eq_true c44
         clear c44
         obtain rfl:=Option.some.inj H
         go_enter Try.func82,Try.ntmps82
         go_wp2_with (first|((with_reducible refine gtD (N:=1) rfl ?_);refine bxE ?hg (N:=1) ?hd (cs:=#[.string a0_0,.int .i64 a0_1,.int .i64 a0_2,.int .i64 a0_3,.int .i64 a0_4]) (t:=56) ?hr ?_;(case hd=>rfl);(case hg=>rfl);(case hr=>first|(go_simp;done)|(go_simp;rfl));intro gb152 hg w45 hbox hb;have n0_:=As0.mk (bdT (by repeat (first|(with_reducible first|exact HB.out|apply bdA|apply bdN|apply bd1)|exact HB.out)) hb);have n1_:=As0.mk (hbox);have n2_:=As0.mk ((by rw [hg];exact (bdZ (by repeat (first|(with_reducible first|exact HB.out|apply bdA|apply bdN|apply bd1)|exact HB.out))):w.heap.size≤gb152));have n3_:=As0.mk ((by rw [hg];exact (bdZ (by repeat (first|(with_reducible first|exact HB.out|apply bdA|apply bdN|apply bd1)|exact HB.out))):w.heap.size≤gb152));clear HB;have HB:=n0_;have BK152:=n1_;have GW152:=n2_;have GE152:=n3_;clear n0_ n1_ n2_ n3_;clear hb hbox hg;have hcz46_0:w45.cell? ⟨gb152,0,none⟩=some (.string a0_0):=(bkC BK152.out 0).trans rfl;have hcz46_1:w45.cell? ⟨gb152,1,none⟩=some (.int .i64 a0_1):=(bkC BK152.out 1).trans rfl;have hcz46_2:w45.cell? ⟨gb152,2,none⟩=some (.int .i64 a0_2):=(bkC BK152.out 2).trans rfl;have hcz46_3:w45.cell? ⟨gb152,3,none⟩=some (.int .i64 a0_3):=(bkC BK152.out 3).trans rfl;have hcz46_4:w45.cell? ⟨gb152,4,none⟩=some (.int .i64 a0_4):=(bkC BK152.out 4).trans rfl;have hfz46_0:=bkF BK152.out 0;have hfz46_1:=bkF BK152.out 1;have hfz46_2:=bkF BK152.out 2;have hfz46_3:=bkF BK152.out 3;have hfz46_4:=bkF BK152.out 4))
         go_ret
         exact ⟨by first|rfl|(simp [errW_none,errW_some] <;> rfl)|(simp [*,errW_none,errW_some] <;> rfl),by repeat (first|(with_reducible first|exact HB.out|apply bdA|apply bdN|apply bd1|refine bdS ?_ GE152.out)|exact HB.out)⟩
        ·rw [if_neg c44] at H
         have c44b0:decide (65536<a0_4)=false:=decide_eq_false c44
         clear c44
         replace H:=Option.bind_eq_some_iff.mp H
         obtain ⟨t154,A470,H⟩:=H
         replace H:(some (decide (t154≤16777216)))=some r:=H
         have A47:=As0.mk A470
         clear A470
         obtain rfl:=Option.some.inj H
         go_enter Try.func82,Try.ntmps82
         go_wp2_with (first|((with_reducible refine gtD (N:=1) rfl ?_);refine bxE ?hg (N:=1) ?hd (cs:=#[.string a0_0,.int .i64 a0_1,.int .i64 a0_2,.int .i64 a0_3,.int .i64 a0_4]) (t:=56) ?hr ?_;(case hd=>rfl);(case hg=>rfl);(case hr=>first|(go_simp;done)|(go_simp;rfl));intro gb152 hg w48 hbox hb;have n0_:=As0.mk (bdT (by repeat (first|(with_reducible first|exact HB.out|apply bdA|apply bdN|apply bd1)|exact HB.out)) hb);have n1_:=As0.mk (hbox);have n2_:=As0.mk ((by rw [hg];exact (bdZ (by repeat (first|(with_reducible first|exact HB.out|apply bdA|apply bdN|apply bd1)|exact HB.out))):w.heap.size≤gb152));have n3_:=As0.mk ((by rw [hg];exact (bdZ (by repeat (first|(with_reducible first|exact HB.out|apply bdA|apply bdN|apply bd1)|exact HB.out))):w.heap.size≤gb152));clear HB;have HB:=n0_;have BK152:=n1_;have GW152:=n2_;have GE152:=n3_;clear n0_ n1_ n2_ n3_;clear hb hbox hg;have hcz49_0:w48.cell? ⟨gb152,0,none⟩=some (.string a0_0):=(bkC BK152.out 0).trans rfl;have hcz49_1:w48.cell? ⟨gb152,1,none⟩=some (.int .i64 a0_1):=(bkC BK152.out 1).trans rfl;have hcz49_2:w48.cell? ⟨gb152,2,none⟩=some (.int .i64 a0_2):=(bkC BK152.out 2).trans rfl;have hcz49_3:w48.cell? ⟨gb152,3,none⟩=some (.int .i64 a0_3):=(bkC BK152.out 3).trans rfl;have hcz49_4:w48.cell? ⟨gb152,4,none⟩=some (.int .i64 a0_4):=(bkC BK152.out 4).trans rfl;have hfz49_0:=bkF BK152.out 0;have hfz49_1:=bkF BK152.out 1;have hfz49_2:=bkF BK152.out 2;have hfz49_3:=bkF BK152.out 3;have hfz49_4:=bkF BK152.out 4)|(go_at_call 83;(with_reducible refine (spindleref12_TableSize.calls a0_0 a0_1 a0_2 a0_3 a0_4 t154 _ A47.out).mono ?_);rintro e w50 ⟨rfl,hb⟩;have n0_:=As0.mk (bkB (g:=gb152) (o:=.cells #[.string a0_0,.int .i64 a0_1,.int .i64 a0_2,.int .i64 a0_3,.int .i64 a0_4] 56 (0,0)) (by (with_reducible repeat (first|refine bkN ?_ _|refine bkD ?_|refine bkA ?_ _));exact BK152.out) hb);have n1_:=As0.mk (bdT (by repeat (first|(with_reducible first|exact HB.out|apply bdA|apply bdN|apply bd1|refine bdS ?_ GE152.out)|exact HB.out)) hb);clear BK152;clear HB;have BK152:=n0_;have HB:=n1_;clear n0_ n1_;(try clear hb);(try clear hb2);(try clear hk);(try clear hi)))
         go_ret
         exact ⟨by first|rfl|(simp [errW_none,errW_some] <;> rfl)|(simp [*,errW_none,errW_some] <;> rfl),by repeat (first|(with_reducible first|exact HB.out|apply bdA|apply bdN|apply bd1|refine bdS ?_ GE152.out)|exact HB.out)⟩
  ·rw [if_neg c28] at H
   have c28b0:(a0_1 == 2)=false:=beq_eq_false_iff_ne.mpr c28
   have c28b1:(a0_1 != 2)=true:=bne_iff_ne.mpr c28
   obtain rfl:=Option.some.inj H
   go_enter Try.func82,Try.ntmps82
   go_wp2_with (first|((with_reducible refine gtD (N:=1) rfl ?_);refine bxE ?hg (N:=1) ?hd (cs:=#[.string a0_0,.int .i64 a0_1,.int .i64 a0_2,.int .i64 a0_3,.int .i64 a0_4]) (t:=56) ?hr ?_;(case hd=>rfl);(case hg=>rfl);(case hr=>first|(go_simp;done)|(go_simp;rfl));intro gb152 hg w51 hbox hb;have n0_:=As0.mk (bdT (by repeat (first|(with_reducible first|exact HB.out|apply bdA|apply bdN|apply bd1)|exact HB.out)) hb);have n1_:=As0.mk (hbox);have n2_:=As0.mk ((by rw [hg];exact (bdZ (by repeat (first|(with_reducible first|exact HB.out|apply bdA|apply bdN|apply bd1)|exact HB.out))):w.heap.size≤gb152));have n3_:=As0.mk ((by rw [hg];exact (bdZ (by repeat (first|(with_reducible first|exact HB.out|apply bdA|apply bdN|apply bd1)|exact HB.out))):w.heap.size≤gb152));clear HB;have HB:=n0_;have BK152:=n1_;have GW152:=n2_;have GE152:=n3_;clear n0_ n1_ n2_ n3_;clear hb hbox hg;have hcz52_0:w51.cell? ⟨gb152,0,none⟩=some (.string a0_0):=(bkC BK152.out 0).trans rfl;have hcz52_1:w51.cell? ⟨gb152,1,none⟩=some (.int .i64 a0_1):=(bkC BK152.out 1).trans rfl;have hcz52_2:w51.cell? ⟨gb152,2,none⟩=some (.int .i64 a0_2):=(bkC BK152.out 2).trans rfl;have hcz52_3:w51.cell? ⟨gb152,3,none⟩=some (.int .i64 a0_3):=(bkC BK152.out 3).trans rfl;have hcz52_4:w51.cell? ⟨gb152,4,none⟩=some (.int .i64 a0_4):=(bkC BK152.out 4).trans rfl;have hfz52_0:=bkF BK152.out 0;have hfz52_1:=bkF BK152.out 1;have hfz52_2:=bkF BK152.out 2;have hfz52_3:=bkF BK152.out 3;have hfz52_4:=bkF BK152.out 4))
   go_ret
   exact ⟨by first|rfl|(simp [errW_none,errW_some] <;> rfl)|(simp [*,errW_none,errW_some] <;> rfl),by repeat (first|(with_reducible first|exact HB.out|apply bdA|apply bdN|apply bd1|refine bdS ?_ GE152.out)|exact HB.out)⟩
def sr17h.l0:Nat→Int→Int→List (S54)→List (S68)→List (S56)→Int→Option (Int)
 | 0,_,_,_,_,_,_=>none
 | k+1,x3,x4,x156000,x156001,x156002,x156003=>if x4<(x156002.length:Int) then (if 0≤x4 then ((sr12m.f ((rd_T56 x156002 x4).f0) ((rd_T56 x156002 x4).f1) ((rd_T56 x156002 x4).f2) ((rd_T56 x156002 x4).f3) ((rd_T56 x156002 x4).f4)).bind fun t157=>(if t157=true then ((spindleref12_TableSize.f ((rd_T56 x156002 x4).f0) ((rd_T56 x156002 x4).f1) ((rd_T56 x156002 x4).f2) ((rd_T56 x156002 x4).f3) ((rd_T56 x156002 x4).f4)).bind fun t159=>(sr17h.l0 k (wrap64 (x3+t159)) (wrap64 (x4+1)) x156000 x156001 x156002 x156003)) else (some x4))) else (none)) else (if x3 > 67108864 then (some (x156002.length:Int)) else (some (-1)))
def sr17h.f (k:Nat) (l0_0:List (S54)) (l0_1:List (S68)) (l0_2:List (S56)) (a0_3:Int):Option (Int):=sr17h.l0 k 0 0 l0_0 l0_1 l0_2 a0_3
theorem sr17h.calls (k:Nat) (A0_0:Option Addr) (c0_0:Nat) (l0_0:List (S54)) (A0_1:Option Addr) (c0_1:Nat) (l0_1:List (S68)) (A0_2:Option Addr) (c0_2:Nat) (l0_2:List (S56)) (a0_3:Int) (r:Int) (w:World) (hr0_0:Kd.C k54 w A0_0 l0_0.length l0_0) (hc0_0:l0_0.length≤c0_0) (hr0_1:Kd.C k68 w A0_1 l0_1.length l0_1) (hc0_1:l0_1.length≤c0_1) (hr0_2:Kd.C k56 w A0_2 l0_2.length l0_2) (hc0_2:l0_2.length≤c0_2) (h:sr17h.f k l0_0 l0_1 l0_2 a0_3=some r) :
  Calls Try.prog 52 #[.agg #[.slice A0_0 l0_0.length c0_0,.slice A0_1 l0_1.length c0_1,.slice A0_2 l0_2.length c0_2,.int .i64 a0_3]] w fun e w'=>e=.returned (.int .i64 r)∧Below w.heap.size w w':=by
 have hu26:=Try.underlying26
 have hu56:=Try.underlying56
 have HR0_0:=As0.mk hr0_0
 have HC0_0:=As0.mk hc0_0
 clear hr0_0 hc0_0
 have HR0_1:=As0.mk hr0_1
 have HC0_1:=As0.mk hc0_1
 clear hr0_1 hc0_1
 have HR0_2:=As0.mk hr0_2
 have HC0_2:=As0.mk hc0_2
 clear hr0_2 hc0_2
 have HB:=As0.mk (Below.refl w.heap.size w)
 have H:(sr17h.l0 k 0 0 l0_0 l0_1 l0_2 a0_3)=some r:=h
 clear h
 have H':=As0.mk H
 clear H
 go_enter Try.func52,Try.ntmps52
 go_wp2_with (first|((with_reducible refine gtD (N:=1) rfl ?_);refine bxE ?hg (N:=1) ?hd (cs:=#[.slice A0_0 l0_0.length c0_0,.slice A0_1 l0_1.length c0_1,.slice A0_2 l0_2.length c0_2,.int .i64 a0_3]) (t:=26) ?hr ?_;(case hd=>rfl);(case hg=>rfl);(case hr=>first|(go_simp;done)|(go_simp;rfl));intro gb155 hg w2 hbox hb;have n0_:=As0.mk (bdT (by repeat (first|(with_reducible first|exact HB.out|apply bdA|apply bdN|apply bd1)|exact HB.out)) hb);have n1_:=As0.mk (hbox);have n2_:=As0.mk ((by rw [hg];exact (bdZ (by repeat (first|(with_reducible first|exact HB.out|apply bdA|apply bdN|apply bd1)|exact HB.out))):w.heap.size≤gb155));have n3_:=As0.mk ((by rw [hg];exact (bdZ (by repeat (first|(with_reducible first|exact HB.out|apply bdA|apply bdN|apply bd1)|exact HB.out))):w.heap.size≤gb155));clear HB;have HB:=n0_;have BK155:=n1_;have GW155:=n2_;have GE155:=n3_;clear n0_ n1_ n2_ n3_;clear hb hbox hg))
 go_loopg [3,4] k (fun kq v3 v4 w'=>∃ (x3_1:Int) (x4_1:Int),v3=.int .i64 x3_1∧v4=.int .i64 x4_1∧As0 (sr17h.l0 kq x3_1 x4_1 l0_0 l0_1 l0_2 a0_3=some r)∧As0 (kq≤k)∧As0 (w'.heap[gb155]?=some (.cells #[(.slice A0_0 l0_0.length c0_0),(.slice A0_1 l0_1.length c0_1),(.slice A0_2 l0_2.length c0_2),.int .i64 a0_3] 26 (0,0)))∧As0 (Below w.heap.size w w'))
 case atStart=>exact ⟨(0),(0),(by first|rfl|(simp;done)|(simp [*];done)),(by first|rfl|(simp;done)|(simp [*];done)),H',⟨Nat.le_refl _⟩,⟨by (with_reducible repeat (first|refine bkN ?_ _|refine bkD ?_|refine bkA ?_ _));exact BK155.out⟩,⟨by repeat (first|(with_reducible first|exact HB.out|apply bdA|apply bdN|apply bd1|refine bdS ?_ GE155.out)|exact HB.out)⟩⟩
 case round =>
  clear H'
  try clear p2
  obtain ⟨x3_1,x4_1,rfl,rfl,HA,HK1,BK155,HB⟩:=hrel
  cases gk with
  | zero=>exact absurd HA.out (by simp [sr17h.l0])
  | succ k1 =>
   have H:=HA.out
   clear HA
   simp only [sr17h.l0] at H
   by_cases c3:x4_1<(l0_2.length:Int)
   ·rw [if_pos c3] at H
    have c3b0:decide (x4_1<(l0_2.length:Int))=true:=decide_eq_true c3
    clear c3
    by_cases c4:0≤x4_1
    ·rw [if_pos c4] at H
     have c4b0:decide (0≤x4_1)=true:=decide_eq_true c4
     clear c4
     replace H:=Option.bind_eq_some_iff.mp H
     obtain ⟨t157,A50,H⟩:=H
     replace H:(if t157=true then ((spindleref12_TableSize.f ((rd_T56 l0_2 x4_1).f0) ((rd_T56 l0_2 x4_1).f1) ((rd_T56 l0_2 x4_1).f2) ((rd_T56 l0_2 x4_1).f3) ((rd_T56 l0_2 x4_1).f4)).bind fun t159=>(sr17h.l0 k1 (wrap64 (x3_1+t159)) (wrap64 (x4_1+1)) l0_0 l0_1 l0_2 a0_3)) else (some x4_1))=some r:=H
     have A5:=As0.mk A50
     clear A50
     by_cases c6:t157=true
     ·subst c6
      have H1:((spindleref12_TableSize.f ((rd_T56 l0_2 x4_1).f0) ((rd_T56 l0_2 x4_1).f1) ((rd_T56 l0_2 x4_1).f2) ((rd_T56 l0_2 x4_1).f3) ((rd_T56 l0_2 x4_1).f4)).bind fun t159=>(sr17h.l0 k1 (wrap64 (x3_1+t159)) (wrap64 (x4_1+1)) l0_0 l0_1 l0_2 a0_3))=some r:=by rw [if_pos rfl] at H;exact H
      clear H
      have H:=H1
      clear H1
      replace H:=Option.bind_eq_some_iff.mp H
      obtain ⟨t159,A70,H⟩:=H
      replace H:(sr17h.l0 k1 (wrap64 (x3_1+t159)) (wrap64 (x4_1+1)) l0_0 l0_1 l0_2 a0_3)=some r:=H
      have A7:=As0.mk A70
      clear A70
      have H':=As0.mk H
      clear H
      have hcz8_0:wr.cell? ⟨gb155,0,none⟩=some (.slice A0_0 l0_0.length c0_0):=(bkC BK155.out 0).trans rfl
      have hcz8_1:wr.cell? ⟨gb155,1,none⟩=some (.slice A0_1 l0_1.length c0_1):=(bkC BK155.out 1).trans rfl
      have hcz8_2:wr.cell? ⟨gb155,2,none⟩=some (.slice A0_2 l0_2.length c0_2):=(bkC BK155.out 2).trans rfl
      have hcz8_3:wr.cell? ⟨gb155,3,none⟩=some (.int .i64 a0_3):=(bkC BK155.out 3).trans rfl
      have hfz8_0:=bkF BK155.out 0
      have hfz8_1:=bkF BK155.out 1
      have hfz8_2:=bkF BK155.out 2
      have hfz8_3:=bkF BK155.out 3
      have p156:0≤(x4_1:Int):=of_decide_eq_true (by first|(with_reducible assumption)|assumption)
      have q156:x4_1<(l0_2.length:Int):=of_decide_eq_true (by first|(with_reducible assumption)|assumption)
      obtain ⟨ad156,e156,hx156_0,hx156_1,hx156_2,hx156_3,hx156_4⟩:=at_T56 HR0_2.out x4_1 p156 q156
      cases e156
      replace hx156_0:=(HB.out.cell (World.block_lt_of_cell? w _ hx156_0)).trans hx156_0
      replace hx156_1:=(HB.out.cell (World.block_lt_of_cell? w _ hx156_1)).trans hx156_1
      replace hx156_2:=(HB.out.cell (World.block_lt_of_cell? w _ hx156_2)).trans hx156_2
      replace hx156_3:=(HB.out.cell (World.block_lt_of_cell? w _ hx156_3)).trans hx156_3
      replace hx156_4:=(HB.out.cell (World.block_lt_of_cell? w _ hx156_4)).trans hx156_4
      replace p156:=eq_true p156
      replace q156:=eq_true q156
      go_wp2_with (first|((with_reducible refine gate_callee (f:=82) rfl ?_);refine goesL_ (some 18) rfl rfl Try.func82 (by kernel_rfl) rfl #[.agg #[.string ((rd_T56 l0_2 x4_1).f0),.int .i64 ((rd_T56 l0_2 x4_1).f1),.int .i64 ((rd_T56 l0_2 x4_1).f2),.int .i64 ((rd_T56 l0_2 x4_1).f3),.int .i64 ((rd_T56 l0_2 x4_1).f4)]] rfl (by (try simp only [List.map_toArray,List.map_cons,List.map_nil]);first|done|rfl|(simp only [List.length_drop,List.length_take];rfl)) ?_;(with_reducible refine (sr12m.calls ((rd_T56 l0_2 x4_1).f0) ((rd_T56 l0_2 x4_1).f1) ((rd_T56 l0_2 x4_1).f2) ((rd_T56 l0_2 x4_1).f3) ((rd_T56 l0_2 x4_1).f4) true _ A5.out).mono ?_);rintro e w9 ⟨rfl,hb⟩;refine ⟨_,rfl,?_⟩;have n0_:=As0.mk (bkB (g:=gb155) (o:=.cells #[.slice A0_0 l0_0.length c0_0,.slice A0_1 l0_1.length c0_1,.slice (some ad156) l0_2.length c0_2,.int .i64 a0_3] 26 (0,0)) (by (with_reducible repeat (first|refine bkN ?_ _|refine bkD ?_|refine bkA ?_ _));exact BK155.out) hb);have n1_:=As0.mk (bdT (by repeat (first|(with_reducible first|exact HB.out|apply bdA|apply bdN|apply bd1|refine bdS ?_ GE155.out)|exact HB.out)) hb);clear BK155;clear HB;have BK155:=n0_;have HB:=n1_;clear n0_ n1_;(try clear hb);(try clear hb2);(try clear hk);(try clear hi);have hcz10_0:w9.cell? ⟨gb155,0,none⟩=some (.slice A0_0 l0_0.length c0_0):=(bkC BK155.out 0).trans rfl;have hcz10_1:w9.cell? ⟨gb155,1,none⟩=some (.slice A0_1 l0_1.length c0_1):=(bkC BK155.out 1).trans rfl;have hcz10_2:w9.cell? ⟨gb155,2,none⟩=some (.slice (some ad156) l0_2.length c0_2):=(bkC BK155.out 2).trans rfl;have hcz10_3:w9.cell? ⟨gb155,3,none⟩=some (.int .i64 a0_3):=(bkC BK155.out 3).trans rfl;have hfz10_0:=bkF BK155.out 0;have hfz10_1:=bkF BK155.out 1;have hfz10_2:=bkF BK155.out 2;have hfz10_3:=bkF BK155.out 3;have p158:0≤(x4_1:Int):=of_decide_eq_true (by first|(with_reducible assumption)|assumption);have q158:x4_1<(l0_2.length:Int):=of_decide_eq_true (by first|(with_reducible assumption)|assumption);obtain ⟨ad158,e158,hx158_0,hx158_1,hx158_2,hx158_3,hx158_4⟩:=at_T56 HR0_2.out x4_1 p158 q158;obtain rfl:ad156=ad158:=(by injection e158);replace hx158_0:=(HB.out.cell (World.block_lt_of_cell? w _ hx158_0)).trans hx158_0;replace hx158_1:=(HB.out.cell (World.block_lt_of_cell? w _ hx158_1)).trans hx158_1;replace hx158_2:=(HB.out.cell (World.block_lt_of_cell? w _ hx158_2)).trans hx158_2;replace hx158_3:=(HB.out.cell (World.block_lt_of_cell? w _ hx158_3)).trans hx158_3;replace hx158_4:=(HB.out.cell (World.block_lt_of_cell? w _ hx158_4)).trans hx158_4;replace p158:=eq_true p158;replace q158:=eq_true q158)|((with_reducible refine gate_callee (f:=83) rfl ?_);refine goesL_ (some 28) rfl rfl Try.func83 (by kernel_rfl) rfl #[.agg #[.string ((rd_T56 l0_2 x4_1).f0),.int .i64 ((rd_T56 l0_2 x4_1).f1),.int .i64 ((rd_T56 l0_2 x4_1).f2),.int .i64 ((rd_T56 l0_2 x4_1).f3),.int .i64 ((rd_T56 l0_2 x4_1).f4)]] rfl (by (try simp only [List.map_toArray,List.map_cons,List.map_nil]);first|done|rfl|(simp only [List.length_drop,List.length_take];rfl)) ?_;(with_reducible refine (spindleref12_TableSize.calls ((rd_T56 l0_2 x4_1).f0) ((rd_T56 l0_2 x4_1).f1) ((rd_T56 l0_2 x4_1).f2) ((rd_T56 l0_2 x4_1).f3) ((rd_T56 l0_2 x4_1).f4) t159 _ A7.out).mono ?_);rintro e w11 ⟨rfl,hb⟩;refine ⟨_,rfl,?_⟩;have n0_:=As0.mk (bkB (g:=gb155) (o:=.cells #[.slice A0_0 l0_0.length c0_0,.slice A0_1 l0_1.length c0_1,.slice (some ad156) l0_2.length c0_2,.int .i64 a0_3] 26 (0,0)) (by (with_reducible repeat (first|refine bkN ?_ _|refine bkD ?_|refine bkA ?_ _));exact BK155.out) hb);have n1_:=As0.mk (bdT (by repeat (first|(with_reducible first|exact HB.out|apply bdA|apply bdN|apply bd1|refine bdS ?_ GE155.out)|exact HB.out)) hb);clear BK155;clear HB;have BK155:=n0_;have HB:=n1_;clear n0_ n1_;(try clear hb);(try clear hb2);(try clear hk);(try clear hi)))
      go_roundg k1
      case measure=>have:=HK1.out;omega
      case rel=>exact ⟨(wrap64 (x3_1+t159)),(wrap64 (x4_1+1)),(by first|rfl|(simp;done)|(simp [*];done)),(by first|rfl|(simp;done)|(simp [*];done)),H',⟨by have:=HK1.out;omega⟩,⟨by (with_reducible repeat (first|refine bkN ?_ _|refine bkD ?_|refine bkA ?_ _));exact BK155.out⟩,⟨by repeat (first|(with_reducible first|exact HB.out|apply bdA|apply bdN|apply bd1|refine bdS ?_ GE155.out)|exact HB.out)⟩⟩
     ·replace c6:=Bool.eq_false_iff.mpr c6
      subst c6
      have H1:(some x4_1)=some r:=by rw [if_neg (show ¬ (false=true) by decide)] at H;exact H
      clear H
      have H:=H1
      clear H1
      obtain rfl:=Option.some.inj H
      have hcz12_0:wr.cell? ⟨gb155,0,none⟩=some (.slice A0_0 l0_0.length c0_0):=(bkC BK155.out 0).trans rfl
      have hcz12_1:wr.cell? ⟨gb155,1,none⟩=some (.slice A0_1 l0_1.length c0_1):=(bkC BK155.out 1).trans rfl
      have hcz12_2:wr.cell? ⟨gb155,2,none⟩=some (.slice A0_2 l0_2.length c0_2):=(bkC BK155.out 2).trans rfl
      have hcz12_3:wr.cell? ⟨gb155,3,none⟩=some (.int .i64 a0_3):=(bkC BK155.out 3).trans rfl
      have hfz12_0:=bkF BK155.out 0
      have hfz12_1:=bkF BK155.out 1
      have hfz12_2:=bkF BK155.out 2
      have hfz12_3:=bkF BK155.out 3
      have p156:0≤(x4_1:Int):=of_decide_eq_true (by first|(with_reducible assumption)|assumption)
      have q156:x4_1<(l0_2.length:Int):=of_decide_eq_true (by first|(with_reducible assumption)|assumption)
      obtain ⟨ad156,e156,hx156_0,hx156_1,hx156_2,hx156_3,hx156_4⟩:=at_T56 HR0_2.out x4_1 p156 q156
      cases e156
      replace hx156_0:=(HB.out.cell (World.block_lt_of_cell? w _ hx156_0)).trans hx156_0
      replace hx156_1:=(HB.out.cell (World.block_lt_of_cell? w _ hx156_1)).trans hx156_1
      replace hx156_2:=(HB.out.cell (World.block_lt_of_cell? w _ hx156_2)).trans hx156_2
      replace hx156_3:=(HB.out.cell (World.block_lt_of_cell? w _ hx156_3)).trans hx156_3
      replace hx156_4:=(HB.out.cell (World.block_lt_of_cell? w _ hx156_4)).trans hx156_4
      replace p156:=eq_true p156
      replace q156:=eq_true q156
      go_wp2_with (first|((with_reducible refine gate_callee (f:=82) rfl ?_);refine goesL_ (some 18) rfl rfl Try.func82 (by kernel_rfl) rfl #[.agg #[.string ((rd_T56 l0_2 x4_1).f0),.int .i64 ((rd_T56 l0_2 x4_1).f1),.int .i64 ((rd_T56 l0_2 x4_1).f2),.int .i64 ((rd_T56 l0_2 x4_1).f3),.int .i64 ((rd_T56 l0_2 x4_1).f4)]] rfl (by (try simp only [List.map_toArray,List.map_cons,List.map_nil]);first|done|rfl|(simp only [List.length_drop,List.length_take];rfl)) ?_;(with_reducible refine (sr12m.calls ((rd_T56 l0_2 x4_1).f0) ((rd_T56 l0_2 x4_1).f1) ((rd_T56 l0_2 x4_1).f2) ((rd_T56 l0_2 x4_1).f3) ((rd_T56 l0_2 x4_1).f4) false _ A5.out).mono ?_);rintro e w13 ⟨rfl,hb⟩;refine ⟨_,rfl,?_⟩;have n0_:=As0.mk (bkB (g:=gb155) (o:=.cells #[.slice A0_0 l0_0.length c0_0,.slice A0_1 l0_1.length c0_1,.slice (some ad156) l0_2.length c0_2,.int .i64 a0_3] 26 (0,0)) (by (with_reducible repeat (first|refine bkN ?_ _|refine bkD ?_|refine bkA ?_ _));exact BK155.out) hb);have n1_:=As0.mk (bdT (by repeat (first|(with_reducible first|exact HB.out|apply bdA|apply bdN|apply bd1|refine bdS ?_ GE155.out)|exact HB.out)) hb);clear BK155;clear HB;have BK155:=n0_;have HB:=n1_;clear n0_ n1_;(try clear hb);(try clear hb2);(try clear hk);(try clear hi)))
      go_ret
      exact ⟨by first|rfl|(simp [errW_none,errW_some] <;> rfl)|(simp [*,errW_none,errW_some] <;> rfl),by repeat (first|(with_reducible first|exact HB.out|apply bdA|apply bdN|apply bd1|refine bdS ?_ GE155.out)|exact HB.out)⟩
    ·rw [if_neg c4] at H
     exact absurd H (by simp)
   ·rw [if_neg c3] at H
    have c3b0:decide (x4_1<(l0_2.length:Int))=false:=decide_eq_false c3
    clear c3
    by_cases c14:x3_1 > 67108864
    ·rw [if_pos c14] at H
     have c14b0:decide (67108864<x3_1)=true:=decide_eq_true c14
     clear c14
     obtain rfl:=Option.some.inj H
     have hcz15_0:wr.cell? ⟨gb155,0,none⟩=some (.slice A0_0 l0_0.length c0_0):=(bkC BK155.out 0).trans rfl
     have hcz15_1:wr.cell? ⟨gb155,1,none⟩=some (.slice A0_1 l0_1.length c0_1):=(bkC BK155.out 1).trans rfl
     have hcz15_2:wr.cell? ⟨gb155,2,none⟩=some (.slice A0_2 l0_2.length c0_2):=(bkC BK155.out 2).trans rfl
     have hcz15_3:wr.cell? ⟨gb155,3,none⟩=some (.int .i64 a0_3):=(bkC BK155.out 3).trans rfl
     have hfz15_0:=bkF BK155.out 0
     have hfz15_1:=bkF BK155.out 1
     have hfz15_2:=bkF BK155.out 2
     have hfz15_3:=bkF BK155.out 3
     go_wp2
     go_ret
     exact ⟨by first|rfl|(simp [errW_none,errW_some] <;> rfl)|(simp [*,errW_none,errW_some] <;> rfl),by repeat (first|(with_reducible first|exact HB.out|apply bdA|apply bdN|apply bd1|refine bdS ?_ GE155.out)|exact HB.out)⟩
    ·rw [if_neg c14] at H
     have c14b0:decide (67108864<x3_1)=false:=decide_eq_false c14
     clear c14
     obtain rfl:=Option.some.inj H
     have hcz16_0:wr.cell? ⟨gb155,0,none⟩=some (.slice A0_0 l0_0.length c0_0):=(bkC BK155.out 0).trans rfl
     have hcz16_1:wr.cell? ⟨gb155,1,none⟩=some (.slice A0_1 l0_1.length c0_1):=(bkC BK155.out 1).trans rfl
     have hcz16_2:wr.cell? ⟨gb155,2,none⟩=some (.slice A0_2 l0_2.length c0_2):=(bkC BK155.out 2).trans rfl
     have hcz16_3:wr.cell? ⟨gb155,3,none⟩=some (.int .i64 a0_3):=(bkC BK155.out 3).trans rfl
     have hfz16_0:=bkF BK155.out 0
     have hfz16_1:=bkF BK155.out 1
     have hfz16_2:=bkF BK155.out 2
     have hfz16_3:=bkF BK155.out 3
     go_wp2
     go_ret
     exact ⟨by first|rfl|(simp [errW_none,errW_some] <;> rfl)|(simp [*,errW_none,errW_some] <;> rfl),by repeat (first|(with_reducible first|exact HB.out|apply bdA|apply bdN|apply bd1|refine bdS ?_ GE155.out)|exact HB.out)⟩
def spindleref17_fits.f (a0_0:Int) (a0_1:Int) (a0_2:Int) (a0_3:Int) (a0_4:Int):Option (Bool):=(spindleref17_wide.f a0_0 a0_1 a0_2 a0_3 a0_4).bind fun t161=>(if t161=true then (if a0_0≥0 then (if a0_0≤255 then (if a0_1≥0 then (if a0_1≤15 then (if a0_2≥0 then (if a0_2≤15 then (if a0_3≥(-32768) then (some (decide (a0_3≤32767))) else (some false)) else (some false)) else (some false)) else (some false)) else (some false)) else (some false)) else (some false)) else (if a0_4≥(-2147483648) then (if a0_4≤2147483647 then (if a0_0≥0 then (if a0_0≤255 then (if a0_1≥0 then (if a0_1≤15 then (if a0_2≥0 then (if a0_2≤15 then (if a0_3≥(-32768) then (some (decide (a0_3≤32767))) else (some false)) else (some false)) else (some false)) else (some false)) else (some false)) else (some false)) else (some false)) else (some false)) else (some false)))
theorem spindleref17_fits.calls (a0_0:Int) (a0_1:Int) (a0_2:Int) (a0_3:Int) (a0_4:Int) (r:Bool) (w:World) (h:spindleref17_fits.f a0_0 a0_1 a0_2 a0_3 a0_4=some r) :
  Calls Try.prog 53 #[.agg #[.int .i64 a0_0,.int .i64 a0_1,.int .i64 a0_2,.int .i64 a0_3,.int .i64 a0_4]] w fun e w'=>e=.returned (.bool r)∧Below w.heap.size w w':=by
 have HH:=As0.mk h
 clear h
 go_enter Try.func53,Try.ntmps53
 refine wp_seq_k (fun K hK=>?_)
 have HK:=As0.mk hK
 clear hK
 go_wp2
 refine HK.out _ _ ?_
 clear HK
 have HB:=As0.mk (bdA (Below.refl w.heap.size w) (.cells #[.int .i64 a0_0,.int .i64 a0_1,.int .i64 a0_2,.int .i64 a0_3,.int .i64 a0_4] 54))
 have BK:=As0.mk (show (w.alloc (.cells #[.int .i64 a0_0,.int .i64 a0_1,.int .i64 a0_2,.int .i64 a0_3,.int .i64 a0_4] 54)).heap[w.heap.size]?=some (.cells #[.int .i64 a0_0,.int .i64 a0_1,.int .i64 a0_2,.int .i64 a0_3,.int .i64 a0_4] 54 (0,0)) from heap_alloc_new w _)
 generalize w.alloc (.cells #[.int .i64 a0_0,.int .i64 a0_1,.int .i64 a0_2,.int .i64 a0_3,.int .i64 a0_4] 54)=w1 at HB BK ⊢
 have z0:=(bkC BK.out 0).trans rfl
 have z1:=(bkC BK.out 1).trans rfl
 have z2:=(bkC BK.out 2).trans rfl
 have z3:=(bkC BK.out 3).trans rfl
 have z4:=(bkC BK.out 4).trans rfl
 simp only [List.getElem?_toArray,List.getElem?_cons_zero,List.getElem?_cons_succ] at z0 z1 z2 z3 z4
 refine wp_seq_k (fun K hK=>?_)
 have HK:=As0.mk hK
 clear hK
 go_wp2_with (go_at_call 84;refine (spindleref17_wide.calls _ _ _ _ _ _ _ rfl).mono ?_;rintro e w2 ⟨rfl,hb⟩;have HB2:=As0.mk (bdT HB.out hb);have BK2:=As0.mk (bkB BK.out hb);clear hb z0 z1 z2 z3 z4 HB BK;have z0:=(bkC BK2.out 0).trans rfl;have z1:=(bkC BK2.out 1).trans rfl;have z2:=(bkC BK2.out 2).trans rfl;have z3:=(bkC BK2.out 3).trans rfl;have z4:=(bkC BK2.out 4).trans rfl;simp only [List.getElem?_toArray,List.getElem?_cons_zero,List.getElem?_cons_succ] at z0 z1 z2 z3 z4)
 all_goals (refine HK.out _ _ ?_;clear HK;go_wp2)
 all_goals
  go_ret
  refine ⟨?_,HB2.out⟩
  have h:=HH.out
  unfold spindleref17_fits.f spindleref17_wide.f at h
  simp only [Option.bind_some] at h
  clear HH HB2 BK2 z0 z1 z2 z3 z4
  repeat' split at h
  all_goals first|(simp_all;done)|(simp_all;omega)|(exfalso;simp_all;omega)
end Go.Proofs.Ytbeikcckcjadbaa.PI
end
section
namespace Go.Proofs.Ytbeikcckcjadbaa.PI
open Go.RowKit Go.Proofs.YtbeikcckcjadbaaW.PrintWords Go.Proofs.YtbeikcckcjadbaaW.PrintLast Go.Proofs.YtbeikcckcjadbaaW.PrintMore
attribute [local go_sem] isSome_setCell max2_int min2_int max_two min_two max_three min_three max_four min_four
attribute [local go_sem high] eqA54 eqA68
mutual
def sr17c.j0:Nat→Bool→List (S54)→List (S68)→List (S56)→Int→Option (Int × Int)
 | 0,_,_,_,_,_=>none
 | k+1,x37,x163000,x163001,x163002,x163003=>if x37=true then (some (0,175)) else (sr17c.l0 k 0 x163000 x163001 x163002 x163003)
def sr17c.l0:Nat→Int→List (S54)→List (S68)→List (S56)→Int→Option (Int × Int)
 | 0,_,_,_,_,_=>none
 | k+1,x5,x163000,x163001,x163002,x163003=>if x5<(x163000.length:Int) then (if 0≤x5 then ((spindleref17_fits.f ((rd_T54 x163000 x5).f0) ((rd_T54 x163000 x5).f1) ((rd_T54 x163000 x5).f2) ((rd_T54 x163000 x5).f3) ((rd_T54 x163000 x5).f4)).bind fun t168=>(if t168=true then (sr17c.l0 k (wrap64 (x5+1)) x163000 x163001 x163002 x163003) else (some (x5,176)))) else (none)) else (some (0,0))
end
def sr17c.f (k:Nat) (l0_0:List (S54)) (l0_1:List (S68)) (l0_2:List (S56)) (a0_3:Int):Option (Int × Int):=(spindleref17_many.f k l0_0 l0_1 l0_2 a0_3).bind fun t163=>(if t163≥0 then (some (t163,171)) else ((sr17n.f k l0_0 l0_1 l0_2 a0_3).bind fun t164=>(if t164≥0 then (some (t164,172)) else ((sr17u.f k l0_0 l0_1 l0_2 a0_3).bind fun t165=>(if t165≥0 then (some (t165,173)) else ((sr17h.f k l0_0 l0_1 l0_2 a0_3).bind fun t166=>(if t166≥0 then (some (t166,174)) else (if a0_3<0 then (sr17c.j0 k true l0_0 l0_1 l0_2 a0_3) else (sr17c.j0 k (decide (a0_3≥(l0_1.length:Int))) l0_0 l0_1 l0_2 a0_3)))))))))
theorem sr17c.calls (k:Nat) (A0_0:Option Addr) (c0_0:Nat) (l0_0:List (S54)) (A0_1:Option Addr) (c0_1:Nat) (l0_1:List (S68)) (A0_2:Option Addr) (c0_2:Nat) (l0_2:List (S56)) (a0_3:Int) (r1:Int) (r2:Int) (w:World) (hr0_0:Kd.C k54 w A0_0 l0_0.length l0_0) (hc0_0:l0_0.length≤c0_0) (hr0_1:Kd.C k68 w A0_1 l0_1.length l0_1) (hc0_1:l0_1.length≤c0_1) (hr0_2:Kd.C k56 w A0_2 l0_2.length l0_2) (hc0_2:l0_2.length≤c0_2) (h:sr17c.f k l0_0 l0_1 l0_2 a0_3=some (r1,r2)) :
  Calls Try.prog 20 #[.agg #[.slice A0_0 l0_0.length c0_0,.slice A0_1 l0_1.length c0_1,.slice A0_2 l0_2.length c0_2,.int .i64 a0_3]] w fun e w'=>e=.returned (.tuple #[.int .i64 r1,.int .i64 r2])∧Below w.heap.size w w':=by
 have hu26:=Try.underlying26
 have hu54:=Try.underlying54
 have HR0_0:=As0.mk hr0_0
 have HC0_0:=As0.mk hc0_0
 clear hr0_0 hc0_0
 have HR0_1:=As0.mk hr0_1
 have HC0_1:=As0.mk hc0_1
 clear hr0_1 hc0_1
 have HR0_2:=As0.mk hr0_2
 have HC0_2:=As0.mk hc0_2
 clear hr0_2 hc0_2
 have HB:=As0.mk (Below.refl w.heap.size w)
 have H:((spindleref17_many.f k l0_0 l0_1 l0_2 a0_3).bind fun t163=>(if t163≥0 then (some (t163,171)) else ((sr17n.f k l0_0 l0_1 l0_2 a0_3).bind fun t164=>(if t164≥0 then (some (t164,172)) else ((sr17u.f k l0_0 l0_1 l0_2 a0_3).bind fun t165=>(if t165≥0 then (some (t165,173)) else ((sr17h.f k l0_0 l0_1 l0_2 a0_3).bind fun t166=>(if t166≥0 then (some (t166,174)) else (if a0_3<0 then (sr17c.j0 k true l0_0 l0_1 l0_2 a0_3) else (sr17c.j0 k (decide (a0_3≥(l0_1.length:Int))) l0_0 l0_1 l0_2 a0_3))))))))))=some (r1,r2):=h
 clear h
 replace H:=Option.bind_eq_some_iff.mp H
 obtain ⟨t163,A20,H⟩:=H
 replace H:(if t163≥0 then (some (t163,171)) else ((sr17n.f k l0_0 l0_1 l0_2 a0_3).bind fun t164=>(if t164≥0 then (some (t164,172)) else ((sr17u.f k l0_0 l0_1 l0_2 a0_3).bind fun t165=>(if t165≥0 then (some (t165,173)) else ((sr17h.f k l0_0 l0_1 l0_2 a0_3).bind fun t166=>(if t166≥0 then (some (t166,174)) else (if a0_3<0 then (sr17c.j0 k true l0_0 l0_1 l0_2 a0_3) else (sr17c.j0 k (decide (a0_3≥(l0_1.length:Int))) l0_0 l0_1 l0_2 a0_3)))))))))=some (r1,r2):=H
 have A2:=As0.mk A20
 clear A20
 by_cases c3:t163≥0
 ·rw [if_pos c3] at H
  have c3b0:decide (0≤t163)=true:=decide_eq_true c3
  clear c3
  simp only [Option.some.injEq,Prod.mk.injEq] at H
  obtain ⟨rfl,rfl⟩:=H
  go_enter Try.func20,Try.ntmps20
  go_wp2_with (first|((with_reducible refine gtD (N:=1) rfl ?_);(try (refine gate_guard (by rfl) ?_;dsimp only));refine bxE ?hg (N:=1) ?hd (cs:=#[.slice A0_0 l0_0.length c0_0,.slice A0_1 l0_1.length c0_1,.slice A0_2 l0_2.length c0_2,.int .i64 a0_3]) (t:=26) ?hr ?_;(case hd=>rfl);(case hg=>rfl);(case hr=>first|(go_simp;done)|(go_simp;rfl));intro gb162 hg w4 hbox hb;have n0_:=As0.mk (bdT (by repeat (first|(with_reducible first|exact HB.out|apply bdA|apply bdN|apply bd1)|exact HB.out)) hb);have n1_:=As0.mk (hbox);have n2_:=As0.mk ((by rw [hg];exact (bdZ (by repeat (first|(with_reducible first|exact HB.out|apply bdA|apply bdN|apply bd1)|exact HB.out))):w.heap.size≤gb162));have n3_:=As0.mk ((by rw [hg];exact (bdZ (by repeat (first|(with_reducible first|exact HB.out|apply bdA|apply bdN|apply bd1)|exact HB.out))):w.heap.size≤gb162));clear HB;have HB:=n0_;have BK162:=n1_;have GW162:=n2_;have GE162:=n3_;clear n0_ n1_ n2_ n3_;clear hb hbox hg;have hcz5_0:w4.cell? ⟨gb162,0,none⟩=some (.slice A0_0 l0_0.length c0_0):=(bkC BK162.out 0).trans rfl;have hcz5_1:w4.cell? ⟨gb162,1,none⟩=some (.slice A0_1 l0_1.length c0_1):=(bkC BK162.out 1).trans rfl;have hcz5_2:w4.cell? ⟨gb162,2,none⟩=some (.slice A0_2 l0_2.length c0_2):=(bkC BK162.out 2).trans rfl;have hcz5_3:w4.cell? ⟨gb162,3,none⟩=some (.int .i64 a0_3):=(bkC BK162.out 3).trans rfl;have hfz5_0:=bkF BK162.out 0;have hfz5_1:=bkF BK162.out 1;have hfz5_2:=bkF BK162.out 2;have hfz5_3:=bkF BK162.out 3)|((with_reducible refine gate_callee (f:=49) rfl ?_);refine goesL_ (some 8) rfl rfl Try.func49 (by kernel_rfl) rfl #[.agg #[.slice A0_0 l0_0.length c0_0,.slice A0_1 l0_1.length c0_1,.slice A0_2 l0_2.length c0_2,.int .i64 a0_3]] rfl (by (try simp only [List.map_toArray,List.map_cons,List.map_nil]);first|done|rfl|(simp only [List.length_drop,List.length_take];rfl)) ?_;(with_reducible refine (spindleref17_many.calls k _ _ l0_0 _ _ l0_1 _ _ l0_2 a0_3 t163 _ ?side1 ?side2 ?side3 ?side4 ?side5 ?side6 A2.out).mono ?_);(case side1=>repeat (first|exact (Kd.CbW HR0_0.out HB.out)|(with_reducible refine Kd.C_alloc ?_ _)|(with_reducible refine Kd.C_drewN ?_ _)|(with_reducible refine Kd.C_drew ?_)));(case side2=>exact HC0_0.out);(case side3=>repeat (first|exact (Kd.CbW HR0_1.out HB.out)|(with_reducible refine Kd.C_alloc ?_ _)|(with_reducible refine Kd.C_drewN ?_ _)|(with_reducible refine Kd.C_drew ?_)));(case side4=>exact HC0_1.out);(case side5=>repeat (first|exact (Kd.CbW HR0_2.out HB.out)|(with_reducible refine Kd.C_alloc ?_ _)|(with_reducible refine Kd.C_drewN ?_ _)|(with_reducible refine Kd.C_drew ?_)));(case side6=>exact HC0_2.out);rintro e w6 ⟨rfl,hb⟩;refine ⟨_,rfl,?_⟩;have n0_:=As0.mk (bkB (g:=gb162) (o:=.cells #[.slice A0_0 l0_0.length c0_0,.slice A0_1 l0_1.length c0_1,.slice A0_2 l0_2.length c0_2,.int .i64 a0_3] 26 (0,0)) (by (with_reducible repeat (first|refine bkN ?_ _|refine bkD ?_|refine bkA ?_ _));exact BK162.out) hb);have n1_:=As0.mk (bdT (by repeat (first|(with_reducible first|exact HB.out|apply bdA|apply bdN|apply bd1|refine bdS ?_ GE162.out)|exact HB.out)) hb);clear BK162;clear HB;have BK162:=n0_;have HB:=n1_;clear n0_ n1_;(try clear hb);(try clear hb2);(try clear hk);(try clear hi)))
  go_ret2
  exact ⟨by first|rfl|(simp [errW_none,errW_some] <;> rfl)|(simp [*,errW_none,errW_some] <;> rfl),by repeat (first|(with_reducible first|exact HB.out|apply bdA|apply bdN|apply bd1|refine bdS ?_ GE162.out)|exact HB.out)⟩
 ·rw [if_neg c3] at H
  have c3b0:decide (0≤t163)=false:=decide_eq_false c3
  clear c3
  replace H:=Option.bind_eq_some_iff.mp H
  obtain ⟨t164,A70,H⟩:=H
  replace H:(if t164≥0 then (some (t164,172)) else ((sr17u.f k l0_0 l0_1 l0_2 a0_3).bind fun t165=>(if t165≥0 then (some (t165,173)) else ((sr17h.f k l0_0 l0_1 l0_2 a0_3).bind fun t166=>(if t166≥0 then (some (t166,174)) else (if a0_3<0 then (sr17c.j0 k true l0_0 l0_1 l0_2 a0_3) else (sr17c.j0 k (decide (a0_3≥(l0_1.length:Int))) l0_0 l0_1 l0_2 a0_3)))))))=some (r1,r2):=H
  have A7:=As0.mk A70
  clear A70
  by_cases c8:t164≥0
  ·rw [if_pos c8] at H
   have c8b0:decide (0≤t164)=true:=decide_eq_true c8
   clear c8
   simp only [Option.some.injEq,Prod.mk.injEq] at H
   obtain ⟨rfl,rfl⟩:=H
   go_enter Try.func20,Try.ntmps20
   go_wp2_with (first|((with_reducible refine gtD (N:=1) rfl ?_);(try (refine gate_guard (by rfl) ?_;dsimp only));refine bxE ?hg (N:=1) ?hd (cs:=#[.slice A0_0 l0_0.length c0_0,.slice A0_1 l0_1.length c0_1,.slice A0_2 l0_2.length c0_2,.int .i64 a0_3]) (t:=26) ?hr ?_;(case hd=>rfl);(case hg=>rfl);(case hr=>first|(go_simp;done)|(go_simp;rfl));intro gb162 hg w9 hbox hb;have n0_:=As0.mk (bdT (by repeat (first|(with_reducible first|exact HB.out|apply bdA|apply bdN|apply bd1)|exact HB.out)) hb);have n1_:=As0.mk (hbox);have n2_:=As0.mk ((by rw [hg];exact (bdZ (by repeat (first|(with_reducible first|exact HB.out|apply bdA|apply bdN|apply bd1)|exact HB.out))):w.heap.size≤gb162));have n3_:=As0.mk ((by rw [hg];exact (bdZ (by repeat (first|(with_reducible first|exact HB.out|apply bdA|apply bdN|apply bd1)|exact HB.out))):w.heap.size≤gb162));clear HB;have HB:=n0_;have BK162:=n1_;have GW162:=n2_;have GE162:=n3_;clear n0_ n1_ n2_ n3_;clear hb hbox hg;have hcz10_0:w9.cell? ⟨gb162,0,none⟩=some (.slice A0_0 l0_0.length c0_0):=(bkC BK162.out 0).trans rfl;have hcz10_1:w9.cell? ⟨gb162,1,none⟩=some (.slice A0_1 l0_1.length c0_1):=(bkC BK162.out 1).trans rfl;have hcz10_2:w9.cell? ⟨gb162,2,none⟩=some (.slice A0_2 l0_2.length c0_2):=(bkC BK162.out 2).trans rfl;have hcz10_3:w9.cell? ⟨gb162,3,none⟩=some (.int .i64 a0_3):=(bkC BK162.out 3).trans rfl;have hfz10_0:=bkF BK162.out 0;have hfz10_1:=bkF BK162.out 1;have hfz10_2:=bkF BK162.out 2;have hfz10_3:=bkF BK162.out 3)|((with_reducible refine gate_callee (f:=49) rfl ?_);refine goesL_ (some 8) rfl rfl Try.func49 (by kernel_rfl) rfl #[.agg #[.slice A0_0 l0_0.length c0_0,.slice A0_1 l0_1.length c0_1,.slice A0_2 l0_2.length c0_2,.int .i64 a0_3]] rfl (by (try simp only [List.map_toArray,List.map_cons,List.map_nil]);first|done|rfl|(simp only [List.length_drop,List.length_take];rfl)) ?_;(with_reducible refine (spindleref17_many.calls k _ _ l0_0 _ _ l0_1 _ _ l0_2 a0_3 t163 _ ?side1 ?side2 ?side3 ?side4 ?side5 ?side6 A2.out).mono ?_);(case side1=>repeat (first|exact (Kd.CbW HR0_0.out HB.out)|(with_reducible refine Kd.C_alloc ?_ _)|(with_reducible refine Kd.C_drewN ?_ _)|(with_reducible refine Kd.C_drew ?_)));(case side2=>exact HC0_0.out);(case side3=>repeat (first|exact (Kd.CbW HR0_1.out HB.out)|(with_reducible refine Kd.C_alloc ?_ _)|(with_reducible refine Kd.C_drewN ?_ _)|(with_reducible refine Kd.C_drew ?_)));(case side4=>exact HC0_1.out);(case side5=>repeat (first|exact (Kd.CbW HR0_2.out HB.out)|(with_reducible refine Kd.C_alloc ?_ _)|(with_reducible refine Kd.C_drewN ?_ _)|(with_reducible refine Kd.C_drew ?_)));(case side6=>exact HC0_2.out);rintro e w11 ⟨rfl,hb⟩;refine ⟨_,rfl,?_⟩;have n0_:=As0.mk (bkB (g:=gb162) (o:=.cells #[.slice A0_0 l0_0.length c0_0,.slice A0_1 l0_1.length c0_1,.slice A0_2 l0_2.length c0_2,.int .i64 a0_3] 26 (0,0)) (by (with_reducible repeat (first|refine bkN ?_ _|refine bkD ?_|refine bkA ?_ _));exact BK162.out) hb);have n1_:=As0.mk (bdT (by repeat (first|(with_reducible first|exact HB.out|apply bdA|apply bdN|apply bd1|refine bdS ?_ GE162.out)|exact HB.out)) hb);clear BK162;clear HB;have BK162:=n0_;have HB:=n1_;clear n0_ n1_;(try clear hb);(try clear hb2);(try clear hk);(try clear hi);have hcz12_0:w11.cell? ⟨gb162,0,none⟩=some (.slice A0_0 l0_0.length c0_0):=(bkC BK162.out 0).trans rfl;have hcz12_1:w11.cell? ⟨gb162,1,none⟩=some (.slice A0_1 l0_1.length c0_1):=(bkC BK162.out 1).trans rfl;have hcz12_2:w11.cell? ⟨gb162,2,none⟩=some (.slice A0_2 l0_2.length c0_2):=(bkC BK162.out 2).trans rfl;have hcz12_3:w11.cell? ⟨gb162,3,none⟩=some (.int .i64 a0_3):=(bkC BK162.out 3).trans rfl;have hfz12_0:=bkF BK162.out 0;have hfz12_1:=bkF BK162.out 1;have hfz12_2:=bkF BK162.out 2;have hfz12_3:=bkF BK162.out 3)|((with_reducible refine gate_callee (f:=50) rfl ?_);refine goesL_ (some 13) rfl rfl Try.func50 (by kernel_rfl) rfl #[.agg #[.slice A0_0 l0_0.length c0_0,.slice A0_1 l0_1.length c0_1,.slice A0_2 l0_2.length c0_2,.int .i64 a0_3]] rfl (by (try simp only [List.map_toArray,List.map_cons,List.map_nil]);first|done|rfl|(simp only [List.length_drop,List.length_take];rfl)) ?_;(with_reducible refine (sr17n.calls k _ _ l0_0 _ _ l0_1 _ _ l0_2 a0_3 t164 _ ?side1 ?side2 ?side3 ?side4 ?side5 ?side6 A7.out).mono ?_);(case side1=>repeat (first|exact (Kd.CbW HR0_0.out HB.out)|(with_reducible refine Kd.C_alloc ?_ _)|(with_reducible refine Kd.C_drewN ?_ _)|(with_reducible refine Kd.C_drew ?_)));(case side2=>exact HC0_0.out);(case side3=>repeat (first|exact (Kd.CbW HR0_1.out HB.out)|(with_reducible refine Kd.C_alloc ?_ _)|(with_reducible refine Kd.C_drewN ?_ _)|(with_reducible refine Kd.C_drew ?_)));(case side4=>exact HC0_1.out);(case side5=>repeat (first|exact (Kd.CbW HR0_2.out HB.out)|(with_reducible refine Kd.C_alloc ?_ _)|(with_reducible refine Kd.C_drewN ?_ _)|(with_reducible refine Kd.C_drew ?_)));(case side6=>exact HC0_2.out);rintro e w13 ⟨rfl,hb⟩;refine ⟨_,rfl,?_⟩;have n0_:=As0.mk (bkB (g:=gb162) (o:=.cells #[.slice A0_0 l0_0.length c0_0,.slice A0_1 l0_1.length c0_1,.slice A0_2 l0_2.length c0_2,.int .i64 a0_3] 26 (0,0)) (by (with_reducible repeat (first|refine bkN ?_ _|refine bkD ?_|refine bkA ?_ _));exact BK162.out) hb);have n1_:=As0.mk (bdT (by repeat (first|(with_reducible first|exact HB.out|apply bdA|apply bdN|apply bd1|refine bdS ?_ GE162.out)|exact HB.out)) hb);clear BK162;clear HB;have BK162:=n0_;have HB:=n1_;clear n0_ n1_;(try clear hb);(try clear hb2);(try clear hk);(try clear hi)))
   go_ret2
   exact ⟨by first|rfl|(simp [errW_none,errW_some] <;> rfl)|(simp [*,errW_none,errW_some] <;> rfl),by repeat (first|(with_reducible first|exact HB.out|apply bdA|apply bdN|apply bd1|refine bdS ?_ GE162.out)|exact HB.out)⟩
  ·rw [if_neg c8] at H
   have c8b0:decide (0≤t164)=false:=decide_eq_false c8
   clear c8
   replace H:=Option.bind_eq_some_iff.mp H
   obtain ⟨t165,A140,H⟩:=H
   replace H:(if t165≥0 then (some (t165,173)) else ((sr17h.f k l0_0 l0_1 l0_2 a0_3).bind fun t166=>(if t166≥0 then (some (t166,174)) else (if a0_3<0 then (sr17c.j0 k true l0_0 l0_1 l0_2 a0_3) else (sr17c.j0 k (decide (a0_3≥(l0_1.length:Int))) l0_0 l0_1 l0_2 a0_3)))))=some (r1,r2):=H
   have A14:=As0.mk A140
   clear A140
   by_cases c15:t165≥0
   ·rw [if_pos c15] at H
    have c15b0:decide (0≤t165)=true:=decide_eq_true c15
    clear c15
    simp only [Option.some.injEq,Prod.mk.injEq] at H
    obtain ⟨rfl,rfl⟩:=H
    go_enter Try.func20,Try.ntmps20
    go_wp2_with (first|((with_reducible refine gtD (N:=1) rfl ?_);(try (refine gate_guard (by rfl) ?_;dsimp only));refine bxE ?hg (N:=1) ?hd (cs:=#[.slice A0_0 l0_0.length c0_0,.slice A0_1 l0_1.length c0_1,.slice A0_2 l0_2.length c0_2,.int .i64 a0_3]) (t:=26) ?hr ?_;(case hd=>rfl);(case hg=>rfl);(case hr=>first|(go_simp;done)|(go_simp;rfl));intro gb162 hg w16 hbox hb;have n0_:=As0.mk (bdT (by repeat (first|(with_reducible first|exact HB.out|apply bdA|apply bdN|apply bd1)|exact HB.out)) hb);have n1_:=As0.mk (hbox);have n2_:=As0.mk ((by rw [hg];exact (bdZ (by repeat (first|(with_reducible first|exact HB.out|apply bdA|apply bdN|apply bd1)|exact HB.out))):w.heap.size≤gb162));have n3_:=As0.mk ((by rw [hg];exact (bdZ (by repeat (first|(with_reducible first|exact HB.out|apply bdA|apply bdN|apply bd1)|exact HB.out))):w.heap.size≤gb162));clear HB;have HB:=n0_;have BK162:=n1_;have GW162:=n2_;have GE162:=n3_;clear n0_ n1_ n2_ n3_;clear hb hbox hg;have hcz17_0:w16.cell? ⟨gb162,0,none⟩=some (.slice A0_0 l0_0.length c0_0):=(bkC BK162.out 0).trans rfl;have hcz17_1:w16.cell? ⟨gb162,1,none⟩=some (.slice A0_1 l0_1.length c0_1):=(bkC BK162.out 1).trans rfl;have hcz17_2:w16.cell? ⟨gb162,2,none⟩=some (.slice A0_2 l0_2.length c0_2):=(bkC BK162.out 2).trans rfl;have hcz17_3:w16.cell? ⟨gb162,3,none⟩=some (.int .i64 a0_3):=(bkC BK162.out 3).trans rfl;have hfz17_0:=bkF BK162.out 0;have hfz17_1:=bkF BK162.out 1;have hfz17_2:=bkF BK162.out 2;have hfz17_3:=bkF BK162.out 3)|((with_reducible refine gate_callee (f:=49) rfl ?_);refine goesL_ (some 8) rfl rfl Try.func49 (by kernel_rfl) rfl #[.agg #[.slice A0_0 l0_0.length c0_0,.slice A0_1 l0_1.length c0_1,.slice A0_2 l0_2.length c0_2,.int .i64 a0_3]] rfl (by (try simp only [List.map_toArray,List.map_cons,List.map_nil]);first|done|rfl|(simp only [List.length_drop,List.length_take];rfl)) ?_;(with_reducible refine (spindleref17_many.calls k _ _ l0_0 _ _ l0_1 _ _ l0_2 a0_3 t163 _ ?side1 ?side2 ?side3 ?side4 ?side5 ?side6 A2.out).mono ?_);(case side1=>repeat (first|exact (Kd.CbW HR0_0.out HB.out)|(with_reducible refine Kd.C_alloc ?_ _)|(with_reducible refine Kd.C_drewN ?_ _)|(with_reducible refine Kd.C_drew ?_)));(case side2=>exact HC0_0.out);(case side3=>repeat (first|exact (Kd.CbW HR0_1.out HB.out)|(with_reducible refine Kd.C_alloc ?_ _)|(with_reducible refine Kd.C_drewN ?_ _)|(with_reducible refine Kd.C_drew ?_)));(case side4=>exact HC0_1.out);(case side5=>repeat (first|exact (Kd.CbW HR0_2.out HB.out)|(with_reducible refine Kd.C_alloc ?_ _)|(with_reducible refine Kd.C_drewN ?_ _)|(with_reducible refine Kd.C_drew ?_)));(case side6=>exact HC0_2.out);rintro e w18 ⟨rfl,hb⟩;refine ⟨_,rfl,?_⟩;have n0_:=As0.mk (bkB (g:=gb162) (o:=.cells #[.slice A0_0 l0_0.length c0_0,.slice A0_1 l0_1.length c0_1,.slice A0_2 l0_2.length c0_2,.int .i64 a0_3] 26 (0,0)) (by (with_reducible repeat (first|refine bkN ?_ _|refine bkD ?_|refine bkA ?_ _));exact BK162.out) hb);have n1_:=As0.mk (bdT (by repeat (first|(with_reducible first|exact HB.out|apply bdA|apply bdN|apply bd1|refine bdS ?_ GE162.out)|exact HB.out)) hb);clear BK162;clear HB;have BK162:=n0_;have HB:=n1_;clear n0_ n1_;(try clear hb);(try clear hb2);(try clear hk);(try clear hi);have hcz19_0:w18.cell? ⟨gb162,0,none⟩=some (.slice A0_0 l0_0.length c0_0):=(bkC BK162.out 0).trans rfl;have hcz19_1:w18.cell? ⟨gb162,1,none⟩=some (.slice A0_1 l0_1.length c0_1):=(bkC BK162.out 1).trans rfl;have hcz19_2:w18.cell? ⟨gb162,2,none⟩=some (.slice A0_2 l0_2.length c0_2):=(bkC BK162.out 2).trans rfl;have hcz19_3:w18.cell? ⟨gb162,3,none⟩=some (.int .i64 a0_3):=(bkC BK162.out 3).trans rfl;have hfz19_0:=bkF BK162.out 0;have hfz19_1:=bkF BK162.out 1;have hfz19_2:=bkF BK162.out 2;have hfz19_3:=bkF BK162.out 3)|((with_reducible refine gate_callee (f:=50) rfl ?_);refine goesL_ (some 13) rfl rfl Try.func50 (by kernel_rfl) rfl #[.agg #[.slice A0_0 l0_0.length c0_0,.slice A0_1 l0_1.length c0_1,.slice A0_2 l0_2.length c0_2,.int .i64 a0_3]] rfl (by (try simp only [List.map_toArray,List.map_cons,List.map_nil]);first|done|rfl|(simp only [List.length_drop,List.length_take];rfl)) ?_;(with_reducible refine (sr17n.calls k _ _ l0_0 _ _ l0_1 _ _ l0_2 a0_3 t164 _ ?side1 ?side2 ?side3 ?side4 ?side5 ?side6 A7.out).mono ?_);(case side1=>repeat (first|exact (Kd.CbW HR0_0.out HB.out)|(with_reducible refine Kd.C_alloc ?_ _)|(with_reducible refine Kd.C_drewN ?_ _)|(with_reducible refine Kd.C_drew ?_)));(case side2=>exact HC0_0.out);(case side3=>repeat (first|exact (Kd.CbW HR0_1.out HB.out)|(with_reducible refine Kd.C_alloc ?_ _)|(with_reducible refine Kd.C_drewN ?_ _)|(with_reducible refine Kd.C_drew ?_)));(case side4=>exact HC0_1.out);(case side5=>repeat (first|exact (Kd.CbW HR0_2.out HB.out)|(with_reducible refine Kd.C_alloc ?_ _)|(with_reducible refine Kd.C_drewN ?_ _)|(with_reducible refine Kd.C_drew ?_)));(case side6=>exact HC0_2.out);rintro e w20 ⟨rfl,hb⟩;refine ⟨_,rfl,?_⟩;have n0_:=As0.mk (bkB (g:=gb162) (o:=.cells #[.slice A0_0 l0_0.length c0_0,.slice A0_1 l0_1.length c0_1,.slice A0_2 l0_2.length c0_2,.int .i64 a0_3] 26 (0,0)) (by (with_reducible repeat (first|refine bkN ?_ _|refine bkD ?_|refine bkA ?_ _));exact BK162.out) hb);have n1_:=As0.mk (bdT (by repeat (first|(with_reducible first|exact HB.out|apply bdA|apply bdN|apply bd1|refine bdS ?_ GE162.out)|exact HB.out)) hb);clear BK162;clear HB;have BK162:=n0_;have HB:=n1_;clear n0_ n1_;(try clear hb);(try clear hb2);(try clear hk);(try clear hi);have hcz21_0:w20.cell? ⟨gb162,0,none⟩=some (.slice A0_0 l0_0.length c0_0):=(bkC BK162.out 0).trans rfl;have hcz21_1:w20.cell? ⟨gb162,1,none⟩=some (.slice A0_1 l0_1.length c0_1):=(bkC BK162.out 1).trans rfl;have hcz21_2:w20.cell? ⟨gb162,2,none⟩=some (.slice A0_2 l0_2.length c0_2):=(bkC BK162.out 2).trans rfl;have hcz21_3:w20.cell? ⟨gb162,3,none⟩=some (.int .i64 a0_3):=(bkC BK162.out 3).trans rfl;have hfz21_0:=bkF BK162.out 0;have hfz21_1:=bkF BK162.out 1;have hfz21_2:=bkF BK162.out 2;have hfz21_3:=bkF BK162.out 3)|((with_reducible refine gate_callee (f:=51) rfl ?_);refine goesL_ (some 18) rfl rfl Try.func51 (by kernel_rfl) rfl #[.agg #[.slice A0_0 l0_0.length c0_0,.slice A0_1 l0_1.length c0_1,.slice A0_2 l0_2.length c0_2,.int .i64 a0_3]] rfl (by (try simp only [List.map_toArray,List.map_cons,List.map_nil]);first|done|rfl|(simp only [List.length_drop,List.length_take];rfl)) ?_;(with_reducible refine (sr17u.calls k _ _ l0_0 _ _ l0_1 _ _ l0_2 a0_3 t165 _ ?side1 ?side2 ?side3 ?side4 ?side5 ?side6 A14.out).mono ?_);(case side1=>repeat (first|exact (Kd.CbW HR0_0.out HB.out)|(with_reducible refine Kd.C_alloc ?_ _)|(with_reducible refine Kd.C_drewN ?_ _)|(with_reducible refine Kd.C_drew ?_)));(case side2=>exact HC0_0.out);(case side3=>repeat (first|exact (Kd.CbW HR0_1.out HB.out)|(with_reducible refine Kd.C_alloc ?_ _)|(with_reducible refine Kd.C_drewN ?_ _)|(with_reducible refine Kd.C_drew ?_)));(case side4=>exact HC0_1.out);(case side5=>repeat (first|exact (Kd.CbW HR0_2.out HB.out)|(with_reducible refine Kd.C_alloc ?_ _)|(with_reducible refine Kd.C_drewN ?_ _)|(with_reducible refine Kd.C_drew ?_)));(case side6=>exact HC0_2.out);rintro e w22 ⟨rfl,hb⟩;refine ⟨_,rfl,?_⟩;have n0_:=As0.mk (bkB (g:=gb162) (o:=.cells #[.slice A0_0 l0_0.length c0_0,.slice A0_1 l0_1.length c0_1,.slice A0_2 l0_2.length c0_2,.int .i64 a0_3] 26 (0,0)) (by (with_reducible repeat (first|refine bkN ?_ _|refine bkD ?_|refine bkA ?_ _));exact BK162.out) hb);have n1_:=As0.mk (bdT (by repeat (first|(with_reducible first|exact HB.out|apply bdA|apply bdN|apply bd1|refine bdS ?_ GE162.out)|exact HB.out)) hb);clear BK162;clear HB;have BK162:=n0_;have HB:=n1_;clear n0_ n1_;(try clear hb);(try clear hb2);(try clear hk);(try clear hi)))
    go_ret2
    exact ⟨by first|rfl|(simp [errW_none,errW_some] <;> rfl)|(simp [*,errW_none,errW_some] <;> rfl),by repeat (first|(with_reducible first|exact HB.out|apply bdA|apply bdN|apply bd1|refine bdS ?_ GE162.out)|exact HB.out)⟩
   ·rw [if_neg c15] at H
    have c15b0:decide (0≤t165)=false:=decide_eq_false c15
    clear c15
    replace H:=Option.bind_eq_some_iff.mp H
    obtain ⟨t166,A230,H⟩:=H
    replace H:(if t166≥0 then (some (t166,174)) else (if a0_3<0 then (sr17c.j0 k true l0_0 l0_1 l0_2 a0_3) else (sr17c.j0 k (decide (a0_3≥(l0_1.length:Int))) l0_0 l0_1 l0_2 a0_3)))=some (r1,r2):=H
    have A23:=As0.mk A230
    clear A230
    by_cases c24:t166≥0
    ·rw [if_pos c24] at H
     have c24b0:decide (0≤t166)=true:=decide_eq_true c24
     clear c24
     simp only [Option.some.injEq,Prod.mk.injEq] at H
     obtain ⟨rfl,rfl⟩:=H
     go_enter Try.func20,Try.ntmps20
     go_wp2_with (first|((with_reducible refine gtD (N:=1) rfl ?_);(try (refine gate_guard (by rfl) ?_;dsimp only));refine bxE ?hg (N:=1) ?hd (cs:=#[.slice A0_0 l0_0.length c0_0,.slice A0_1 l0_1.length c0_1,.slice A0_2 l0_2.length c0_2,.int .i64 a0_3]) (t:=26) ?hr ?_;(case hd=>rfl);(case hg=>rfl);(case hr=>first|(go_simp;done)|(go_simp;rfl));intro gb162 hg w25 hbox hb;have n0_:=As0.mk (bdT (by repeat (first|(with_reducible first|exact HB.out|apply bdA|apply bdN|apply bd1)|exact HB.out)) hb);have n1_:=As0.mk (hbox);have n2_:=As0.mk ((by rw [hg];exact (bdZ (by repeat (first|(with_reducible first|exact HB.out|apply bdA|apply bdN|apply bd1)|exact HB.out))):w.heap.size≤gb162));have n3_:=As0.mk ((by rw [hg];exact (bdZ (by repeat (first|(with_reducible first|exact HB.out|apply bdA|apply bdN|apply bd1)|exact HB.out))):w.heap.size≤gb162));clear HB;have HB:=n0_;have BK162:=n1_;have GW162:=n2_;have GE162:=n3_;clear n0_ n1_ n2_ n3_;clear hb hbox hg;have hcz26_0:w25.cell? ⟨gb162,0,none⟩=some (.slice A0_0 l0_0.length c0_0):=(bkC BK162.out 0).trans rfl;have hcz26_1:w25.cell? ⟨gb162,1,none⟩=some (.slice A0_1 l0_1.length c0_1):=(bkC BK162.out 1).trans rfl;have hcz26_2:w25.cell? ⟨gb162,2,none⟩=some (.slice A0_2 l0_2.length c0_2):=(bkC BK162.out 2).trans rfl;have hcz26_3:w25.cell? ⟨gb162,3,none⟩=some (.int .i64 a0_3):=(bkC BK162.out 3).trans rfl;have hfz26_0:=bkF BK162.out 0;have hfz26_1:=bkF BK162.out 1;have hfz26_2:=bkF BK162.out 2;have hfz26_3:=bkF BK162.out 3)|((with_reducible refine gate_callee (f:=49) rfl ?_);refine goesL_ (some 8) rfl rfl Try.func49 (by kernel_rfl) rfl #[.agg #[.slice A0_0 l0_0.length c0_0,.slice A0_1 l0_1.length c0_1,.slice A0_2 l0_2.length c0_2,.int .i64 a0_3]] rfl (by (try simp only [List.map_toArray,List.map_cons,List.map_nil]);first|done|rfl|(simp only [List.length_drop,List.length_take];rfl)) ?_;(with_reducible refine (spindleref17_many.calls k _ _ l0_0 _ _ l0_1 _ _ l0_2 a0_3 t163 _ ?side1 ?side2 ?side3 ?side4 ?side5 ?side6 A2.out).mono ?_);(case side1=>repeat (first|exact (Kd.CbW HR0_0.out HB.out)|(with_reducible refine Kd.C_alloc ?_ _)|(with_reducible refine Kd.C_drewN ?_ _)|(with_reducible refine Kd.C_drew ?_)));(case side2=>exact HC0_0.out);(case side3=>repeat (first|exact (Kd.CbW HR0_1.out HB.out)|(with_reducible refine Kd.C_alloc ?_ _)|(with_reducible refine Kd.C_drewN ?_ _)|(with_reducible refine Kd.C_drew ?_)));(case side4=>exact HC0_1.out);(case side5=>repeat (first|exact (Kd.CbW HR0_2.out HB.out)|(with_reducible refine Kd.C_alloc ?_ _)|(with_reducible refine Kd.C_drewN ?_ _)|(with_reducible refine Kd.C_drew ?_)));(case side6=>exact HC0_2.out);rintro e w27 ⟨rfl,hb⟩;refine ⟨_,rfl,?_⟩;have n0_:=As0.mk (bkB (g:=gb162) (o:=.cells #[.slice A0_0 l0_0.length c0_0,.slice A0_1 l0_1.length c0_1,.slice A0_2 l0_2.length c0_2,.int .i64 a0_3] 26 (0,0)) (by (with_reducible repeat (first|refine bkN ?_ _|refine bkD ?_|refine bkA ?_ _));exact BK162.out) hb);have n1_:=As0.mk (bdT (by repeat (first|(with_reducible first|exact HB.out|apply bdA|apply bdN|apply bd1|refine bdS ?_ GE162.out)|exact HB.out)) hb);clear BK162;clear HB;have BK162:=n0_;have HB:=n1_;clear n0_ n1_;(try clear hb);(try clear hb2);(try clear hk);(try clear hi);have hcz28_0:w27.cell? ⟨gb162,0,none⟩=some (.slice A0_0 l0_0.length c0_0):=(bkC BK162.out 0).trans rfl;have hcz28_1:w27.cell? ⟨gb162,1,none⟩=some (.slice A0_1 l0_1.length c0_1):=(bkC BK162.out 1).trans rfl;have hcz28_2:w27.cell? ⟨gb162,2,none⟩=some (.slice A0_2 l0_2.length c0_2):=(bkC BK162.out 2).trans rfl;have hcz28_3:w27.cell? ⟨gb162,3,none⟩=some (.int .i64 a0_3):=(bkC BK162.out 3).trans rfl;have hfz28_0:=bkF BK162.out 0;have hfz28_1:=bkF BK162.out 1;have hfz28_2:=bkF BK162.out 2;have hfz28_3:=bkF BK162.out 3)|((with_reducible refine gate_callee (f:=50) rfl ?_);refine goesL_ (some 13) rfl rfl Try.func50 (by kernel_rfl) rfl #[.agg #[.slice A0_0 l0_0.length c0_0,.slice A0_1 l0_1.length c0_1,.slice A0_2 l0_2.length c0_2,.int .i64 a0_3]] rfl (by (try simp only [List.map_toArray,List.map_cons,List.map_nil]);first|done|rfl|(simp only [List.length_drop,List.length_take];rfl)) ?_;(with_reducible refine (sr17n.calls k _ _ l0_0 _ _ l0_1 _ _ l0_2 a0_3 t164 _ ?side1 ?side2 ?side3 ?side4 ?side5 ?side6 A7.out).mono ?_);(case side1=>repeat (first|exact (Kd.CbW HR0_0.out HB.out)|(with_reducible refine Kd.C_alloc ?_ _)|(with_reducible refine Kd.C_drewN ?_ _)|(with_reducible refine Kd.C_drew ?_)));(case side2=>exact HC0_0.out);(case side3=>repeat (first|exact (Kd.CbW HR0_1.out HB.out)|(with_reducible refine Kd.C_alloc ?_ _)|(with_reducible refine Kd.C_drewN ?_ _)|(with_reducible refine Kd.C_drew ?_)));(case side4=>exact HC0_1.out);(case side5=>repeat (first|exact (Kd.CbW HR0_2.out HB.out)|(with_reducible refine Kd.C_alloc ?_ _)|(with_reducible refine Kd.C_drewN ?_ _)|(with_reducible refine Kd.C_drew ?_)));(case side6=>exact HC0_2.out);rintro e w29 ⟨rfl,hb⟩;refine ⟨_,rfl,?_⟩;have n0_:=As0.mk (bkB (g:=gb162) (o:=.cells #[.slice A0_0 l0_0.length c0_0,.slice A0_1 l0_1.length c0_1,.slice A0_2 l0_2.length c0_2,.int .i64 a0_3] 26 (0,0)) (by (with_reducible repeat (first|refine bkN ?_ _|refine bkD ?_|refine bkA ?_ _));exact BK162.out) hb);have n1_:=As0.mk (bdT (by repeat (first|(with_reducible first|exact HB.out|apply bdA|apply bdN|apply bd1|refine bdS ?_ GE162.out)|exact HB.out)) hb);clear BK162;clear HB;have BK162:=n0_;have HB:=n1_;clear n0_ n1_;(try clear hb);(try clear hb2);(try clear hk);(try clear hi);have hcz30_0:w29.cell? ⟨gb162,0,none⟩=some (.slice A0_0 l0_0.length c0_0):=(bkC BK162.out 0).trans rfl;have hcz30_1:w29.cell? ⟨gb162,1,none⟩=some (.slice A0_1 l0_1.length c0_1):=(bkC BK162.out 1).trans rfl;have hcz30_2:w29.cell? ⟨gb162,2,none⟩=some (.slice A0_2 l0_2.length c0_2):=(bkC BK162.out 2).trans rfl;have hcz30_3:w29.cell? ⟨gb162,3,none⟩=some (.int .i64 a0_3):=(bkC BK162.out 3).trans rfl;have hfz30_0:=bkF BK162.out 0;have hfz30_1:=bkF BK162.out 1;have hfz30_2:=bkF BK162.out 2;have hfz30_3:=bkF BK162.out 3)|((with_reducible refine gate_callee (f:=51) rfl ?_);refine goesL_ (some 18) rfl rfl Try.func51 (by kernel_rfl) rfl #[.agg #[.slice A0_0 l0_0.length c0_0,.slice A0_1 l0_1.length c0_1,.slice A0_2 l0_2.length c0_2,.int .i64 a0_3]] rfl (by (try simp only [List.map_toArray,List.map_cons,List.map_nil]);first|done|rfl|(simp only [List.length_drop,List.length_take];rfl)) ?_;(with_reducible refine (sr17u.calls k _ _ l0_0 _ _ l0_1 _ _ l0_2 a0_3 t165 _ ?side1 ?side2 ?side3 ?side4 ?side5 ?side6 A14.out).mono ?_);(case side1=>repeat (first|exact (Kd.CbW HR0_0.out HB.out)|(with_reducible refine Kd.C_alloc ?_ _)|(with_reducible refine Kd.C_drewN ?_ _)|(with_reducible refine Kd.C_drew ?_)));(case side2=>exact HC0_0.out);(case side3=>repeat (first|exact (Kd.CbW HR0_1.out HB.out)|(with_reducible refine Kd.C_alloc ?_ _)|(with_reducible refine Kd.C_drewN ?_ _)|(with_reducible refine Kd.C_drew ?_)));(case side4=>exact HC0_1.out);(case side5=>repeat (first|exact (Kd.CbW HR0_2.out HB.out)|(with_reducible refine Kd.C_alloc ?_ _)|(with_reducible refine Kd.C_drewN ?_ _)|(with_reducible refine Kd.C_drew ?_)));(case side6=>exact HC0_2.out);rintro e w31 ⟨rfl,hb⟩;refine ⟨_,rfl,?_⟩;have n0_:=As0.mk (bkB (g:=gb162) (o:=.cells #[.slice A0_0 l0_0.length c0_0,.slice A0_1 l0_1.length c0_1,.slice A0_2 l0_2.length c0_2,.int .i64 a0_3] 26 (0,0)) (by (with_reducible repeat (first|refine bkN ?_ _|refine bkD ?_|refine bkA ?_ _));exact BK162.out) hb);have n1_:=As0.mk (bdT (by repeat (first|(with_reducible first|exact HB.out|apply bdA|apply bdN|apply bd1|refine bdS ?_ GE162.out)|exact HB.out)) hb);clear BK162;clear HB;have BK162:=n0_;have HB:=n1_;clear n0_ n1_;(try clear hb);(try clear hb2);(try clear hk);(try clear hi);have hcz32_0:w31.cell? ⟨gb162,0,none⟩=some (.slice A0_0 l0_0.length c0_0):=(bkC BK162.out 0).trans rfl;have hcz32_1:w31.cell? ⟨gb162,1,none⟩=some (.slice A0_1 l0_1.length c0_1):=(bkC BK162.out 1).trans rfl;have hcz32_2:w31.cell? ⟨gb162,2,none⟩=some (.slice A0_2 l0_2.length c0_2):=(bkC BK162.out 2).trans rfl;have hcz32_3:w31.cell? ⟨gb162,3,none⟩=some (.int .i64 a0_3):=(bkC BK162.out 3).trans rfl;have hfz32_0:=bkF BK162.out 0;have hfz32_1:=bkF BK162.out 1;have hfz32_2:=bkF BK162.out 2;have hfz32_3:=bkF BK162.out 3)|((with_reducible refine gate_callee (f:=52) rfl ?_);refine goesL_ (some 23) rfl rfl Try.func52 (by kernel_rfl) rfl #[.agg #[.slice A0_0 l0_0.length c0_0,.slice A0_1 l0_1.length c0_1,.slice A0_2 l0_2.length c0_2,.int .i64 a0_3]] rfl (by (try simp only [List.map_toArray,List.map_cons,List.map_nil]);first|done|rfl|(simp only [List.length_drop,List.length_take];rfl)) ?_;(with_reducible refine (sr17h.calls k _ _ l0_0 _ _ l0_1 _ _ l0_2 a0_3 t166 _ ?side1 ?side2 ?side3 ?side4 ?side5 ?side6 A23.out).mono ?_);(case side1=>repeat (first|exact (Kd.CbW HR0_0.out HB.out)|(with_reducible refine Kd.C_alloc ?_ _)|(with_reducible refine Kd.C_drewN ?_ _)|(with_reducible refine Kd.C_drew ?_)));(case side2=>exact HC0_0.out);(case side3=>repeat (first|exact (Kd.CbW HR0_1.out HB.out)|(with_reducible refine Kd.C_alloc ?_ _)|(with_reducible refine Kd.C_drewN ?_ _)|(with_reducible refine Kd.C_drew ?_)));(case side4=>exact HC0_1.out);(case side5=>repeat (first|exact (Kd.CbW HR0_2.out HB.out)|(with_reducible refine Kd.C_alloc ?_ _)|(with_reducible refine Kd.C_drewN ?_ _)|(with_reducible refine Kd.C_drew ?_)));(case side6=>exact HC0_2.out);rintro e w33 ⟨rfl,hb⟩;refine ⟨_,rfl,?_⟩;have n0_:=As0.mk (bkB (g:=gb162) (o:=.cells #[.slice A0_0 l0_0.length c0_0,.slice A0_1 l0_1.length c0_1,.slice A0_2 l0_2.length c0_2,.int .i64 a0_3] 26 (0,0)) (by (with_reducible repeat (first|refine bkN ?_ _|refine bkD ?_|refine bkA ?_ _));exact BK162.out) hb);have n1_:=As0.mk (bdT (by repeat (first|(with_reducible first|exact HB.out|apply bdA|apply bdN|apply bd1|refine bdS ?_ GE162.out)|exact HB.out)) hb);clear BK162;clear HB;have BK162:=n0_;have HB:=n1_;clear n0_ n1_;(try clear hb);(try clear hb2);(try clear hk);(try clear hi)))
     go_ret2
     exact ⟨by first|rfl|(simp [errW_none,errW_some] <;> rfl)|(simp [*,errW_none,errW_some] <;> rfl),by repeat (first|(with_reducible first|exact HB.out|apply bdA|apply bdN|apply bd1|refine bdS ?_ GE162.out)|exact HB.out)⟩
    ·rw [if_neg c24] at H
     have c24b0:decide (0≤t166)=false:=decide_eq_false c24
     clear c24
     have HC34:=As0.mk H
     clear H
     go_enter Try.func20,Try.ntmps20
     go_upto_region 13 with (first|((with_reducible refine gtD (N:=1) rfl ?_);(try (refine gate_guard (by rfl) ?_;dsimp only));refine bxE ?hg (N:=1) ?hd (cs:=#[.slice A0_0 l0_0.length c0_0,.slice A0_1 l0_1.length c0_1,.slice A0_2 l0_2.length c0_2,.int .i64 a0_3]) (t:=26) ?hr ?_;(case hd=>rfl);(case hg=>rfl);(case hr=>first|(go_simp;done)|(go_simp;rfl));intro gb162 hg w35 hbox hb;have n0_:=As0.mk (bdT (by repeat (first|(with_reducible first|exact HB.out|apply bdA|apply bdN|apply bd1)|exact HB.out)) hb);have n1_:=As0.mk (hbox);have n2_:=As0.mk ((by rw [hg];exact (bdZ (by repeat (first|(with_reducible first|exact HB.out|apply bdA|apply bdN|apply bd1)|exact HB.out))):w.heap.size≤gb162));have n3_:=As0.mk ((by rw [hg];exact (bdZ (by repeat (first|(with_reducible first|exact HB.out|apply bdA|apply bdN|apply bd1)|exact HB.out))):w.heap.size≤gb162));clear HB;have HB:=n0_;have BK162:=n1_;have GW162:=n2_;have GE162:=n3_;clear n0_ n1_ n2_ n3_;clear hb hbox hg;have hcz36_0:w35.cell? ⟨gb162,0,none⟩=some (.slice A0_0 l0_0.length c0_0):=(bkC BK162.out 0).trans rfl;have hcz36_1:w35.cell? ⟨gb162,1,none⟩=some (.slice A0_1 l0_1.length c0_1):=(bkC BK162.out 1).trans rfl;have hcz36_2:w35.cell? ⟨gb162,2,none⟩=some (.slice A0_2 l0_2.length c0_2):=(bkC BK162.out 2).trans rfl;have hcz36_3:w35.cell? ⟨gb162,3,none⟩=some (.int .i64 a0_3):=(bkC BK162.out 3).trans rfl;have hfz36_0:=bkF BK162.out 0;have hfz36_1:=bkF BK162.out 1;have hfz36_2:=bkF BK162.out 2;have hfz36_3:=bkF BK162.out 3)|((with_reducible refine gate_callee (f:=49) rfl ?_);refine goesL_ (some 8) rfl rfl Try.func49 (by kernel_rfl) rfl #[.agg #[.slice A0_0 l0_0.length c0_0,.slice A0_1 l0_1.length c0_1,.slice A0_2 l0_2.length c0_2,.int .i64 a0_3]] rfl (by (try simp only [List.map_toArray,List.map_cons,List.map_nil]);first|done|rfl|(simp only [List.length_drop,List.length_take];rfl)) ?_;(with_reducible refine (spindleref17_many.calls k _ _ l0_0 _ _ l0_1 _ _ l0_2 a0_3 t163 _ ?side1 ?side2 ?side3 ?side4 ?side5 ?side6 A2.out).mono ?_);(case side1=>repeat (first|exact (Kd.CbW HR0_0.out HB.out)|(with_reducible refine Kd.C_alloc ?_ _)|(with_reducible refine Kd.C_drewN ?_ _)|(with_reducible refine Kd.C_drew ?_)));(case side2=>exact HC0_0.out);(case side3=>repeat (first|exact (Kd.CbW HR0_1.out HB.out)|(with_reducible refine Kd.C_alloc ?_ _)|(with_reducible refine Kd.C_drewN ?_ _)|(with_reducible refine Kd.C_drew ?_)));(case side4=>exact HC0_1.out);(case side5=>repeat (first|exact (Kd.CbW HR0_2.out HB.out)|(with_reducible refine Kd.C_alloc ?_ _)|(with_reducible refine Kd.C_drewN ?_ _)|(with_reducible refine Kd.C_drew ?_)));(case side6=>exact HC0_2.out);rintro e w37 ⟨rfl,hb⟩;refine ⟨_,rfl,?_⟩;have n0_:=As0.mk (bkB (g:=gb162) (o:=.cells #[.slice A0_0 l0_0.length c0_0,.slice A0_1 l0_1.length c0_1,.slice A0_2 l0_2.length c0_2,.int .i64 a0_3] 26 (0,0)) (by (with_reducible repeat (first|refine bkN ?_ _|refine bkD ?_|refine bkA ?_ _));exact BK162.out) hb);have n1_:=As0.mk (bdT (by repeat (first|(with_reducible first|exact HB.out|apply bdA|apply bdN|apply bd1|refine bdS ?_ GE162.out)|exact HB.out)) hb);clear BK162;clear HB;have BK162:=n0_;have HB:=n1_;clear n0_ n1_;(try clear hb);(try clear hb2);(try clear hk);(try clear hi);have hcz38_0:w37.cell? ⟨gb162,0,none⟩=some (.slice A0_0 l0_0.length c0_0):=(bkC BK162.out 0).trans rfl;have hcz38_1:w37.cell? ⟨gb162,1,none⟩=some (.slice A0_1 l0_1.length c0_1):=(bkC BK162.out 1).trans rfl;have hcz38_2:w37.cell? ⟨gb162,2,none⟩=some (.slice A0_2 l0_2.length c0_2):=(bkC BK162.out 2).trans rfl;have hcz38_3:w37.cell? ⟨gb162,3,none⟩=some (.int .i64 a0_3):=(bkC BK162.out 3).trans rfl;have hfz38_0:=bkF BK162.out 0;have hfz38_1:=bkF BK162.out 1;have hfz38_2:=bkF BK162.out 2;have hfz38_3:=bkF BK162.out 3)|((with_reducible refine gate_callee (f:=50) rfl ?_);refine goesL_ (some 13) rfl rfl Try.func50 (by kernel_rfl) rfl #[.agg #[.slice A0_0 l0_0.length c0_0,.slice A0_1 l0_1.length c0_1,.slice A0_2 l0_2.length c0_2,.int .i64 a0_3]] rfl (by (try simp only [List.map_toArray,List.map_cons,List.map_nil]);first|done|rfl|(simp only [List.length_drop,List.length_take];rfl)) ?_;(with_reducible refine (sr17n.calls k _ _ l0_0 _ _ l0_1 _ _ l0_2 a0_3 t164 _ ?side1 ?side2 ?side3 ?side4 ?side5 ?side6 A7.out).mono ?_);(case side1=>repeat (first|exact (Kd.CbW HR0_0.out HB.out)|(with_reducible refine Kd.C_alloc ?_ _)|(with_reducible refine Kd.C_drewN ?_ _)|(with_reducible refine Kd.C_drew ?_)));(case side2=>exact HC0_0.out);(case side3=>repeat (first|exact (Kd.CbW HR0_1.out HB.out)|(with_reducible refine Kd.C_alloc ?_ _)|(with_reducible refine Kd.C_drewN ?_ _)|(with_reducible refine Kd.C_drew ?_)));(case side4=>exact HC0_1.out);(case side5=>repeat (first|exact (Kd.CbW HR0_2.out HB.out)|(with_reducible refine Kd.C_alloc ?_ _)|(with_reducible refine Kd.C_drewN ?_ _)|(with_reducible refine Kd.C_drew ?_)));(case side6=>exact HC0_2.out);rintro e w39 ⟨rfl,hb⟩;refine ⟨_,rfl,?_⟩;have n0_:=As0.mk (bkB (g:=gb162) (o:=.cells #[.slice A0_0 l0_0.length c0_0,.slice A0_1 l0_1.length c0_1,.slice A0_2 l0_2.length c0_2,.int .i64 a0_3] 26 (0,0)) (by (with_reducible repeat (first|refine bkN ?_ _|refine bkD ?_|refine bkA ?_ _));exact BK162.out) hb);have n1_:=As0.mk (bdT (by repeat (first|(with_reducible first|exact HB.out|apply bdA|apply bdN|apply bd1|refine bdS ?_ GE162.out)|exact HB.out)) hb);clear BK162;clear HB;have BK162:=n0_;have HB:=n1_;clear n0_ n1_;(try clear hb);(try clear hb2);(try clear hk);(try clear hi);have hcz40_0:w39.cell? ⟨gb162,0,none⟩=some (.slice A0_0 l0_0.length c0_0):=(bkC BK162.out 0).trans rfl;have hcz40_1:w39.cell? ⟨gb162,1,none⟩=some (.slice A0_1 l0_1.length c0_1):=(bkC BK162.out 1).trans rfl;have hcz40_2:w39.cell? ⟨gb162,2,none⟩=some (.slice A0_2 l0_2.length c0_2):=(bkC BK162.out 2).trans rfl;have hcz40_3:w39.cell? ⟨gb162,3,none⟩=some (.int .i64 a0_3):=(bkC BK162.out 3).trans rfl;have hfz40_0:=bkF BK162.out 0;have hfz40_1:=bkF BK162.out 1;have hfz40_2:=bkF BK162.out 2;have hfz40_3:=bkF BK162.out 3)|((with_reducible refine gate_callee (f:=51) rfl ?_);refine goesL_ (some 18) rfl rfl Try.func51 (by kernel_rfl) rfl #[.agg #[.slice A0_0 l0_0.length c0_0,.slice A0_1 l0_1.length c0_1,.slice A0_2 l0_2.length c0_2,.int .i64 a0_3]] rfl (by (try simp only [List.map_toArray,List.map_cons,List.map_nil]);first|done|rfl|(simp only [List.length_drop,List.length_take];rfl)) ?_;(with_reducible refine (sr17u.calls k _ _ l0_0 _ _ l0_1 _ _ l0_2 a0_3 t165 _ ?side1 ?side2 ?side3 ?side4 ?side5 ?side6 A14.out).mono ?_);(case side1=>repeat (first|exact (Kd.CbW HR0_0.out HB.out)|(with_reducible refine Kd.C_alloc ?_ _)|(with_reducible refine Kd.C_drewN ?_ _)|(with_reducible refine Kd.C_drew ?_)));(case side2=>exact HC0_0.out);(case side3=>repeat (first|exact (Kd.CbW HR0_1.out HB.out)|(with_reducible refine Kd.C_alloc ?_ _)|(with_reducible refine Kd.C_drewN ?_ _)|(with_reducible refine Kd.C_drew ?_)));(case side4=>exact HC0_1.out);(case side5=>repeat (first|exact (Kd.CbW HR0_2.out HB.out)|(with_reducible refine Kd.C_alloc ?_ _)|(with_reducible refine Kd.C_drewN ?_ _)|(with_reducible refine Kd.C_drew ?_)));(case side6=>exact HC0_2.out);rintro e w41 ⟨rfl,hb⟩;refine ⟨_,rfl,?_⟩;have n0_:=As0.mk (bkB (g:=gb162) (o:=.cells #[.slice A0_0 l0_0.length c0_0,.slice A0_1 l0_1.length c0_1,.slice A0_2 l0_2.length c0_2,.int .i64 a0_3] 26 (0,0)) (by (with_reducible repeat (first|refine bkN ?_ _|refine bkD ?_|refine bkA ?_ _));exact BK162.out) hb);have n1_:=As0.mk (bdT (by repeat (first|(with_reducible first|exact HB.out|apply bdA|apply bdN|apply bd1|refine bdS ?_ GE162.out)|exact HB.out)) hb);clear BK162;clear HB;have BK162:=n0_;have HB:=n1_;clear n0_ n1_;(try clear hb);(try clear hb2);(try clear hk);(try clear hi);have hcz42_0:w41.cell? ⟨gb162,0,none⟩=some (.slice A0_0 l0_0.length c0_0):=(bkC BK162.out 0).trans rfl;have hcz42_1:w41.cell? ⟨gb162,1,none⟩=some (.slice A0_1 l0_1.length c0_1):=(bkC BK162.out 1).trans rfl;have hcz42_2:w41.cell? ⟨gb162,2,none⟩=some (.slice A0_2 l0_2.length c0_2):=(bkC BK162.out 2).trans rfl;have hcz42_3:w41.cell? ⟨gb162,3,none⟩=some (.int .i64 a0_3):=(bkC BK162.out 3).trans rfl;have hfz42_0:=bkF BK162.out 0;have hfz42_1:=bkF BK162.out 1;have hfz42_2:=bkF BK162.out 2;have hfz42_3:=bkF BK162.out 3)|((with_reducible refine gate_callee (f:=52) rfl ?_);refine goesL_ (some 23) rfl rfl Try.func52 (by kernel_rfl) rfl #[.agg #[.slice A0_0 l0_0.length c0_0,.slice A0_1 l0_1.length c0_1,.slice A0_2 l0_2.length c0_2,.int .i64 a0_3]] rfl (by (try simp only [List.map_toArray,List.map_cons,List.map_nil]);first|done|rfl|(simp only [List.length_drop,List.length_take];rfl)) ?_;(with_reducible refine (sr17h.calls k _ _ l0_0 _ _ l0_1 _ _ l0_2 a0_3 t166 _ ?side1 ?side2 ?side3 ?side4 ?side5 ?side6 A23.out).mono ?_);(case side1=>repeat (first|exact (Kd.CbW HR0_0.out HB.out)|(with_reducible refine Kd.C_alloc ?_ _)|(with_reducible refine Kd.C_drewN ?_ _)|(with_reducible refine Kd.C_drew ?_)));(case side2=>exact HC0_0.out);(case side3=>repeat (first|exact (Kd.CbW HR0_1.out HB.out)|(with_reducible refine Kd.C_alloc ?_ _)|(with_reducible refine Kd.C_drewN ?_ _)|(with_reducible refine Kd.C_drew ?_)));(case side4=>exact HC0_1.out);(case side5=>repeat (first|exact (Kd.CbW HR0_2.out HB.out)|(with_reducible refine Kd.C_alloc ?_ _)|(with_reducible refine Kd.C_drewN ?_ _)|(with_reducible refine Kd.C_drew ?_)));(case side6=>exact HC0_2.out);rintro e w43 ⟨rfl,hb⟩;refine ⟨_,rfl,?_⟩;have n0_:=As0.mk (bkB (g:=gb162) (o:=.cells #[.slice A0_0 l0_0.length c0_0,.slice A0_1 l0_1.length c0_1,.slice A0_2 l0_2.length c0_2,.int .i64 a0_3] 26 (0,0)) (by (with_reducible repeat (first|refine bkN ?_ _|refine bkD ?_|refine bkA ?_ _));exact BK162.out) hb);have n1_:=As0.mk (bdT (by repeat (first|(with_reducible first|exact HB.out|apply bdA|apply bdN|apply bd1|refine bdS ?_ GE162.out)|exact HB.out)) hb);clear BK162;clear HB;have BK162:=n0_;have HB:=n1_;clear n0_ n1_;(try clear hb);(try clear hb2);(try clear hk);(try clear hi)))
     (try simp only [Act.put,List.setIfInBounds_toArray,List.set_cons_zero,List.set_cons_succ])
     go_cut [37] (fun v37 wc=>∃ (kq:Nat) (x37_33:Bool),v37=.bool x37_33∧As0 (sr17c.j0 kq x37_33 l0_0 l0_1 l0_2 a0_3=some (r1,r2))∧As0 (kq≤k)∧As0 (wc.heap[gb162]?=some (.cells #[(.slice A0_0 l0_0.length c0_0),(.slice A0_1 l0_1.length c0_1),(.slice A0_2 l0_2.length c0_2),.int .i64 a0_3] 26 (0,0)))∧As0 (Below w.heap.size w wc))
     case first =>
      have H:=HC34.out
      clear HC34
      by_cases c44:a0_3<0
      ·rw [if_pos c44] at H
       have c44b0:decide (a0_3<0)=true:=decide_eq_true c44
       clear c44
       (first|rw [c44b0]|(simp only [i64_w,i32_w];rw [c44b0])|skip)
       have H':=As0.mk H
       clear H
       have hcz45_0:w43.cell? ⟨gb162,0,none⟩=some (.slice A0_0 l0_0.length c0_0):=(bkC BK162.out 0).trans rfl
       have hcz45_1:w43.cell? ⟨gb162,1,none⟩=some (.slice A0_1 l0_1.length c0_1):=(bkC BK162.out 1).trans rfl
       have hcz45_2:w43.cell? ⟨gb162,2,none⟩=some (.slice A0_2 l0_2.length c0_2):=(bkC BK162.out 2).trans rfl
       have hcz45_3:w43.cell? ⟨gb162,3,none⟩=some (.int .i64 a0_3):=(bkC BK162.out 3).trans rfl
       have hfz45_0:=bkF BK162.out 0
       have hfz45_1:=bkF BK162.out 1
       have hfz45_2:=bkF BK162.out 2
       have hfz45_3:=bkF BK162.out 3
       go_wp2
       go_meet
       case rel=>exact ⟨_,(true),(by first|rfl|(simp;done)|(simp [*];done)),H',⟨by first|omega|exact Nat.le_refl _⟩,⟨by (with_reducible repeat (first|refine bkN ?_ _|refine bkD ?_|refine bkA ?_ _));exact BK162.out⟩,⟨by repeat (first|(with_reducible first|exact HB.out|apply bdA|apply bdN|apply bd1|refine bdS ?_ GE162.out)|exact HB.out)⟩⟩
      ·rw [if_neg c44] at H
       have c44b0:decide (a0_3<0)=false:=decide_eq_false c44
       clear c44
       (first|rw [c44b0]|(simp only [i64_w,i32_w];rw [c44b0])|skip)
       have H':=As0.mk H
       clear H
       have hcz46_0:w43.cell? ⟨gb162,0,none⟩=some (.slice A0_0 l0_0.length c0_0):=(bkC BK162.out 0).trans rfl
       have hcz46_1:w43.cell? ⟨gb162,1,none⟩=some (.slice A0_1 l0_1.length c0_1):=(bkC BK162.out 1).trans rfl
       have hcz46_2:w43.cell? ⟨gb162,2,none⟩=some (.slice A0_2 l0_2.length c0_2):=(bkC BK162.out 2).trans rfl
       have hcz46_3:w43.cell? ⟨gb162,3,none⟩=some (.int .i64 a0_3):=(bkC BK162.out 3).trans rfl
       have hfz46_0:=bkF BK162.out 0
       have hfz46_1:=bkF BK162.out 1
       have hfz46_2:=bkF BK162.out 2
       have hfz46_3:=bkF BK162.out 3
       go_wp2
       go_meet
       case rel=>exact ⟨_,(decide (a0_3≥(l0_1.length:Int))),(by first|rfl|(simp;done)|(simp [*];done)),H',⟨by first|omega|exact Nat.le_refl _⟩,⟨by (with_reducible repeat (first|refine bkN ?_ _|refine bkD ?_|refine bkA ?_ _));exact BK162.out⟩,⟨by repeat (first|(with_reducible first|exact HB.out|apply bdA|apply bdN|apply bd1|refine bdS ?_ GE162.out)|exact HB.out)⟩⟩
     case rest =>
      clear HC34
      try clear c1
      try clear c2
      try clear p2
      try clear c3
      try clear c3b0
      try clear c4
      try clear c5
      try clear c8
      try clear c8b0
      try clear c15
      try clear c15b0
      try clear c20
      try clear c24
      try clear c24b0
      try clear c44
      try clear c44b0
      try clear hcz10_0
      try clear hcz10_1
      try clear hcz10_2
      try clear hcz10_3
      try clear hcz12_0
      try clear hcz12_1
      try clear hcz12_2
      try clear hcz12_3
      try clear hcz17_0
      try clear hcz17_1
      try clear hcz17_2
      try clear hcz17_3
      try clear hcz19_0
      try clear hcz19_1
      try clear hcz19_2
      try clear hcz19_3
      try clear hcz21_0
      try clear hcz21_1
      try clear hcz21_2
      try clear hcz21_3
      try clear hcz26_0
      try clear hcz26_1
      try clear hcz26_2
      try clear hcz26_3
      try clear hcz28_0
      try clear hcz28_1
      try clear hcz28_2
      try clear hcz28_3
      try clear hcz30_0
      try clear hcz30_1
      try clear hcz30_2
      try clear hcz30_3
      try clear hcz32_0
      try clear hcz32_1
      try clear hcz32_2
      try clear hcz32_3
      try clear hcz36_0
      try clear hcz36_1
      try clear hcz36_2
      try clear hcz36_3
      try clear hcz38_0
      try clear hcz38_1
      try clear hcz38_2
      try clear hcz38_3
      try clear hcz40_0
      try clear hcz40_1
      try clear hcz40_2
      try clear hcz40_3
      try clear hcz42_0
      try clear hcz42_1
      try clear hcz42_2
      try clear hcz42_3
      try clear hcz45_0
      try clear hcz45_1
      try clear hcz45_2
      try clear hcz45_3
      try clear hcz46_0
      try clear hcz46_1
      try clear hcz46_2
      try clear hcz46_3
      try clear hcz5_0
      try clear hcz5_1
      try clear hcz5_2
      try clear hcz5_3
      try clear hfz10_0
      try clear hfz10_1
      try clear hfz10_2
      try clear hfz10_3
      try clear hfz12_0
      try clear hfz12_1
      try clear hfz12_2
      try clear hfz12_3
      try clear hfz17_0
      try clear hfz17_1
      try clear hfz17_2
      try clear hfz17_3
      try clear hfz19_0
      try clear hfz19_1
      try clear hfz19_2
      try clear hfz19_3
      try clear hfz21_0
      try clear hfz21_1
      try clear hfz21_2
      try clear hfz21_3
      try clear hfz26_0
      try clear hfz26_1
      try clear hfz26_2
      try clear hfz26_3
      try clear hfz28_0
      try clear hfz28_1
      try clear hfz28_2
      try clear hfz28_3
      try clear hfz30_0
      try clear hfz30_1
      try clear hfz30_2
      try clear hfz30_3
      try clear hfz32_0
      try clear hfz32_1
      try clear hfz32_2
      try clear hfz32_3
      try clear hfz36_0
      try clear hfz36_1
      try clear hfz36_2
      try clear hfz36_3
      try clear hfz38_0
      try clear hfz38_1
      try clear hfz38_2
      try clear hfz38_3
      try clear hfz40_0
      try clear hfz40_1
      try clear hfz40_2
      try clear hfz40_3
      try clear hfz42_0
      try clear hfz42_1
      try clear hfz42_2
      try clear hfz42_3
      try clear hfz45_0
      try clear hfz45_1
      try clear hfz45_2
      try clear hfz45_3
      try clear hfz46_0
      try clear hfz46_1
      try clear hfz46_2
      try clear hfz46_3
      try clear hfz5_0
      try clear hfz5_1
      try clear hfz5_2
      try clear hfz5_3
      obtain ⟨kq,x37_33,rfl,HA,HJ33,BK162,HB⟩:=hcut
      cases kq with
      | zero=>exact absurd HA.out (by simp [sr17c.j0])
      | succ kj33 =>
       have H:=HA.out
       clear HA
       simp only [sr17c.j0] at H
       by_cases c47:x37_33=true
       ·subst c47
        have H1:(some (0,175))=some (r1,r2):=by rw [if_pos rfl] at H;exact H
        clear H
        have H:=H1
        clear H1
        simp only [Option.some.injEq,Prod.mk.injEq] at H
        obtain ⟨rfl,rfl⟩:=H
        go_wp2
        go_ret2
        exact ⟨by first|rfl|(simp [errW_none,errW_some] <;> rfl)|(simp [*,errW_none,errW_some] <;> rfl),by repeat (first|(with_reducible first|exact HB.out|apply bdA|apply bdN|apply bd1|refine bdS ?_ GE162.out)|exact HB.out)⟩
       ·replace c47:=Bool.eq_false_iff.mpr c47
        subst c47
        have H1:(sr17c.l0 kj33 0 l0_0 l0_1 l0_2 a0_3)=some (r1,r2):=by rw [if_neg (show ¬ (false=true) by decide)] at H;exact H
        clear H
        have H:=H1
        clear H1
        have H':=As0.mk H
        clear H
        go_wp2
        go_loopg [5] kj33 (fun kq v5 w'=>∃ (x5_2:Int),v5=.int .i64 x5_2∧As0 (sr17c.l0 kq x5_2 l0_0 l0_1 l0_2 a0_3=some (r1,r2))∧As0 (kq≤kj33)∧As0 (w'.heap[gb162]?=some (.cells #[(.slice A0_0 l0_0.length c0_0),(.slice A0_1 l0_1.length c0_1),(.slice A0_2 l0_2.length c0_2),.int .i64 a0_3] 26 (0,0)))∧As0 (Below w.heap.size w w'))
        case atStart=>exact ⟨(0),(by first|rfl|(simp;done)|(simp [*];done)),H',⟨Nat.le_refl _⟩,⟨by (with_reducible repeat (first|refine bkN ?_ _|refine bkD ?_|refine bkA ?_ _));exact BK162.out⟩,⟨by repeat (first|(with_reducible first|exact HB.out|apply bdA|apply bdN|apply bd1|refine bdS ?_ GE162.out)|exact HB.out)⟩⟩
        case round =>
         clear H'
         try clear c1
         try clear c2
         try clear p2
         try clear c3
         try clear c3b0
         try clear c4
         try clear c5
         try clear c8
         try clear c8b0
         try clear c15
         try clear c15b0
         try clear c20
         try clear c24
         try clear c24b0
         try clear c44
         try clear c44b0
         try clear c47
         try clear hcz10_0
         try clear hcz10_1
         try clear hcz10_2
         try clear hcz10_3
         try clear hcz12_0
         try clear hcz12_1
         try clear hcz12_2
         try clear hcz12_3
         try clear hcz17_0
         try clear hcz17_1
         try clear hcz17_2
         try clear hcz17_3
         try clear hcz19_0
         try clear hcz19_1
         try clear hcz19_2
         try clear hcz19_3
         try clear hcz21_0
         try clear hcz21_1
         try clear hcz21_2
         try clear hcz21_3
         try clear hcz26_0
         try clear hcz26_1
         try clear hcz26_2
         try clear hcz26_3
         try clear hcz28_0
         try clear hcz28_1
         try clear hcz28_2
         try clear hcz28_3
         try clear hcz30_0
         try clear hcz30_1
         try clear hcz30_2
         try clear hcz30_3
         try clear hcz32_0
         try clear hcz32_1
         try clear hcz32_2
         try clear hcz32_3
         try clear hcz36_0
         try clear hcz36_1
         try clear hcz36_2
         try clear hcz36_3
         try clear hcz38_0
         try clear hcz38_1
         try clear hcz38_2
         try clear hcz38_3
         try clear hcz40_0
         try clear hcz40_1
         try clear hcz40_2
         try clear hcz40_3
         try clear hcz42_0
         try clear hcz42_1
         try clear hcz42_2
         try clear hcz42_3
         try clear hcz45_0
         try clear hcz45_1
         try clear hcz45_2
         try clear hcz45_3
         try clear hcz46_0
         try clear hcz46_1
         try clear hcz46_2
         try clear hcz46_3
         try clear hcz5_0
         try clear hcz5_1
         try clear hcz5_2
         try clear hcz5_3
         try clear hfz10_0
         try clear hfz10_1
         try clear hfz10_2
         try clear hfz10_3
         try clear hfz12_0
         try clear hfz12_1
         try clear hfz12_2
         try clear hfz12_3
         try clear hfz17_0
         try clear hfz17_1
         try clear hfz17_2
         try clear hfz17_3
         try clear hfz19_0
         try clear hfz19_1
         try clear hfz19_2
         try clear hfz19_3
         try clear hfz21_0
         try clear hfz21_1
         try clear hfz21_2
         try clear hfz21_3
         try clear hfz26_0
         try clear hfz26_1
         try clear hfz26_2
         try clear hfz26_3
         try clear hfz28_0
         try clear hfz28_1
         try clear hfz28_2
         try clear hfz28_3
         try clear hfz30_0
         try clear hfz30_1
         try clear hfz30_2
         try clear hfz30_3
         try clear hfz32_0
         try clear hfz32_1
         try clear hfz32_2
         try clear hfz32_3
         try clear hfz36_0
         try clear hfz36_1
         try clear hfz36_2
         try clear hfz36_3
         try clear hfz38_0
         try clear hfz38_1
         try clear hfz38_2
         try clear hfz38_3
         try clear hfz40_0
         try clear hfz40_1
         try clear hfz40_2
         try clear hfz40_3
         try clear hfz42_0
         try clear hfz42_1
         try clear hfz42_2
         try clear hfz42_3
         try clear hfz45_0
         try clear hfz45_1
         try clear hfz45_2
         try clear hfz45_3
         try clear hfz46_0
         try clear hfz46_1
         try clear hfz46_2
         try clear hfz46_3
         try clear hfz5_0
         try clear hfz5_1
         try clear hfz5_2
         try clear hfz5_3
         try clear p2
         obtain ⟨x5_2,rfl,HA,HK2,BK162,HB⟩:=hrel
         cases gk with
         | zero=>exact absurd HA.out (by simp [sr17c.l0])
         | succ k2 =>
          have H:=HA.out
          clear HA
          simp only [sr17c.l0] at H
          by_cases c48:x5_2<(l0_0.length:Int)
          ·rw [if_pos c48] at H
           have c48b0:decide (x5_2<(l0_0.length:Int))=true:=decide_eq_true c48
           clear c48
           by_cases c49:0≤x5_2
           ·rw [if_pos c49] at H
            have c49b0:decide (0≤x5_2)=true:=decide_eq_true c49
            clear c49
            replace H:=Option.bind_eq_some_iff.mp H
            obtain ⟨t168,A500,H⟩:=H
            replace H:(if t168=true then (sr17c.l0 k2 (wrap64 (x5_2+1)) l0_0 l0_1 l0_2 a0_3) else (some (x5_2,176)))=some (r1,r2):=H
            have A50:=As0.mk A500
            clear A500
            by_cases c51:t168=true
            ·subst c51
             have H1:(sr17c.l0 k2 (wrap64 (x5_2+1)) l0_0 l0_1 l0_2 a0_3)=some (r1,r2):=by rw [if_pos rfl] at H;exact H
             clear H
             have H:=H1
             clear H1
             have H':=As0.mk H
             clear H
             have hcz52_0:wr.cell? ⟨gb162,0,none⟩=some (.slice A0_0 l0_0.length c0_0):=(bkC BK162.out 0).trans rfl
             have hcz52_1:wr.cell? ⟨gb162,1,none⟩=some (.slice A0_1 l0_1.length c0_1):=(bkC BK162.out 1).trans rfl
             have hcz52_2:wr.cell? ⟨gb162,2,none⟩=some (.slice A0_2 l0_2.length c0_2):=(bkC BK162.out 2).trans rfl
             have hcz52_3:wr.cell? ⟨gb162,3,none⟩=some (.int .i64 a0_3):=(bkC BK162.out 3).trans rfl
             have hfz52_0:=bkF BK162.out 0
             have hfz52_1:=bkF BK162.out 1
             have hfz52_2:=bkF BK162.out 2
             have hfz52_3:=bkF BK162.out 3
             have p167:0≤(x5_2:Int):=of_decide_eq_true (by first|(with_reducible assumption)|assumption)
             have q167:x5_2<(l0_0.length:Int):=of_decide_eq_true (by first|(with_reducible assumption)|assumption)
             obtain ⟨ad167,e167,hx167_0,hx167_1,hx167_2,hx167_3,hx167_4⟩:=at_T54 HR0_0.out x5_2 p167 q167
             cases e167
             replace hx167_0:=(HB.out.cell (World.block_lt_of_cell? w _ hx167_0)).trans hx167_0
             replace hx167_1:=(HB.out.cell (World.block_lt_of_cell? w _ hx167_1)).trans hx167_1
             replace hx167_2:=(HB.out.cell (World.block_lt_of_cell? w _ hx167_2)).trans hx167_2
             replace hx167_3:=(HB.out.cell (World.block_lt_of_cell? w _ hx167_3)).trans hx167_3
             replace hx167_4:=(HB.out.cell (World.block_lt_of_cell? w _ hx167_4)).trans hx167_4
             replace p167:=eq_true p167
             replace q167:=eq_true q167
             go_wp2_with (first|((with_reducible refine gate_callee (f:=53) rfl ?_);refine goesL_ (some 50) rfl rfl Try.func53 (by kernel_rfl) rfl #[.agg #[.int .i64 ((rd_T54 l0_0 x5_2).f0),.int .i64 ((rd_T54 l0_0 x5_2).f1),.int .i64 ((rd_T54 l0_0 x5_2).f2),.int .i64 ((rd_T54 l0_0 x5_2).f3),.int .i64 ((rd_T54 l0_0 x5_2).f4)]] rfl (by (try simp only [List.map_toArray,List.map_cons,List.map_nil]);first|done|rfl|(simp only [List.length_drop,List.length_take];rfl)) ?_;(with_reducible refine (spindleref17_fits.calls ((rd_T54 l0_0 x5_2).f0) ((rd_T54 l0_0 x5_2).f1) ((rd_T54 l0_0 x5_2).f2) ((rd_T54 l0_0 x5_2).f3) ((rd_T54 l0_0 x5_2).f4) true _ A50.out).mono ?_);rintro e w53 ⟨rfl,hb⟩;refine ⟨_,rfl,?_⟩;have n0_:=As0.mk (bkB (g:=gb162) (o:=.cells #[.slice (some ad167) l0_0.length c0_0,.slice A0_1 l0_1.length c0_1,.slice A0_2 l0_2.length c0_2,.int .i64 a0_3] 26 (0,0)) (by (with_reducible repeat (first|refine bkN ?_ _|refine bkD ?_|refine bkA ?_ _));exact BK162.out) hb);have n1_:=As0.mk (bdT (by repeat (first|(with_reducible first|exact HB.out|apply bdA|apply bdN|apply bd1|refine bdS ?_ GE162.out)|exact HB.out)) hb);clear BK162;clear HB;have BK162:=n0_;have HB:=n1_;clear n0_ n1_;(try clear hb);(try clear hb2);(try clear hk);(try clear hi)))
             go_roundg k2
             case measure=>have:=HJ33.out;have:=HK2.out;omega
             case rel=>exact ⟨(wrap64 (x5_2+1)),(by first|rfl|(simp;done)|(simp [*];done)),H',⟨by have:=HJ33.out;have:=HK2.out;omega⟩,⟨by (with_reducible repeat (first|refine bkN ?_ _|refine bkD ?_|refine bkA ?_ _));exact BK162.out⟩,⟨by repeat (first|(with_reducible first|exact HB.out|apply bdA|apply bdN|apply bd1|refine bdS ?_ GE162.out)|exact HB.out)⟩⟩
            ·replace c51:=Bool.eq_false_iff.mpr c51
             subst c51
             have H1:(some (x5_2,176))=some (r1,r2):=by rw [if_neg (show ¬ (false=true) by decide)] at H;exact H
             clear H
             have H:=H1
             clear H1
             simp only [Option.some.injEq,Prod.mk.injEq] at H
             obtain ⟨rfl,rfl⟩:=H
             have hcz54_0:wr.cell? ⟨gb162,0,none⟩=some (.slice A0_0 l0_0.length c0_0):=(bkC BK162.out 0).trans rfl
             have hcz54_1:wr.cell? ⟨gb162,1,none⟩=some (.slice A0_1 l0_1.length c0_1):=(bkC BK162.out 1).trans rfl
             have hcz54_2:wr.cell? ⟨gb162,2,none⟩=some (.slice A0_2 l0_2.length c0_2):=(bkC BK162.out 2).trans rfl
             have hcz54_3:wr.cell? ⟨gb162,3,none⟩=some (.int .i64 a0_3):=(bkC BK162.out 3).trans rfl
             have hfz54_0:=bkF BK162.out 0
             have hfz54_1:=bkF BK162.out 1
             have hfz54_2:=bkF BK162.out 2
             have hfz54_3:=bkF BK162.out 3
             have p167:0≤(x5_2:Int):=of_decide_eq_true (by first|(with_reducible assumption)|assumption)
             have q167:x5_2<(l0_0.length:Int):=of_decide_eq_true (by first|(with_reducible assumption)|assumption)
             obtain ⟨ad167,e167,hx167_0,hx167_1,hx167_2,hx167_3,hx167_4⟩:=at_T54 HR0_0.out x5_2 p167 q167
             cases e167
             replace hx167_0:=(HB.out.cell (World.block_lt_of_cell? w _ hx167_0)).trans hx167_0
             replace hx167_1:=(HB.out.cell (World.block_lt_of_cell? w _ hx167_1)).trans hx167_1
             replace hx167_2:=(HB.out.cell (World.block_lt_of_cell? w _ hx167_2)).trans hx167_2
             replace hx167_3:=(HB.out.cell (World.block_lt_of_cell? w _ hx167_3)).trans hx167_3
             replace hx167_4:=(HB.out.cell (World.block_lt_of_cell? w _ hx167_4)).trans hx167_4
             replace p167:=eq_true p167
             replace q167:=eq_true q167
             go_wp2_with (first|((with_reducible refine gate_callee (f:=53) rfl ?_);refine goesL_ (some 50) rfl rfl Try.func53 (by kernel_rfl) rfl #[.agg #[.int .i64 ((rd_T54 l0_0 x5_2).f0),.int .i64 ((rd_T54 l0_0 x5_2).f1),.int .i64 ((rd_T54 l0_0 x5_2).f2),.int .i64 ((rd_T54 l0_0 x5_2).f3),.int .i64 ((rd_T54 l0_0 x5_2).f4)]] rfl (by (try simp only [List.map_toArray,List.map_cons,List.map_nil]);first|done|rfl|(simp only [List.length_drop,List.length_take];rfl)) ?_;(with_reducible refine (spindleref17_fits.calls ((rd_T54 l0_0 x5_2).f0) ((rd_T54 l0_0 x5_2).f1) ((rd_T54 l0_0 x5_2).f2) ((rd_T54 l0_0 x5_2).f3) ((rd_T54 l0_0 x5_2).f4) false _ A50.out).mono ?_);rintro e w55 ⟨rfl,hb⟩;refine ⟨_,rfl,?_⟩;have n0_:=As0.mk (bkB (g:=gb162) (o:=.cells #[.slice (some ad167) l0_0.length c0_0,.slice A0_1 l0_1.length c0_1,.slice A0_2 l0_2.length c0_2,.int .i64 a0_3] 26 (0,0)) (by (with_reducible repeat (first|refine bkN ?_ _|refine bkD ?_|refine bkA ?_ _));exact BK162.out) hb);have n1_:=As0.mk (bdT (by repeat (first|(with_reducible first|exact HB.out|apply bdA|apply bdN|apply bd1|refine bdS ?_ GE162.out)|exact HB.out)) hb);clear BK162;clear HB;have BK162:=n0_;have HB:=n1_;clear n0_ n1_;(try clear hb);(try clear hb2);(try clear hk);(try clear hi)))
             go_ret2
             exact ⟨by first|rfl|(simp [errW_none,errW_some] <;> rfl)|(simp [*,errW_none,errW_some] <;> rfl),by repeat (first|(with_reducible first|exact HB.out|apply bdA|apply bdN|apply bd1|refine bdS ?_ GE162.out)|exact HB.out)⟩
           ·rw [if_neg c49] at H
            exact absurd H (by simp)
          ·rw [if_neg c48] at H
           have c48b0:decide (x5_2<(l0_0.length:Int))=false:=decide_eq_false c48
           clear c48
           simp only [Option.some.injEq,Prod.mk.injEq] at H
           obtain ⟨rfl,rfl⟩:=H
           have hcz56_0:wr.cell? ⟨gb162,0,none⟩=some (.slice A0_0 l0_0.length c0_0):=(bkC BK162.out 0).trans rfl
           have hcz56_1:wr.cell? ⟨gb162,1,none⟩=some (.slice A0_1 l0_1.length c0_1):=(bkC BK162.out 1).trans rfl
           have hcz56_2:wr.cell? ⟨gb162,2,none⟩=some (.slice A0_2 l0_2.length c0_2):=(bkC BK162.out 2).trans rfl
           have hcz56_3:wr.cell? ⟨gb162,3,none⟩=some (.int .i64 a0_3):=(bkC BK162.out 3).trans rfl
           have hfz56_0:=bkF BK162.out 0
           have hfz56_1:=bkF BK162.out 1
           have hfz56_2:=bkF BK162.out 2
           have hfz56_3:=bkF BK162.out 3
           go_wp2
           go_ret2
           exact ⟨by first|rfl|(simp [errW_none,errW_some] <;> rfl)|(simp [*,errW_none,errW_some] <;> rfl),by repeat (first|(with_reducible first|exact HB.out|apply bdA|apply bdN|apply bd1|refine bdS ?_ GE162.out)|exact HB.out)⟩
def spindlelaw0_SameInsns.l0:Nat→List (S54)→List (S54)→Int→Option (Bool)
 | 0,_,_,_=>none
 | k+1,x0,x1,x5=>if x5<(x0.length:Int) then (if 0≤x5 then (if x5<(x1.length:Int) then (if (!(((rd_T54 x0 x5).f0) == ((rd_T54 x1 x5).f0)) || (!(((rd_T54 x0 x5).f1) == ((rd_T54 x1 x5).f1)) || (!(((rd_T54 x0 x5).f2) == ((rd_T54 x1 x5).f2)) || (!(((rd_T54 x0 x5).f3) == ((rd_T54 x1 x5).f3)) || (!(((rd_T54 x0 x5).f4) == ((rd_T54 x1 x5).f4)))))))=true then (some false) else (spindlelaw0_SameInsns.l0 k x0 x1 (wrap64 (x5+1)))) else (none)) else (none)) else (some true)
def spindlelaw0_SameInsns.f (k:Nat) (l0:List (S54)) (l1:List (S54)):Option (Bool):=if (l0.length:Int)=(l1.length:Int) then (spindlelaw0_SameInsns.l0 k l0 l1 0) else (some false)
theorem spindlelaw0_SameInsns.calls (k:Nat) (A0:Option Addr) (c0:Nat) (l0:List (S54)) (A1:Option Addr) (c1:Nat) (l1:List (S54)) (r:Bool) (w:World) (hr0:Kd.C k54 w A0 l0.length l0) (hc0:l0.length≤c0) (hr1:Kd.C k54 w A1 l1.length l1) (hc1:l1.length≤c1) (h:spindlelaw0_SameInsns.f k l0 l1=some r) :
  Calls Try.prog 46 #[.slice A0 l0.length c0,.slice A1 l1.length c1] w fun e w'=>e=.returned (.bool r)∧Drawn0 w w':=by
 have hu54:=Try.underlying54
 have HR0:=As0.mk hr0
 have HC0:=As0.mk hc0
 clear hr0 hc0
 have HR1:=As0.mk hr1
 have HC1:=As0.mk hc1
 clear hr1 hc1
 have H:(if (l0.length:Int)=(l1.length:Int) then (spindlelaw0_SameInsns.l0 k l0 l1 0) else (some false))=some r:=h
 clear h
 by_cases c3:(l0.length:Int)=(l1.length:Int)
 ·rw [if_pos c3] at H
  have c3b0:((l0.length:Int) == (l1.length:Int))=true:=beq_iff_eq.mpr c3
  have c3b1:((l0.length:Int) != (l1.length:Int))=false:=bne_eq_false_iff_eq.mpr c3
  have c3b2:(l0.length == l1.length)=true:=by first|simpa using c3|(simp at c3 ⊢;omega)
  clear c3
  have H':=As0.mk H
  clear H
  go_enter Try.func46,Try.ntmps46
  go_wp2
  repeat (go_quiet (fail);try go_wp2)
  go_loopg [5] k (fun kq v5 w'=>∃ (x5_1:Int),v5=.int .i64 x5_1∧As0 (spindlelaw0_SameInsns.l0 kq l0 l1 x5_1=some r)∧As0 (kq≤k)∧Drawn0 w w')
  case atStart=>exact ⟨(0),(by first|rfl|(simp;done)|(simp [*];done)),H',⟨Nat.le_refl _⟩,by repeat (first|exact Drawn0.refl _|apply Drawn0.step)⟩
  case round =>
   clear H'
   try clear c1
   try clear p2
   try clear c3
   try clear c3b0
   try clear c3b1
   try clear c3b2
   obtain ⟨x5_1,rfl,HA,HK1,⟨m1,rfl⟩⟩:=hrel
   cases gk with
   | zero=>exact absurd HA.out (by simp [spindlelaw0_SameInsns.l0])
   | succ k1 =>
    have H:=HA.out
    clear HA
    simp only [spindlelaw0_SameInsns.l0] at H
    by_cases c4:x5_1<(l0.length:Int)
    ·rw [if_pos c4] at H
     have c4b0:decide (x5_1<(l0.length:Int))=true:=decide_eq_true c4
     clear c4
     by_cases c5:0≤x5_1
     ·rw [if_pos c5] at H
      have c5b0:decide (0≤x5_1)=true:=decide_eq_true c5
      clear c5
      by_cases c6:x5_1<(l1.length:Int)
      ·rw [if_pos c6] at H
       have c6b0:decide (x5_1<(l1.length:Int))=true:=decide_eq_true c6
       clear c6
       by_cases c7:(!(((rd_T54 l0 x5_1).f0) == ((rd_T54 l1 x5_1).f0)) || (!(((rd_T54 l0 x5_1).f1) == ((rd_T54 l1 x5_1).f1)) || (!(((rd_T54 l0 x5_1).f2) == ((rd_T54 l1 x5_1).f2)) || (!(((rd_T54 l0 x5_1).f3) == ((rd_T54 l1 x5_1).f3)) || (!(((rd_T54 l0 x5_1).f4) == ((rd_T54 l1 x5_1).f4)))))))=true
       ·rw [if_pos c7] at H
        have c7b0:(!(((rd_T54 l0 x5_1).f0) == ((rd_T54 l1 x5_1).f0)) || (!(((rd_T54 l0 x5_1).f1) == ((rd_T54 l1 x5_1).f1)) || (!(((rd_T54 l0 x5_1).f2) == ((rd_T54 l1 x5_1).f2)) || (!(((rd_T54 l0 x5_1).f3) == ((rd_T54 l1 x5_1).f3)) || (!(((rd_T54 l0 x5_1).f4) == ((rd_T54 l1 x5_1).f4)))))))=true:=c7
        clear c7
        obtain rfl:=Option.some.inj H
        have p174:0≤(x5_1:Int):=of_decide_eq_true (by first|(with_reducible assumption)|assumption)
        have q174:x5_1<(l0.length:Int):=of_decide_eq_true (by first|(with_reducible assumption)|assumption)
        obtain ⟨ad174,e174,hx174_0,hx174_1,hx174_2,hx174_3,hx174_4⟩:=at_T54 HR0.out x5_1 p174 q174
        cases e174
        replace p174:=eq_true p174
        replace q174:=eq_true q174
        have p175:0≤(x5_1:Int):=of_decide_eq_true (by first|(with_reducible assumption)|assumption)
        have q175:x5_1<(l1.length:Int):=of_decide_eq_true (by first|(with_reducible assumption)|assumption)
        obtain ⟨ad175,e175,hx175_0,hx175_1,hx175_2,hx175_3,hx175_4⟩:=at_T54 HR1.out x5_1 p175 q175
        cases e175
        replace p175:=eq_true p175
        replace q175:=eq_true q175
        go_wp2
        repeat (go_quiet (fail);try go_wp2)
        go_ret
        exact ⟨by first|rfl|(simp;done)|(simp [*];done),by repeat (first|exact Drawn0.refl _|apply Drawn0.step)⟩
       ·rw [if_neg c7] at H
        have c7b0:(!(((rd_T54 l0 x5_1).f0) == ((rd_T54 l1 x5_1).f0)) || (!(((rd_T54 l0 x5_1).f1) == ((rd_T54 l1 x5_1).f1)) || (!(((rd_T54 l0 x5_1).f2) == ((rd_T54 l1 x5_1).f2)) || (!(((rd_T54 l0 x5_1).f3) == ((rd_T54 l1 x5_1).f3)) || (!(((rd_T54 l0 x5_1).f4) == ((rd_T54 l1 x5_1).f4)))))))=false:=by simpa using c7
        clear c7
        have H':=As0.mk H
        clear H
        have p174:0≤(x5_1:Int):=of_decide_eq_true (by first|(with_reducible assumption)|assumption)
        have q174:x5_1<(l0.length:Int):=of_decide_eq_true (by first|(with_reducible assumption)|assumption)
        obtain ⟨ad174,e174,hx174_0,hx174_1,hx174_2,hx174_3,hx174_4⟩:=at_T54 HR0.out x5_1 p174 q174
        cases e174
        replace p174:=eq_true p174
        replace q174:=eq_true q174
        have p175:0≤(x5_1:Int):=of_decide_eq_true (by first|(with_reducible assumption)|assumption)
        have q175:x5_1<(l1.length:Int):=of_decide_eq_true (by first|(with_reducible assumption)|assumption)
        obtain ⟨ad175,e175,hx175_0,hx175_1,hx175_2,hx175_3,hx175_4⟩:=at_T54 HR1.out x5_1 p175 q175
        cases e175
        replace p175:=eq_true p175
        replace q175:=eq_true q175
        go_wp2
        repeat (go_quiet (fail);try go_wp2)
        go_roundg k1
        case measure=>have:=HK1.out;omega
        case rel=>exact ⟨(wrap64 (x5_1+1)),(by first|rfl|(simp;done)|(simp [*];done)),H',⟨by have:=HK1.out;omega⟩,by repeat (first|exact Drawn0.refl _|apply Drawn0.step)⟩
      ·rw [if_neg c6] at H
       exact absurd H (by simp)
     ·rw [if_neg c5] at H
      exact absurd H (by simp)
    ·rw [if_neg c4] at H
     have c4b0:decide (x5_1<(l0.length:Int))=false:=decide_eq_false c4
     clear c4
     obtain rfl:=Option.some.inj H
     go_wp2
     repeat (go_quiet (fail);try go_wp2)
     go_ret
     exact ⟨by first|rfl|(simp;done)|(simp [*];done),by repeat (first|exact Drawn0.refl _|apply Drawn0.step)⟩
 ·rw [if_neg c3] at H
  have c3b0:((l0.length:Int) == (l1.length:Int))=false:=beq_eq_false_iff_ne.mpr c3
  have c3b1:((l0.length:Int) != (l1.length:Int))=true:=bne_iff_ne.mpr c3
  have c3b2:(l0.length == l1.length)=false:=by first|simpa using c3|(simp at c3 ⊢;omega)
  obtain rfl:=Option.some.inj H
  go_enter Try.func46,Try.ntmps46
  go_wp2
  repeat (go_quiet (fail);try go_wp2)
  go_ret
  exact ⟨by first|rfl|(simp;done)|(simp [*];done),by repeat (first|exact Drawn0.refl _|apply Drawn0.step)⟩
def spindlelaw0_SameImgFuncs.l0:Nat→List (S68)→List (S68)→Int→Option (Bool)
 | 0,_,_,_=>none
 | k+1,x0,x1,x5=>if x5<(x0.length:Int) then (if 0≤x5 then (if x5<(x1.length:Int) then (if (!((((rd_T68 x0 x5).f0).toList) == (((rd_T68 x1 x5).f0).toList)) || (!(((rd_T68 x0 x5).f1) == ((rd_T68 x1 x5).f1)) || (!(((rd_T68 x0 x5).f2) == ((rd_T68 x1 x5).f2)) || (!(((rd_T68 x0 x5).f3) == ((rd_T68 x1 x5).f3))))))=true then (some false) else (spindlelaw0_SameImgFuncs.l0 k x0 x1 (wrap64 (x5+1)))) else (none)) else (none)) else (some true)
def spindlelaw0_SameImgFuncs.f (k:Nat) (l0:List (S68)) (l1:List (S68)):Option (Bool):=if (l0.length:Int)=(l1.length:Int) then (spindlelaw0_SameImgFuncs.l0 k l0 l1 0) else (some false)
theorem spindlelaw0_SameImgFuncs.calls (k:Nat) (A0:Option Addr) (c0:Nat) (l0:List (S68)) (A1:Option Addr) (c1:Nat) (l1:List (S68)) (r:Bool) (w:World) (hr0:Kd.C k68 w A0 l0.length l0) (hc0:l0.length≤c0) (hr1:Kd.C k68 w A1 l1.length l1) (hc1:l1.length≤c1) (h:spindlelaw0_SameImgFuncs.f k l0 l1=some r) :
  Calls Try.prog 47 #[.slice A0 l0.length c0,.slice A1 l1.length c1] w fun e w'=>e=.returned (.bool r)∧Drawn0 w w':=by
 have hu68:=Try.underlying68
 have HR0:=As0.mk hr0
 have HC0:=As0.mk hc0
 clear hr0 hc0
 have HR1:=As0.mk hr1
 have HC1:=As0.mk hc1
 clear hr1 hc1
 have H:(if (l0.length:Int)=(l1.length:Int) then (spindlelaw0_SameImgFuncs.l0 k l0 l1 0) else (some false))=some r:=h
 clear h
 by_cases c3:(l0.length:Int)=(l1.length:Int)
 ·rw [if_pos c3] at H
  have c3b0:((l0.length:Int) == (l1.length:Int))=true:=beq_iff_eq.mpr c3
  have c3b1:((l0.length:Int) != (l1.length:Int))=false:=bne_eq_false_iff_eq.mpr c3
  have c3b2:(l0.length == l1.length)=true:=by first|simpa using c3|(simp at c3 ⊢;omega)
  clear c3
  have H':=As0.mk H
  clear H
  go_enter Try.func47,Try.ntmps47
  go_wp2
  repeat (go_quiet (fail);try go_wp2)
  go_loopg [5] k (fun kq v5 w'=>∃ (x5_1:Int),v5=.int .i64 x5_1∧As0 (spindlelaw0_SameImgFuncs.l0 kq l0 l1 x5_1=some r)∧As0 (kq≤k)∧Drawn0 w w')
  case atStart=>exact ⟨(0),(by first|rfl|(simp;done)|(simp [*];done)),H',⟨Nat.le_refl _⟩,by repeat (first|exact Drawn0.refl _|apply Drawn0.step)⟩
  case round =>
   clear H'
   try clear c1
   try clear p2
   try clear c3
   try clear c3b0
   try clear c3b1
   try clear c3b2
   obtain ⟨x5_1,rfl,HA,HK1,⟨m1,rfl⟩⟩:=hrel
   cases gk with
   | zero=>exact absurd HA.out (by simp [spindlelaw0_SameImgFuncs.l0])
   | succ k1 =>
    have H:=HA.out
    clear HA
    simp only [spindlelaw0_SameImgFuncs.l0] at H
    by_cases c4:x5_1<(l0.length:Int)
    ·rw [if_pos c4] at H
     have c4b0:decide (x5_1<(l0.length:Int))=true:=decide_eq_true c4
     clear c4
     by_cases c5:0≤x5_1
     ·rw [if_pos c5] at H
      have c5b0:decide (0≤x5_1)=true:=decide_eq_true c5
      clear c5
      by_cases c6:x5_1<(l1.length:Int)
      ·rw [if_pos c6] at H
       have c6b0:decide (x5_1<(l1.length:Int))=true:=decide_eq_true c6
       clear c6
       by_cases c7:(!((((rd_T68 l0 x5_1).f0).toList) == (((rd_T68 l1 x5_1).f0).toList)) || (!(((rd_T68 l0 x5_1).f1) == ((rd_T68 l1 x5_1).f1)) || (!(((rd_T68 l0 x5_1).f2) == ((rd_T68 l1 x5_1).f2)) || (!(((rd_T68 l0 x5_1).f3) == ((rd_T68 l1 x5_1).f3))))))=true
       ·rw [if_pos c7] at H
        have c7b0:(!((((rd_T68 l0 x5_1).f0).toList) == (((rd_T68 l1 x5_1).f0).toList)) || (!(((rd_T68 l0 x5_1).f1) == ((rd_T68 l1 x5_1).f1)) || (!(((rd_T68 l0 x5_1).f2) == ((rd_T68 l1 x5_1).f2)) || (!(((rd_T68 l0 x5_1).f3) == ((rd_T68 l1 x5_1).f3))))))=true:=c7
        clear c7
        obtain rfl:=Option.some.inj H
        have p176:0≤(x5_1:Int):=of_decide_eq_true (by first|(with_reducible assumption)|assumption)
        have q176:x5_1<(l0.length:Int):=of_decide_eq_true (by first|(with_reducible assumption)|assumption)
        obtain ⟨ad176,e176,hx176_0,hx176_1,hx176_2,hx176_3⟩:=at_T68 HR0.out x5_1 p176 q176
        cases e176
        replace p176:=eq_true p176
        replace q176:=eq_true q176
        have p177:0≤(x5_1:Int):=of_decide_eq_true (by first|(with_reducible assumption)|assumption)
        have q177:x5_1<(l1.length:Int):=of_decide_eq_true (by first|(with_reducible assumption)|assumption)
        obtain ⟨ad177,e177,hx177_0,hx177_1,hx177_2,hx177_3⟩:=at_T68 HR1.out x5_1 p177 q177
        cases e177
        replace p177:=eq_true p177
        replace q177:=eq_true q177
        go_wp2
        repeat (go_quiet (fail);try go_wp2)
        go_ret
        exact ⟨by first|rfl|(simp;done)|(simp [*];done),by repeat (first|exact Drawn0.refl _|apply Drawn0.step)⟩
       ·rw [if_neg c7] at H
        have c7b0:(!((((rd_T68 l0 x5_1).f0).toList) == (((rd_T68 l1 x5_1).f0).toList)) || (!(((rd_T68 l0 x5_1).f1) == ((rd_T68 l1 x5_1).f1)) || (!(((rd_T68 l0 x5_1).f2) == ((rd_T68 l1 x5_1).f2)) || (!(((rd_T68 l0 x5_1).f3) == ((rd_T68 l1 x5_1).f3))))))=false:=by simpa using c7
        clear c7
        have H':=As0.mk H
        clear H
        have p176:0≤(x5_1:Int):=of_decide_eq_true (by first|(with_reducible assumption)|assumption)
        have q176:x5_1<(l0.length:Int):=of_decide_eq_true (by first|(with_reducible assumption)|assumption)
        obtain ⟨ad176,e176,hx176_0,hx176_1,hx176_2,hx176_3⟩:=at_T68 HR0.out x5_1 p176 q176
        cases e176
        replace p176:=eq_true p176
        replace q176:=eq_true q176
        have p177:0≤(x5_1:Int):=of_decide_eq_true (by first|(with_reducible assumption)|assumption)
        have q177:x5_1<(l1.length:Int):=of_decide_eq_true (by first|(with_reducible assumption)|assumption)
        obtain ⟨ad177,e177,hx177_0,hx177_1,hx177_2,hx177_3⟩:=at_T68 HR1.out x5_1 p177 q177
        cases e177
        replace p177:=eq_true p177
        replace q177:=eq_true q177
        go_wp2
        repeat (go_quiet (fail);try go_wp2)
        go_roundg k1
        case measure=>have:=HK1.out;omega
        case rel=>exact ⟨(wrap64 (x5_1+1)),(by first|rfl|(simp;done)|(simp [*];done)),H',⟨by have:=HK1.out;omega⟩,by repeat (first|exact Drawn0.refl _|apply Drawn0.step)⟩
      ·rw [if_neg c6] at H
       exact absurd H (by simp)
     ·rw [if_neg c5] at H
      exact absurd H (by simp)
    ·rw [if_neg c4] at H
     have c4b0:decide (x5_1<(l0.length:Int))=false:=decide_eq_false c4
     clear c4
     obtain rfl:=Option.some.inj H
     go_wp2
     repeat (go_quiet (fail);try go_wp2)
     go_ret
     exact ⟨by first|rfl|(simp;done)|(simp [*];done),by repeat (first|exact Drawn0.refl _|apply Drawn0.step)⟩
 ·rw [if_neg c3] at H
  have c3b0:((l0.length:Int) == (l1.length:Int))=false:=beq_eq_false_iff_ne.mpr c3
  have c3b1:((l0.length:Int) != (l1.length:Int))=true:=bne_iff_ne.mpr c3
  have c3b2:(l0.length == l1.length)=false:=by first|simpa using c3|(simp at c3 ⊢;omega)
  obtain rfl:=Option.some.inj H
  go_enter Try.func47,Try.ntmps47
  go_wp2
  repeat (go_quiet (fail);try go_wp2)
  go_ret
  exact ⟨by first|rfl|(simp;done)|(simp [*];done),by repeat (first|exact Drawn0.refl _|apply Drawn0.step)⟩
end Go.Proofs.Ytbeikcckcjadbaa.PI
end
