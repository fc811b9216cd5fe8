/- Parts of the proof, laid together by a program of this session (pack.py): ZA1. Of the kit's print what the claim does not use is left out. -/
import Derived.Test.YthmeojeehemlaaaZC0
import Derived.Test.YthmeojeehemlaaaProg
import Derived.Below
import Derived.Deep.Draws
import Derived.Deep.AppendLies
import Derived.Maps.AppendAt
import Derived.OwnWalk
import Derived.Laws.BytesArg
import Derived.Laws.MakeOwn
import Derived.Laws.OwnMore
import Derived.Deep.OwnRows
import Derived.Tactics
import Derived.Lib.ConvBytes
import Derived.Laws.Slices
import Derived.WalkKit
import Derived.KernelRfl
import Derived.RowKit3
import Derived.Deep.LoopGhost
import Derived.Deep.QuietTactic
import Derived.BigQuiet
import Derived.WideLaws
import Derived.Deep.DeepCutAuto
import Derived.Deep.CutBlock
import Derived.Deep.RegionHeld3
import Derived.Laws.Rows
import Derived.Lib.AppendStr
import Derived.ArgAppend
import Derived.Laws.IdiomCopy
import Derived.OrdersHeld
import Derived.Laws.BitsLemmas
import Derived.RowKit
set_option linter.unusedVariables false
set_option linter.unusedSimpArgs false
set_option maxRecDepth 100000
set_option maxHeartbeats 16000000
section
section
namespace Go.Proofs.Ythmeojeehemlaaa.PM
open Go.RowKit Go.Proofs.YthmeojeehemlaaaW.PrintWords Go.Proofs.YthmeojeehemlaaaW.PrintLast Go.Proofs.YthmeojeehemlaaaW.PrintMore
attribute [local go_sem] isSome_setCell max2_int min2_int max_two min_two max_three min_three max_four min_four
def errW:Option Int→Value
 | none=>.nilIface
 | some c=>.iface 0 (.int .i64 c)
theorem errW_none:errW none=.nilIface:=rfl
theorem errW_some (c:Int):errW (some c)=.iface 0 (.int .i64 c):=rfl
theorem info5:(Try.prog.info? 5).map (fun i=>(i.zero,i.size,i.bytes))=some (some (.int .u8 0),1,1):=by kernel_rfl
theorem info39:(Try.prog.info? 39).map (fun i=>(i.zero,i.size,i.bytes))=some (some (.agg #[(.int .u64 0),(.slice none 0 0)]),2,32):=by kernel_rfl
structure S39 where
 f0:Int
 f1:(List Int)
def z39:S39:=⟨(0:Int),([]:List Int)⟩
def k39:Kd S39:=Kd.iso (Kd.pair (Kd.int .u64) (Kd.slice 5 (Kd.int .u8))) (fun x:S39=>(x.f0,x.f1))
theorem k39_open {w:World} {x:S39} {cs:List Value} (h:k39.K w x cs):∃ A1 c1,cs=[.int .u64 x.f0,.slice A1 x.f1.length c1]∧x.f1.length≤c1∧(Kd.int .u8).C w A1 x.f1.length x.f1:=by
 obtain ⟨_,_,rfl,rfl,⟨A1,c1,rfl,l1,g1⟩⟩:=h
 exact ⟨A1,c1,rfl,l1,g1⟩
theorem k39_openM {w:World} {base:Nat} {ok:Nat→Prop} {x:S39} {cs:List Value} (h:k39.M w base ok x cs):∃ v1,cs=[.int .u64 x.f0,v1]∧(Kd.int .u8).R 5 w base ok v1 x.f1:=by
 obtain ⟨_,_,rfl,rfl,⟨v1,rfl,g1⟩⟩:=h
 exact ⟨v1,rfl,g1⟩
theorem k39_mk (w:World) (x:S39) {A1:Option Addr} {c1:Nat} (l1:x.f1.length≤c1) (g1:(Kd.int .u8).C w A1 x.f1.length x.f1):k39.K w x [.int .u64 x.f0,.slice A1 x.f1.length c1]:=⟨[.int .u64 x.f0],[.slice A1 x.f1.length c1],rfl,rfl,⟨A1,c1,rfl,l1,g1⟩⟩
theorem k39_mkM (w:World) (base:Nat) (ok:Nat→Prop) (x:S39) {v1:Value} (g1:(Kd.int .u8).R 5 w base ok v1 x.f1):k39.M w base ok x [.int .u64 x.f0,v1]:=⟨[.int .u64 x.f0],[v1],rfl,rfl,⟨v1,rfl,g1⟩⟩
theorem k39_openF {W:World} {ok:Nat→Prop} {x:S39} {cs:List Value} (h:Kd.FK k39 W ok x cs):∃ A1 c1,cs=[.int .u64 x.f0,.slice A1 x.f1.length c1]∧x.f1.length≤c1∧Kd.F (Kd.int .u8) W ok A1 x.f1.length x.f1:=by
 obtain ⟨A1,c1,rfl,l1,_⟩:=k39_open (Kd.FK_now h)
 exact ⟨A1,c1,rfl,l1,(fun W' hW=>by obtain ⟨A1_,c1_,he,l1_,g1_⟩:=k39_open (h W' hW);injection (Option.some.inj (show some (Value.slice A1 x.f1.length c1)=some (Value.slice A1_ x.f1.length c1_) from congrArg (fun l=>l[1]?) he)) with ha_ _ _;rw [ha_];exact g1_)⟩
def rd_T39 (xs:List S39) (i:Int):S39:=xs.getD i.toNat z39
theorem at_T39 {w:World} {A:Option Addr} {n:Nat} {xs:List S39} (h:Kd.C k39 w A n xs) (i:Int) (h0:0≤i) (h1:i<n):∃ ad A1 c1,A=some ad∧w.cell? (ad.add (i.toNat*2))=some (.int .u64 (rd_T39 xs i).f0)∧w.cell? ⟨(ad.add (i.toNat*2)).block,(ad.add (i.toNat*2)).off+1,none⟩=some (.slice A1 (rd_T39 xs i).f1.length c1)∧(rd_T39 xs i).f1.length≤c1∧(Kd.int .u8).C w A1 (rd_T39 xs i).f1.length (rd_T39 xs i).f1:=by
 obtain ⟨ad,c,e,_,hK,hc0⟩:=Kd.C_get h z39 i h0 h1
 have hc:∀ j u,c[j]?=some u→w.cell? (ad.add (i.toNat*2+j))=some u:=hc0
 obtain ⟨A1,c1,rfl,l1,g1⟩:=k39_open hK
 exact ⟨ad,A1,c1,e,hc 0 _ rfl,by rw [← add_field _ _ 1 (by omega)];exact hc 1 _ rfl,l1,g1⟩
end Go.Proofs.Ythmeojeehemlaaa.PM
end
section
namespace Go.Proofs.Ythmeojeehemlaaa.PM
open Go.RowKit Go.Proofs.YthmeojeehemlaaaW.PrintWords Go.Proofs.YthmeojeehemlaaaW.PrintLast Go.Proofs.YthmeojeehemlaaaW.PrintMore
attribute [local go_sem] isSome_setCell max2_int min2_int max_two min_two max_three min_three max_four min_four
def IsS108 (w0 W:World) (g:Nat) (f0:Int) (f1:List Int):Prop:=∃ A1 c1,W.heap[g]?=some (.cells #[.int .u64 f0,.slice A1 f1.length c1] 108 (0,0))∧w0.heap.size≤g∧Kd.C (Kd.int .u8) w0 A1 f1.length f1
theorem IsS108.grown {w0 W:World} {g:Nat} {f0:Int} {f1:List Int} {W1:World} {row:Option Nat} (h:IsS108 w0 W g f0 f1) (hw:W.grownBy W1 row) (hne:some g≠row):IsS108 w0 W1 g f0 f1:=by
 obtain ⟨A1,c1,hb,hg,hr1⟩:=h
 exact ⟨A1,c1,blk_grown hb hw hne,hg,hr1⟩
theorem IsS108.below {w0 W:World} {g:Nat} {f0:Int} {f1:List Int} {W1:World} (h:IsS108 w0 W g f0 f1) (hw:Below W.heap.size W W1):IsS108 w0 W1 g f0 f1:=h.grown (grown_of_below hw none) (by simp)
theorem IsS108.alloc {w0 W:World} {g:Nat} {f0:Int} {f1:List Int} (h:IsS108 w0 W g f0 f1) (o:Obj):IsS108 w0 (W.alloc o) g f0 f1:=h.below (below_alloc (Below.refl _ _) o)
theorem IsS108.drewN {w0 W:World} {g:Nat} {f0:Int} {f1:List Int} (h:IsS108 w0 W g f0 f1) (m:Nat):IsS108 w0 (W.drewN m) g f0 f1:=h
theorem IsS108.drew {w0 W:World} {g:Nat} {f0:Int} {f1:List Int} (h:IsS108 w0 W g f0 f1):IsS108 w0 W.drew g f0 f1:=h
theorem IsS108.lt {w0 W:World} {g:Nat} {f0:Int} {f1:List Int} (h:IsS108 w0 W g f0 f1):g<W.heap.size:=by
 obtain ⟨A1,c1,hb,hg,hr1⟩:=h
 exact blk_lt hb
theorem cellS108_0 {W:World} {g:Nat} {A1:Option Addr} {c1:Nat} {f0:Int} {f1:List Int} (h:W.heap[g]?=some (.cells #[.int .u64 f0,.slice A1 f1.length c1] 108 (0,0))):W.cell? ⟨g,0,none⟩=some (.int .u64 f0):=(blk_cell h 0).trans rfl
theorem cellS108_1 {W:World} {g:Nat} {A1:Option Addr} {c1:Nat} {f0:Int} {f1:List Int} (h:W.heap[g]?=some (.cells #[.int .u64 f0,.slice A1 f1.length c1] 108 (0,0))):W.cell? ⟨g,1,none⟩=some (.slice A1 f1.length c1):=(blk_cell h 1).trans rfl
def memory_region_last.f (s0_0:Int) (s0_1:List Int):Option (Int × Int):=some (IntKind.u64.wrap ((IntKind.u64.wrap (s0_0+(IntKind.u64.wrap ((s0_1.length:Int))))) - 1),s0_0)
def spindlelaw0_CopyBytes.f (l0:List Int):Option (List Int):=(some (([]:List Int):List Int)).bind fun y101=>(if y101.length+l0.length<140737488355328 then (some (y101 ++ l0)) else (none))
theorem spindlelaw0_CopyBytes.calls (A0:Option Addr) (c0:Nat) (l0:List Int) (r:List Int) (w:World) (hr0:Kd.C (Kd.int .u8) w A0 l0.length l0) (hc0:l0.length≤c0) (h:spindlelaw0_CopyBytes.f l0=some r) :
  Calls Try.prog 21 #[.slice A0 l0.length c0] w fun e w'=>∃ v0_:Value,e=.returned (v0_)∧Kd.R (Kd.int .u8) 5 w' w.heap.size (fun _=>True) v0_ r∧Below w.heap.size w w':=by
 have HR0:=Aside0.mk hr0
 have HC0:=Aside0.mk hc0
 clear hr0 hc0
 have HB:=Aside0.mk (Below.refl w.heap.size w)
 have H:((some (([]:List Int):List Int)).bind fun y101=>(if y101.length+l0.length<140737488355328 then (some (y101 ++ l0)) else (none)))=some r:=h
 clear h
 obtain ⟨y101,hy101⟩:∃ y_:List Int,y_=(([]:List Int)):=⟨_,rfl⟩
 replace H:(if y101.length+l0.length<140737488355328 then (some (y101 ++ l0)) else (none))=some r:=by first|(rw [hy101];with_reducible exact H)|(have H2_:=(Option.bind_some _ _).symm.trans H;rw [hy101];with_reducible exact H2_)|(have H2_:=(Option.bind_some _ _).symm.trans H;with_reducible exact H2_)|with_reducible exact H|(rw [hy101];exact H)|exact H
 have Ny101:=Aside0.mk hy101
 clear hy101
 by_cases c2:y101.length+l0.length<140737488355328
 ·rw [if_pos c2] at H
  have LMc2:=Aside0.mk c2
  clear c2
  obtain ⟨y104,hy104⟩:∃ y_:List Int,y_=(y101 ++ l0):=⟨_,rfl⟩
  replace H:(some y104)=some r:=by first|(rw [hy104];with_reducible exact H)|(have H2_:=(Option.bind_some _ _).symm.trans H;rw [hy104];with_reducible exact H2_)|(have H2_:=(Option.bind_some _ _).symm.trans H;with_reducible exact H2_)|with_reducible exact H|(rw [hy104];exact H)|exact H
  have Ny104:=Aside0.mk hy104
  clear hy104
  obtain rfl:=Option.some.inj H
  go_enter Try.func21,Try.ntmps21
  go_wp2_with (first|((with_reducible refine gate_dst (N:=3) rfl ?_);refine Kd.R_lit (Kd.int .u8) _ 5 ?hg (N:=3) ?hd (xs:=([]:List Int)) (inner:=[]) (ok:=fun _=>True) (okp:=fun _=>True) ?hr ?hp (fun _ hk=>hk) trivial (Below.refl _ _) (Nat.le_refl _) (by simp) ?_;(case hd=>rfl);(case hg=>rfl);(case hr=>first|(go_simp;done)|(go_simp;rfl));(case hp=>exact (Reps.none _ _));intro v102 w3 ho4 hb hg_ hnew_;clear hg_ hnew_;(first|rw [← Ny101.out] at ho4|(simp only [Int.reduceToNat] at ho4;rw [← Ny101.out] at ho4));have n0_:=Aside0.mk (Kd.R_lower ho4 (below_size (by repeat (first|(with_reducible first|exact HB.out|apply below_alloc|apply pw_below_drewN|apply below_drew1)|exact HB.out))));have n1_:=Aside0.mk (below_step (by repeat (first|(with_reducible first|exact HB.out|apply below_alloc|apply pw_below_drewN|apply below_drew1)|exact HB.out)) hb);clear HB;have HO103:=n0_;have HB:=n1_;clear n0_ n1_;clear hb ho4)|((with_reducible refine gate_builtin (b:=.append) (xs:=#[.tmp 3,.tmp 4]) rfl ?_);at_builtin;refine Kd.R_append_rows (Kd.int .u8) (w0:=w) w.heap.size rfl (.tmp 3) (.tmp 4) 37 5 (.int .u8 0) 1 rfl Try.underlying37 info5 rfl (by decide) (by omega) v102 y101 l0 _ _ _ (fun _=>True) (fun _=>False) rfl rfl ?aO ?aR (fun _ _ h=>h) (fun _ h=>h.elim) ?aF ?aB ?aS ?aL ?_;(case aR=>repeat (first|exact (Kd.C_below HR0.out HB.out)|(with_reducible refine Kd.C_alloc ?_ _)|(with_reducible refine Kd.C_drewN ?_ _)|(with_reducible refine Kd.C_drew ?_)));(case aB=>exact (by repeat (first|(with_reducible first|exact HB.out|apply below_alloc|apply pw_below_drewN|apply below_drew1)|exact HB.out)));(case aF=>exact (fun _ _=>trivial));(case aO=>exact (by (with_reducible repeat (first|apply Kd.R_alloc|apply Kd.R_drewN|apply Kd.R_drew));exact HO103.out));(case aS=>exact (below_size (by repeat (first|(with_reducible first|exact HB.out|apply below_alloc|apply pw_below_drewN|apply below_drew1)|exact HB.out))));(case aL=>have:=LMc2.out;omega);intro v105 w5 ho hb hg hat;rw [← Ny104.out] at ho;have n0_:=Aside0.mk (hb);have n1_:=Aside0.mk (ho);clear HB;clear HO103;have HB:=n0_;have HO106:=n1_;clear n0_ n1_;clear ho hb hg hat))
  go_ret
  exact ⟨_,by first|rfl|(simp [errW_none,errW_some] <;> rfl)|(simp [*,errW_none,errW_some] <;> rfl),by (with_reducible repeat (first|apply Kd.R_alloc|apply Kd.R_drewN|apply Kd.R_drew));exact HO106.out,by repeat (first|(with_reducible first|exact HB.out|apply below_alloc|apply pw_below_drewN|apply below_drew1)|exact HB.out)⟩
 ·rw [if_neg c2] at H
  exact absurd H (by simp)
def spindlelaw20_CopyRegions.l0:Nat→List (S39)→List (S39)→Int→Option ((List (S39)))
 | 0,_,_,_=>none
 | k+1,x0,x3,x4=>if x4<(x0.length:Int) then (if 0≤x4 then ((spindlelaw0_CopyBytes.f ((rd_T39 x0 x4).f1)).bind fun t109=>(if x3.length<4398046511104 then (spindlelaw20_CopyRegions.l0 k x0 (x3 ++ [(⟨(rd_T39 x0 x4).f0,t109⟩:S39)]) (wrap64 (x4+1))) else (none))) else (none)) else (some x3)
def spindlelaw20_CopyRegions.f (k:Nat) (l0:List (S39)):Option ((List (S39))):=spindlelaw20_CopyRegions.l0 k l0 ([]:List (S39)) 0
def spindlelaw20_CopyRegions.T5:Bool × List (List Nat × List Nat):=(true,[([],[]),([],[]),([],[]),([1,2],[1,2]),([3],[3]),([4],[4]),([],[]),([],[]),([6,7],[6,7]),([8],[8]),([9],[9]),([10],[10]),([5,11],[5,11]),([12],[12]),([0,13,11],[0,13]),([14,14,0,1,2,3,4,5,6,7,8,9,10,11,12,13,14],[0,14])])
def spindlelaw20_CopyRegions.B5:List Nat:=[0,0,0,6,14,30,0,0,192,448,960,1984,4094,8190,16383,32767]
theorem spindlelaw20_CopyRegions.tab5:rtab .any (opsOf Try.f8 5)=spindlelaw20_CopyRegions.T5:=by kernel_rfl
theorem spindlelaw20_CopyRegions.bits5:waitsOk spindlelaw20_CopyRegions.T5.2 spindlelaw20_CopyRegions.B5=true:=by kernel_rfl
theorem spindlelaw20_CopyRegions.calls (k:Nat) (A0:Option Addr) (c0:Nat) (l0:List (S39)) (r:List (S39)) (w:World) (hr0:Kd.C k39 w A0 l0.length l0) (hc0:l0.length≤c0) (h:spindlelaw20_CopyRegions.f k l0=some r) :
  Calls Try.prog 8 #[.slice A0 l0.length c0] w fun e w'=>∃ v0_:Value,e=.returned (v0_)∧Kd.S k39 39 w' w.heap.size (fun _=>True) v0_ r∧Below w.heap.size w w':=by
 have hu39:=Try.underlying39
 have HR0:=Aside0.mk hr0
 have HC0:=Aside0.mk hc0
 clear hr0 hc0
 have HB:=Aside0.mk (Below.refl w.heap.size w)
 have H:(spindlelaw20_CopyRegions.l0 k l0 ([]:List (S39)) 0)=some r:=h
 clear h
 have H':=Aside0.mk H
 clear H
 go_enter Try.func8,Try.ntmps8
 go_wp2
 go_loopg [3,4] k (fun kq v3 v4 w'=>∃ (x3_1:List (S39)) (x4_1:Int),v4=.int .i64 x4_1∧Aside0 (spindlelaw20_CopyRegions.l0 kq l0 x3_1 x4_1=some r)∧Aside0 (kq≤k)∧Aside0 (Kd.S k39 39 w' w.heap.size (fun _=>True) v3 x3_1)∧Aside0 (Below w.heap.size w w'))
 case atStart=>exact ⟨(([]:List (S39))),(0),(by first|rfl|(simp;done)|(simp [*];done)),H',⟨Nat.le_refl _⟩,⟨by first|exact Kd.S_nil _ _ _ _ _|exact Kd.N_nil _ _ _ _ _|exact Kd.V_nil _ _ _ _ _|exact Kd.Q_nil _ _ _ _ _|exact Kd.R_nil _ _ _ _ _⟩,⟨by repeat (first|(with_reducible first|exact HB.out|apply below_alloc|apply pw_below_drewN|apply below_drew1)|exact HB.out)⟩⟩
 case round =>
  clear H'
  obtain ⟨x3_1,x4_1,rfl,HA,HK1,HO_3,HB⟩:=hrel
  cases gk with
  | zero=>exact absurd HA.out (by simp [spindlelaw20_CopyRegions.l0])
  | succ k1 =>
   have H:=HA.out
   clear HA
   simp only [spindlelaw20_CopyRegions.l0] at H
   by_cases c2:x4_1<(l0.length:Int)
   ·rw [if_pos c2] at H
    have c2b0:decide (x4_1<(l0.length:Int))=true:=decide_eq_true c2
    clear c2
    by_cases c3:0≤x4_1
    ·rw [if_pos c3] at H
     have c3b0:decide (0≤x4_1)=true:=decide_eq_true c3
     clear c3
     replace H:=Option.bind_eq_some_iff.mp H
     obtain ⟨t109,A40,H⟩:=H
     replace H:(if x3_1.length<4398046511104 then (spindlelaw20_CopyRegions.l0 k1 l0 (x3_1 ++ [(⟨(rd_T39 l0 x4_1).f0,t109⟩:S39)]) (wrap64 (x4_1+1))) else (none))=some r:=H
     have A4:=Aside0.mk A40
     clear A40
     by_cases c5:x3_1.length<4398046511104
     ·rw [if_pos c5] at H
      have LMc5:=Aside0.mk c5
      clear c5
      obtain ⟨y112,hy112⟩:∃ y_:List (S39),y_=(x3_1 ++ [(⟨(rd_T39 l0 x4_1).f0,t109⟩:S39)]):=⟨_,rfl⟩
      replace H:(spindlelaw20_CopyRegions.l0 k1 l0 y112 (wrap64 (x4_1+1)))=some r:=by first|(rw [hy112];with_reducible exact H)|(have H2_:=(Option.bind_some _ _).symm.trans H;rw [hy112];with_reducible exact H2_)|(have H2_:=(Option.bind_some _ _).symm.trans H;with_reducible exact H2_)|with_reducible exact H|(rw [hy112];exact H)|exact H
      have Ny112:=Aside0.mk hy112
      clear hy112
      have H':=Aside0.mk H
      clear H
      try go_wp2
      have n0_:=Aside0.mk (Kd.S_drew HO_3.out)
      have n1_:=Aside0.mk (below_drew1 HB.out)
      clear HO_3 HB
      have HO_3:=n0_
      have HB:=n1_
      clear n0_ n1_
      have p107:0≤(x4_1:Int):=of_decide_eq_true (by first|(with_reducible assumption)|assumption)
      have q107:x4_1<(l0.length:Int):=of_decide_eq_true (by first|(with_reducible assumption)|assumption)
      obtain ⟨ad107,A107_1,c107_1,e107,hx107_0,hx107_1,hl107_1,hi107_1⟩:=at_T39 HR0.out x4_1 p107 q107
      have hw107_1:=hx107_1
      have hw107_0:=hx107_0
      cases e107
      replace hx107_0:=(HB.out.cell (World.block_lt_of_cell? w _ hx107_0)).trans hx107_0
      replace hx107_1:=(HB.out.cell (World.block_lt_of_cell? w _ hx107_1)).trans hx107_1
      have HR107_1:=Aside0.mk hi107_1
      have HC107_1:=Aside0.mk hl107_1
      clear hi107_1 hl107_1
      replace p107:=eq_true p107
      replace q107:=eq_true q107
      have p108:0≤(x4_1:Int):=of_decide_eq_true (by first|(with_reducible assumption)|assumption)
      have q108:x4_1<(l0.length:Int):=of_decide_eq_true (by first|(with_reducible assumption)|assumption)
      obtain ⟨ad108,A108_1,c108_1,e108,hx108_0,hx108_1,hl108_1,hi108_1⟩:=at_T39 HR0.out x4_1 p108 q108
      have hw108_1:=hx108_1
      have hw108_0:=hx108_0
      obtain rfl:ad107=ad108:=(by injection e108)
      replace hx108_0:=(HB.out.cell (World.block_lt_of_cell? w _ hx108_0)).trans hx108_0
      replace hx108_1:=(HB.out.cell (World.block_lt_of_cell? w _ hx108_1)).trans hx108_1
      have HR108_1:=Aside0.mk hi108_1
      have HC108_1:=Aside0.mk hl108_1
      clear hi108_1 hl108_1
      replace p108:=eq_true p108
      replace q108:=eq_true q108
      have ea_:=Option.some.inj (hx107_1.symm.trans hx108_1)
      injection ea_ with ea_ en_ ec_
      subst ea_
      subst ec_
      clear en_
      refine start_ (n:=16) (S:=fun w'=>w'.cell? (ad107.add ((x4_1).toNat*2))=some (.int .u64 ((rd_T39 l0 x4_1).f0))∧w'.cell? ⟨(ad107.add ((x4_1).toNat*2)).block,(ad107.add ((x4_1).toNat*2)).off+1,none⟩=some (.slice A107_1 ((rd_T39 l0 x4_1).f1).length c107_1)∧w'.cell? (ad107.add ((x4_1).toNat*2))=some (.int .u64 ((rd_T39 l0 x4_1).f0))∧w'.cell? ⟨(ad107.add ((x4_1).toNat*2)).block,(ad107.add ((x4_1).toNat*2)).off+1,none⟩=some (.slice A107_1 ((rd_T39 l0 x4_1).f1).length c107_1)) (ds:=[]) #[false,false,false,false,false,false,false,false,false,false,false,false,false,false,false,false] (by kernel_rfl) rfl rfl ⟨((HB.out.cell (World.block_lt_of_cell? w _ hw107_0)).trans hw107_0),((HB.out.cell (World.block_lt_of_cell? w _ hw107_1)).trans hw107_1),((HB.out.cell (World.block_lt_of_cell? w _ hw108_0)).trans hw108_0),((HB.out.cell (World.block_lt_of_cell? w _ hw108_1)).trans hw108_1)⟩ (fun hHeld=>?_);refine with_tabW spindlelaw20_CopyRegions.tab5 spindlelaw20_CopyRegions.bits5 (fun HT_ HW_=>?_)
      generalize wr.drew=w6 at HO_3 HB HR107_1 HR108_1 hx107_0 hx107_1 hx108_0 hx108_1 hHeld ⊢
      refine pure_ (i:=0) (N:=some 11) (v:=?_) (a':=?_) #[true,false,false,false,false,false,false,false,false,false,false,false,false,false,false,false] rfl rfl (any_of HT_.out (by kernel_rfl)) (fun _ _ _ h=>h) (Or.inl ⟨by rfl,?_⟩) ?_ ?_
      rotate_left
      ·intro w'
       go_simp
       with_reducible rfl
      rotate_left
      ·simp only [Act.put,List.setIfInBounds_toArray,List.set_cons_zero,List.set_cons_succ,i64_w,i32_w]
       rfl
      refine pure_ (i:=1) (N:=some 12) (v:=?_) (a':=?_) #[true,true,false,false,false,false,false,false,false,false,false,false,false,false,false,false] rfl rfl (any_of HT_.out (by kernel_rfl)) (fun _ _ _ h=>h) (Or.inl ⟨by rfl,?_⟩) ?_ ?_
      rotate_left
      ·intro w'
       go_simp
       with_reducible rfl
      rotate_left
      ·simp only [Act.put,List.setIfInBounds_toArray,List.set_cons_zero,List.set_cons_succ,i64_w,i32_w]
       rfl
      refine pure_ (i:=2) (N:=some 13) (v:=?_) (a':=?_) #[true,true,true,false,false,false,false,false,false,false,false,false,false,false,false,false] rfl rfl (any_of HT_.out (by kernel_rfl)) (fun _ _ _ h=>h) (Or.inl ⟨by rfl,?_⟩) ?_ ?_
      rotate_left
      ·intro w'
       go_simp
       with_reducible rfl
      rotate_left
      ·simp only [Act.put,List.setIfInBounds_toArray,List.set_cons_zero,List.set_cons_succ,i64_w,i32_w]
       rfl
      refine pure_ (i:=3) (N:=some 14) (v:=?_) (a':=?_) #[true,true,true,true,false,false,false,false,false,false,false,false,false,false,false,false] rfl rfl (any_of HT_.out (by kernel_rfl)) (fun _ _ _ h=>h) (Or.inl ⟨by rfl,?_⟩) ?_ ?_
      rotate_left
      ·intro w'
       go_simp
       with_reducible rfl
      rotate_left
      ·simp only [Act.put,List.setIfInBounds_toArray,List.set_cons_zero,List.set_cons_succ,i64_w,i32_w]
       rfl
      refine pure_ (i:=4) (N:=some 15) (v:=?_) (a':=?_) #[true,true,true,true,true,false,false,false,false,false,false,false,false,false,false,false] rfl rfl (any_of HT_.out (by kernel_rfl)) (fun _ _ _ h=>h) (Or.inl ⟨by rfl,?_⟩) ?_ ?_
      rotate_left
      ·intro w'
       go_simp
       with_reducible rfl
      rotate_left
      ·simp only [Act.put,List.setIfInBounds_toArray,List.set_cons_zero,List.set_cons_succ,i64_w,i32_w]
       rfl
      refine pure_ (i:=6) (N:=some 17) (v:=?_) (a':=?_) #[true,true,true,true,true,false,true,false,false,false,false,false,false,false,false,false] rfl rfl (any_of HT_.out (by kernel_rfl)) (fun _ _ _ h=>h) (Or.inl ⟨by rfl,?_⟩) ?_ ?_
      rotate_left
      ·intro w'
       go_simp
       with_reducible rfl
      rotate_left
      ·simp only [Act.put,List.setIfInBounds_toArray,List.set_cons_zero,List.set_cons_succ,i64_w,i32_w]
       rfl
      refine pure_ (i:=7) (N:=some 18) (v:=?_) (a':=?_) #[true,true,true,true,true,false,true,true,false,false,false,false,false,false,false,false] rfl rfl (any_of HT_.out (by kernel_rfl)) (fun _ _ _ h=>h) (Or.inl ⟨by rfl,?_⟩) ?_ ?_
      rotate_left
      ·intro w'
       go_simp
       with_reducible rfl
      rotate_left
      ·simp only [Act.put,List.setIfInBounds_toArray,List.set_cons_zero,List.set_cons_succ,i64_w,i32_w]
       rfl
      refine pure_ (i:=8) (N:=some 19) (v:=?_) (a':=?_) #[true,true,true,true,true,false,true,true,true,false,false,false,false,false,false,false] rfl rfl (any_of HT_.out (by kernel_rfl)) (fun _ _ _ h=>h) (Or.inl ⟨by rfl,?_⟩) ?_ ?_
      rotate_left
      ·intro w'
       go_simp
       with_reducible rfl
      rotate_left
      ·simp only [Act.put,List.setIfInBounds_toArray,List.set_cons_zero,List.set_cons_succ,i64_w,i32_w]
       rfl
      refine pure_ (i:=9) (N:=some 20) (v:=?_) (a':=?_) #[true,true,true,true,true,false,true,true,true,true,false,false,false,false,false,false] rfl rfl (any_of HT_.out (by kernel_rfl)) (fun _ _ _ h=>h) (Or.inl ⟨by rfl,?_⟩) ?_ ?_
      rotate_left
      ·intro w'
       go_simp
       with_reducible rfl
      rotate_left
      ·simp only [Act.put,List.setIfInBounds_toArray,List.set_cons_zero,List.set_cons_succ,i64_w,i32_w]
       rfl
      refine take_ (i:=5) (N:=some 16) (v:=?_) (a':=?_) #[true,true,true,true,true,true,true,true,true,true,false,false,false,false,false,false] rfl rfl (take_ofW HT_.out HW_.out (by kernel_rfl)) (fun _ _ _ h=>h) (Or.inl ⟨by rfl,?_⟩) hHeld ?_ ?_
      rotate_left
      ·rintro w' ⟨s0,s1,s2,s3⟩
       go_simp
       with_reducible rfl
      rotate_left
      ·simp only [Act.put,List.setIfInBounds_toArray,List.set_cons_zero,List.set_cons_succ,i64_w,i32_w]
       rfl
      refine take_ (i:=10) (N:=some 21) (v:=?_) (a':=?_) #[true,true,true,true,true,true,true,true,true,true,true,false,false,false,false,false] rfl rfl (take_ofW HT_.out HW_.out (by kernel_rfl)) (fun _ _ _ h=>h) (Or.inl ⟨by rfl,?_⟩) hHeld ?_ ?_
      rotate_left
      ·rintro w' ⟨s0,s1,s2,s3⟩
       go_simp
       with_reducible rfl
      rotate_left
      ·simp only [Act.put,List.setIfInBounds_toArray,List.set_cons_zero,List.set_cons_succ,i64_w,i32_w]
       rfl
      refine one_ (i:=11) (N:=some 22) #[true,true,true,true,true,true,true,true,true,true,true,true,false,false,false,false] rfl rfl (one_of HT_.out (by kernel_rfl)) (by decide) (fun K hK=>?_)
      refine goes_ Try.func21 (by kernel_rfl) rfl #[.slice A107_1 ((rd_T39 l0 x4_1).f1).length c107_1] (by rfl) rfl rfl (by (try simp only [List.map_toArray,List.map_cons,List.map_nil]);first|done|rfl|(simp only [List.length_drop,List.length_take];rfl)) ?_
      with_reducible refine (spindlelaw0_CopyBytes.calls _ _ ((rd_T39 l0 x4_1).f1) t109 _ ?side1 ?side2 A4.out).mono ?_
      (case side1=>repeat (first|exact (Kd.C_below HR108_1.out HB.out)|(with_reducible refine Kd.C_alloc ?_ _)|(with_reducible refine Kd.C_drewN ?_ _)|(with_reducible refine Kd.C_drew ?_)))
      (case side2=>exact HC108_1.out)
      rintro e w7 ⟨v110,rfl,ho0,hb⟩
      refine ⟨_,rfl,?_⟩
      have n0_:=Aside0.mk (Kd.S_elder' (by (with_reducible repeat (first|apply Kd.S_alloc|apply Kd.S_drewN|apply Kd.S_drew));exact HO_3.out) (Kd.R_base ho0) hb)
      have n1_:=Aside0.mk (Kd.R_lower ho0 (below_size (by repeat (first|(with_reducible first|exact HB.out|apply below_alloc|apply pw_below_drewN|apply below_drew1)|exact HB.out))))
      have n2_:=Aside0.mk (below_step (by repeat (first|(with_reducible first|exact HB.out|apply below_alloc|apply pw_below_drewN|apply below_drew1)|exact HB.out)) hb)
      clear HO_3 HB
      have HO_3:=n0_
      have HO111:=n1_
      have HB:=n2_
      clear n0_ n1_ n2_
      (try clear hb)
      (try clear hb2)
      (try clear hk)
      (try clear hi)
      (try clear ho0)
      obtain ⟨Ao8,co8,eo8⟩:=Kd.R_slice HO111.out
      (first|subst eo8|(injection eo8 with f1_ f2_ f3_;have f4_:=f1_.symm;have f5_:=f3_.symm;clear f1_ f2_ f3_;subst f4_;subst f5_))
      refine hK.out _ _ ⟨((HB.out.cell (World.block_lt_of_cell? w _ hw107_0)).trans hw107_0),((HB.out.cell (World.block_lt_of_cell? w _ hw107_1)).trans hw107_1),((HB.out.cell (World.block_lt_of_cell? w _ hw108_0)).trans hw108_0),((HB.out.cell (World.block_lt_of_cell? w _ hw108_1)).trans hw108_1)⟩ (fun hHeld=>?_)
      clear hK K
      refine norm_ (a':=?_) ?_ ?_
      rotate_left
      ·show Act.put _ (some 22) _=_
       simp only [Act.put,List.setIfInBounds_toArray,List.set_cons_zero,List.set_cons_succ,i64_w,i32_w]
       rfl
      refine pure_ (i:=12) (N:=some 23) (v:=?_) (a':=?_) #[true,true,true,true,true,true,true,true,true,true,true,true,true,false,false,false] rfl rfl (any_of HT_.out (by kernel_rfl)) (fun _ _ _ h=>h) (Or.inl ⟨by rfl,?_⟩) ?_ ?_
      rotate_left
      ·intro w'
       go_simp
       with_reducible rfl
      rotate_left
      ·simp only [Act.put,List.setIfInBounds_toArray,List.set_cons_zero,List.set_cons_succ,i64_w,i32_w]
       rfl
      refine one_ (i:=13) (N:=some 24) #[true,true,true,true,true,true,true,true,true,true,true,true,true,true,false,false] rfl rfl (one_of HT_.out (by kernel_rfl)) (by decide) (fun K hK=>?_)
      refine value_ (w1:=?_) (v:=?_) (by rfl) rfl ?_ ?_
      rotate_left 2
      ·go_simp
       constructor
       ·rfl
       ·rfl
      refine hK.out _ _ ⟨(World.cell?_alloc_lt _ _ _ (World.block_lt_of_cell? _ _ (((HB.out.cell (World.block_lt_of_cell? w _ hw107_0)).trans hw107_0)))).trans (((HB.out.cell (World.block_lt_of_cell? w _ hw107_0)).trans hw107_0)),(World.cell?_alloc_lt _ _ _ (World.block_lt_of_cell? _ _ (((HB.out.cell (World.block_lt_of_cell? w _ hw107_1)).trans hw107_1)))).trans (((HB.out.cell (World.block_lt_of_cell? w _ hw107_1)).trans hw107_1)),(World.cell?_alloc_lt _ _ _ (World.block_lt_of_cell? _ _ (((HB.out.cell (World.block_lt_of_cell? w _ hw108_0)).trans hw108_0)))).trans (((HB.out.cell (World.block_lt_of_cell? w _ hw108_0)).trans hw108_0)),(World.cell?_alloc_lt _ _ _ (World.block_lt_of_cell? _ _ (((HB.out.cell (World.block_lt_of_cell? w _ hw108_1)).trans hw108_1)))).trans (((HB.out.cell (World.block_lt_of_cell? w _ hw108_1)).trans hw108_1))⟩ (fun hHeld=>?_)
      clear hK K
      refine norm_ (a':=?_) ?_ ?_
      rotate_left
      ·show Act.put _ (some 24) _=_
       simp only [Act.put,List.setIfInBounds_toArray,List.set_cons_zero,List.set_cons_succ,i64_w,i32_w]
       rfl
      refine one_ (i:=14) (N:=some 25) #[true,true,true,true,true,true,true,true,true,true,true,true,true,true,true,false] rfl rfl (one_of HT_.out (by kernel_rfl)) (by decide) (fun K hK=>?_)
      refine Kd.S_append_step k39 (w0:=w) w.heap.size (by rfl) (.tmp 11) (.tmp 24) 22 39 (.agg #[(.int .u64 0),(.slice none 0 0)]) 32 rfl Try.underlying22 info39 rfl (by decide) (by omega) u3 x3_1 (⟨(rd_T39 l0 x4_1).f0,t109⟩:S39) [.int .u64 ((rd_T39 l0 x4_1).f0),.slice Ao8 t109.length co8] (fun _=>True) (fun k_=>some k_=(.slice Ao8 t109.length co8:Value).ownBlock) rfl rfl ?aP (fun k_ hk_=>((Kd.R_mono (ok':=fun k_=>((fun _=>True)) k_∧some k_≠(u3:Value).ownBlock) (Kd.R_apart' (HO111.out) (Kd.S_typed HO_3.out) (by decide)) (fun k_ hk=>⟨trivial,hk.2⟩))).1 k_ hk_.symm) ?aF ?aO ?aB ?aS ?aL ?_
      (case aP=>exact k39_mkM _ _ _ (⟨(rd_T39 l0 x4_1).f0,t109⟩:S39) (Kd.R_mono (Kd.R_tight rfl (Kd.R_mono (ok':=fun k_=>((fun _=>True)) k_∧some k_≠(u3:Value).ownBlock) (Kd.R_apart' (HO111.out) (Kd.S_typed HO_3.out) (by decide)) (fun k_ hk=>⟨trivial,hk.2⟩))) (fun _ h_=>h_)))
      (case aB=>exact (by repeat (first|(with_reducible first|exact HB.out|apply below_alloc|apply pw_below_drewN|apply below_drew1)|exact HB.out)))
      (case aF=>exact (fun _ _=>trivial))
      (case aO=>exact (by (with_reducible repeat (first|apply Kd.S_alloc|apply Kd.S_drewN|apply Kd.S_drew));exact Kd.S_mono HO_3.out (fun k_ hk=>⟨trivial,fun e_=>hk.2 e_⟩)))
      (case aS=>exact (below_size (by repeat (first|(with_reducible first|exact HB.out|apply below_alloc|apply pw_below_drewN|apply below_drew1)|exact HB.out))))
      (case aL=>have:=LMc5.out;omega)
      intro v113 w9 ho hb hg hat
      rw [← Ny112.out] at ho
      have n0_:=Aside0.mk (hb)
      have n1_:=Aside0.mk (ho)
      clear HB HO_3 HO111
      have HB:=n0_
      have HO114:=n1_
      clear n0_ n1_ ho hb hg hat
      refine hK.out _ _ ⟨((HB.out.cell (World.block_lt_of_cell? w _ hw107_0)).trans hw107_0),((HB.out.cell (World.block_lt_of_cell? w _ hw107_1)).trans hw107_1),((HB.out.cell (World.block_lt_of_cell? w _ hw108_0)).trans hw108_0),((HB.out.cell (World.block_lt_of_cell? w _ hw108_1)).trans hw108_1)⟩ (fun hHeld=>?_)
      clear hK K
      refine norm_ (a':=?_) ?_ ?_
      rotate_left
      ·show Act.put _ (some 25) _=_
       simp only [Act.put,List.setIfInBounds_toArray,List.set_cons_zero,List.set_cons_succ,i64_w,i32_w]
       rfl
      refine pure_ (i:=15) (N:=some 3) (v:=?_) (a':=?_) #[true,true,true,true,true,true,true,true,true,true,true,true,true,true,true,true] rfl rfl (any_of HT_.out (by kernel_rfl)) (fun _ _ _ h=>h) (Or.inl ⟨by rfl,?_⟩) ?_ ?_
      rotate_left
      ·intro w'
       go_simp
       with_reducible rfl
      rotate_left
      ·simp only [Act.put,List.setIfInBounds_toArray,List.set_cons_zero,List.set_cons_succ,i64_w,i32_w]
       rfl
      refine done_ (done_of HT_.out (by kernel_rfl)) ?_
      try go_wp2
      go_roundg k1
      case measure=>have:=HK1.out;omega
      case rel=>exact ⟨(y112),(wrap64 (x4_1+1)),(by first|rfl|(simp;done)|(simp [*];done)),H',⟨by have:=HK1.out;omega⟩,⟨by (with_reducible repeat (first|apply Kd.S_alloc|apply Kd.S_drewN|apply Kd.S_drew));exact HO114.out⟩,⟨by repeat (first|(with_reducible first|exact HB.out|apply below_alloc|apply pw_below_drewN|apply below_drew1)|exact HB.out)⟩⟩
     ·rw [if_neg c5] at H
      exact absurd H (by simp)
    ·rw [if_neg c3] at H
     exact absurd H (by simp)
   ·rw [if_neg c2] at H
    have c2b0:decide (x4_1<(l0.length:Int))=false:=decide_eq_false c2
    clear c2
    obtain rfl:=Option.some.inj H
    go_wp2
    go_ret
    exact ⟨_,by first|rfl|(simp [errW_none,errW_some] <;> rfl)|(simp [*,errW_none,errW_some] <;> rfl),by (with_reducible repeat (first|apply Kd.S_alloc|apply Kd.S_drewN|apply Kd.S_drew));exact HO_3.out,by repeat (first|(with_reducible first|exact HB.out|apply below_alloc|apply pw_below_drewN|apply below_drew1)|exact HB.out)⟩
def memory_bytes.f (a0:Int):Option (Int):=if a0=8 then (some (wrap64 (Int.tdiv a0 8))) else (if a0=16 then (some (wrap64 (Int.tdiv a0 8))) else (if a0=32 then (some (wrap64 (Int.tdiv a0 8))) else (some 8)))
theorem memory_bytes.calls (a0:Int) (r:Int) (w:World) (h:memory_bytes.f a0=some r) :
  Calls Try.prog 24 #[.int .i64 a0] w fun e w'=>e=.returned (.int .i64 r)∧Drawn0 w w':=by
 have H:(if a0=8 then (some (wrap64 (Int.tdiv a0 8))) else (if a0=16 then (some (wrap64 (Int.tdiv a0 8))) else (if a0=32 then (some (wrap64 (Int.tdiv a0 8))) else (some 8))))=some r:=h
 clear h
 by_cases c2:a0=8
 ·rw [if_pos c2] at H
  have c2b0:(a0 == 8)=true:=beq_iff_eq.mpr c2
  have c2b1:(a0 != 8)=false:=bne_eq_false_iff_eq.mpr c2
  clear c2
  obtain rfl:=Option.some.inj H
  go_enter Try.func24,Try.ntmps24
  go_wp2
  go_ret
  exact ⟨by first|rfl|(simp;done)|(simp [*];done),by repeat (first|exact Drawn0.refl _|apply Drawn0.step)⟩
 ·rw [if_neg c2] at H
  have c2b0:(a0 == 8)=false:=beq_eq_false_iff_ne.mpr c2
  have c2b1:(a0 != 8)=true:=bne_iff_ne.mpr c2
  by_cases c3:a0=16
  ·rw [if_pos c3] at H
   have c3b0:(a0 == 16)=true:=beq_iff_eq.mpr c3
   have c3b1:(a0 != 16)=false:=bne_eq_false_iff_eq.mpr c3
   clear c3
   obtain rfl:=Option.some.inj H
   go_enter Try.func24,Try.ntmps24
   go_wp2
   go_ret
   exact ⟨by first|rfl|(simp;done)|(simp [*];done),by repeat (first|exact Drawn0.refl _|apply Drawn0.step)⟩
  ·rw [if_neg c3] at H
   have c3b0:(a0 == 16)=false:=beq_eq_false_iff_ne.mpr c3
   have c3b1:(a0 != 16)=true:=bne_iff_ne.mpr c3
   by_cases c4:a0=32
   ·rw [if_pos c4] at H
    have c4b0:(a0 == 32)=true:=beq_iff_eq.mpr c4
    have c4b1:(a0 != 32)=false:=bne_eq_false_iff_eq.mpr c4
    clear c4
    obtain rfl:=Option.some.inj H
    go_enter Try.func24,Try.ntmps24
    go_wp2
    go_ret
    exact ⟨by first|rfl|(simp;done)|(simp [*];done),by repeat (first|exact Drawn0.refl _|apply Drawn0.step)⟩
   ·rw [if_neg c4] at H
    have c4b0:(a0 == 32)=false:=beq_eq_false_iff_ne.mpr c4
    have c4b1:(a0 != 32)=true:=bne_iff_ne.mpr c4
    obtain rfl:=Option.some.inj H
    go_enter Try.func24,Try.ntmps24
    go_wp2
    go_ret
    exact ⟨by first|rfl|(simp;done)|(simp [*];done),by repeat (first|exact Drawn0.refl _|apply Drawn0.step)⟩
def ones (b j:Nat):Int:=((2 ^ (b - j) - 1:Nat):Int)
theorem ones_half (b j:Nat) (h:j<b):ones b j / 2=ones b (j+1):=by
 unfold ones
 have e:2 ^ (b - j)=2*2 ^ (b - (j+1)):=by rw [← Nat.pow_succ'];congr 1;omega
 have p:0<2 ^ (b - (j+1)):=Nat.two_pow_pos _
 rw [e];omega
theorem ones_some (b j:Nat) (h:j<b):(ones b j != 0)=true:=by
 unfold ones
 have e:2 ^ (b - j)=2*2 ^ (b - (j+1)):=by rw [← Nat.pow_succ'];congr 1;omega
 have p:0<2 ^ (b - (j+1)):=Nat.two_pow_pos _
 rw [bne_iff_ne];omega
theorem ones_none (b:Nat):(ones b b != 0)=false:=by
 unfold ones;simp
theorem ones_at8:bits .xor .u8 IntKind.u8.max 0=ones 8 0:=by decide +kernel
theorem ones_at16:bits .xor .u16 IntKind.u16.max 0=ones 16 0:=by decide +kernel
theorem ones_at32:bits .xor .u32 IntKind.u32.max 0=ones 32 0:=by decide +kernel
theorem ones_at64:bits .xor .u64 IntKind.u64.max 0=ones 64 0:=by decide +kernel
def word_bits_uint8.f:Option (Int):=some 8
theorem word_bits_uint8.calls (r:Int) (w:World) (h:word_bits_uint8.f=some r) :
  Calls Try.prog 85 #[] w fun e w'=>e=.returned (.int .u64 r)∧Drawn0 w w':=by
 obtain rfl:=Option.some.inj h
 clear h
 have hs:IntKind.u8.signed=false:=rfl
 go_enter Try.func85,Try.ntmps85
 go_wp2
 go_loop [1,2] (fun c x=>∃ j:Nat,j≤8∧c=.int .u64 (j:Int)∧x=.int .u8 (ones 8 j)) (fun c _=>8 - (intOf c).toNat)
 case atStart=>exact ⟨0,by omega,rfl,congrArg (Value.int .u8) ones_at8⟩
 case round =>
  obtain ⟨j,hj,rfl,rfl⟩:=hrel
  by_cases h8:j<8
  ·have hx:=ones_half 8 j h8
   have hn:=ones_some 8 j h8
   go_wp2
   exact ⟨⟨j+1,h8,by simp,rfl⟩,by simp [intOf];omega⟩
  ·obtain rfl:j=8:=by omega
   have hn:=ones_none 8
   go_wp2
   go_ret
   exact ⟨by simp,by repeat (first|exact Drawn0.refl _|apply Drawn0.step)⟩
def word_shl_uint8.f (a0:Int) (a1:Int):Option (Int):=(word_bits_uint8.f).bind fun t115=>(if t115=0 then (none) else (if 0≤(Int.tmod a1 t115) then (some (shl .u8 a0 (Int.tmod a1 t115))) else (none)))
theorem word_shl_uint8.calls (a0:Int) (a1:Int) (r:Int) (w:World) (h:word_shl_uint8.f a0 a1=some r) :
  Calls Try.prog 63 #[.int .u8 a0,.int .u64 a1] w fun e w'=>e=.returned (.int .u8 r)∧Drawn0 w w':=by
 have H:((word_bits_uint8.f).bind fun t115=>(if t115=0 then (none) else (if 0≤(Int.tmod a1 t115) then (some (shl .u8 a0 (Int.tmod a1 t115))) else (none))))=some r:=h
 clear h
 replace H:=Option.bind_eq_some_iff.mp H
 obtain ⟨t115,A30,H⟩:=H
 replace H:(if t115=0 then (none) else (if 0≤(Int.tmod a1 t115) then (some (shl .u8 a0 (Int.tmod a1 t115))) else (none)))=some r:=H
 have A3:=Aside0.mk A30
 clear A30
 by_cases c4:t115=0
 ·rw [if_pos c4] at H
  exact absurd H (by simp)
 ·rw [if_neg c4] at H
  have c4b0:(t115 == 0)=false:=beq_eq_false_iff_ne.mpr c4
  have c4b1:(t115 != 0)=true:=bne_iff_ne.mpr c4
  obtain ⟨ji5,hji5⟩:∃ j_:Int,(Int.tmod a1 t115)=j_:=⟨_,rfl⟩
  replace H:(if 0≤(ji5) then (some (shl .u8 a0 (ji5))) else (none))=some r:=by first|(rw [hji5] at H;exact H)|(simp only [hji5] at H ⊢;exact H)
  (try rw [hji5] at A3)
  by_cases c6:0≤(ji5)
  ·rw [if_pos c6] at H
   have c6b0:=eq_true c6
   have c6b1:decide (0≤(ji5))=true:=decide_eq_true c6
   clear c6
   obtain ⟨ji7,hji7⟩:∃ j_:Int,(shl .u8 a0 (ji5))=j_:=⟨_,rfl⟩
   replace H:(some ji7)=some r:=by first|(rw [hji7] at H;exact H)|(simp only [hji7] at H ⊢;exact H)
   (try rw [hji7] at A3)
   have hji7_:(IntKind.u8.wrap (a0*2 ^ min (ji5).toNat 8))=ji7:=hji7
   have hji7z:(ji5)≤8→(IntKind.u8.wrap (a0*2 ^ (ji5).toNat))=ji7:=shl_small hji7
   obtain rfl:=Option.some.inj H
   go_enter Try.func63,Try.ntmps63
   go_wp2_with (first|((with_reducible refine gate_callee (f:=85) rfl ?_);refine goesL_ (some 7) rfl rfl Try.func85 (by kernel_rfl) rfl #[] rfl (by (try simp only [List.map_toArray,List.map_cons,List.map_nil]);first|done|rfl|(simp only [List.length_drop,List.length_take];rfl)) ?_;(with_reducible refine (word_bits_uint8.calls  t115 _ A3.out).mono ?_);rintro e w' ⟨rfl,⟨nd,rfl⟩⟩;refine ⟨_,rfl,?_⟩))
   go_ret
   exact ⟨by first|rfl|(simp;done)|(simp only [← hji5,← hji7] <;> (first|rfl|simp))|(simp [*];done),by repeat (first|exact Drawn0.refl _|apply Drawn0.step)⟩
  ·rw [if_neg c6] at H
   exact absurd H (by simp)
def word_bits_uint16.f:Option (Int):=some 16
theorem word_bits_uint16.calls (r:Int) (w:World) (h:word_bits_uint16.f=some r) :
  Calls Try.prog 86 #[] w fun e w'=>e=.returned (.int .u64 r)∧Drawn0 w w':=by
 obtain rfl:=Option.some.inj h
 clear h
 have hs:IntKind.u16.signed=false:=rfl
 go_enter Try.func86,Try.ntmps86
 go_wp2
 go_loop [1,2] (fun c x=>∃ j:Nat,j≤16∧c=.int .u64 (j:Int)∧x=.int .u16 (ones 16 j)) (fun c _=>16 - (intOf c).toNat)
 case atStart=>exact ⟨0,by omega,rfl,congrArg (Value.int .u16) ones_at16⟩
 case round =>
  obtain ⟨j,hj,rfl,rfl⟩:=hrel
  by_cases h8:j<16
  ·have hx:=ones_half 16 j h8
   have hn:=ones_some 16 j h8
   go_wp2
   exact ⟨⟨j+1,h8,by simp,rfl⟩,by simp [intOf];omega⟩
  ·obtain rfl:j=16:=by omega
   have hn:=ones_none 16
   go_wp2
   go_ret
   exact ⟨by simp,by repeat (first|exact Drawn0.refl _|apply Drawn0.step)⟩
def word_shl_uint16.f (a0:Int) (a1:Int):Option (Int):=(word_bits_uint16.f).bind fun t116=>(if t116=0 then (none) else (if 0≤(Int.tmod a1 t116) then (some (shl .u16 a0 (Int.tmod a1 t116))) else (none)))
theorem word_shl_uint16.calls (a0:Int) (a1:Int) (r:Int) (w:World) (h:word_shl_uint16.f a0 a1=some r) :
  Calls Try.prog 64 #[.int .u16 a0,.int .u64 a1] w fun e w'=>e=.returned (.int .u16 r)∧Drawn0 w w':=by
 have H:((word_bits_uint16.f).bind fun t116=>(if t116=0 then (none) else (if 0≤(Int.tmod a1 t116) then (some (shl .u16 a0 (Int.tmod a1 t116))) else (none))))=some r:=h
 clear h
 replace H:=Option.bind_eq_some_iff.mp H
 obtain ⟨t116,A30,H⟩:=H
 replace H:(if t116=0 then (none) else (if 0≤(Int.tmod a1 t116) then (some (shl .u16 a0 (Int.tmod a1 t116))) else (none)))=some r:=H
 have A3:=Aside0.mk A30
 clear A30
 by_cases c4:t116=0
 ·rw [if_pos c4] at H
  exact absurd H (by simp)
 ·rw [if_neg c4] at H
  have c4b0:(t116 == 0)=false:=beq_eq_false_iff_ne.mpr c4
  have c4b1:(t116 != 0)=true:=bne_iff_ne.mpr c4
  obtain ⟨ji5,hji5⟩:∃ j_:Int,(Int.tmod a1 t116)=j_:=⟨_,rfl⟩
  replace H:(if 0≤(ji5) then (some (shl .u16 a0 (ji5))) else (none))=some r:=by first|(rw [hji5] at H;exact H)|(simp only [hji5] at H ⊢;exact H)
  (try rw [hji5] at A3)
  by_cases c6:0≤(ji5)
  ·rw [if_pos c6] at H
   have c6b0:=eq_true c6
   have c6b1:decide (0≤(ji5))=true:=decide_eq_true c6
   clear c6
   obtain ⟨ji7,hji7⟩:∃ j_:Int,(shl .u16 a0 (ji5))=j_:=⟨_,rfl⟩
   replace H:(some ji7)=some r:=by first|(rw [hji7] at H;exact H)|(simp only [hji7] at H ⊢;exact H)
   (try rw [hji7] at A3)
   have hji7_:(IntKind.u16.wrap (a0*2 ^ min (ji5).toNat 16))=ji7:=hji7
   have hji7z:(ji5)≤16→(IntKind.u16.wrap (a0*2 ^ (ji5).toNat))=ji7:=shl_small hji7
   obtain rfl:=Option.some.inj H
   go_enter Try.func64,Try.ntmps64
   go_wp2_with (first|((with_reducible refine gate_callee (f:=86) rfl ?_);refine goesL_ (some 7) rfl rfl Try.func86 (by kernel_rfl) rfl #[] rfl (by (try simp only [List.map_toArray,List.map_cons,List.map_nil]);first|done|rfl|(simp only [List.length_drop,List.length_take];rfl)) ?_;(with_reducible refine (word_bits_uint16.calls  t116 _ A3.out).mono ?_);rintro e w' ⟨rfl,⟨nd,rfl⟩⟩;refine ⟨_,rfl,?_⟩))
   go_ret
   exact ⟨by first|rfl|(simp;done)|(simp only [← hji5,← hji7] <;> (first|rfl|simp))|(simp [*];done),by repeat (first|exact Drawn0.refl _|apply Drawn0.step)⟩
  ·rw [if_neg c6] at H
   exact absurd H (by simp)
def word_bits_uint32.f:Option (Int):=some 32
theorem word_bits_uint32.calls (r:Int) (w:World) (h:word_bits_uint32.f=some r) :
  Calls Try.prog 87 #[] w fun e w'=>e=.returned (.int .u64 r)∧Drawn0 w w':=by
 obtain rfl:=Option.some.inj h
 clear h
 have hs:IntKind.u32.signed=false:=rfl
 go_enter Try.func87,Try.ntmps87
 go_wp2
 go_loop [1,2] (fun c x=>∃ j:Nat,j≤32∧c=.int .u64 (j:Int)∧x=.int .u32 (ones 32 j)) (fun c _=>32 - (intOf c).toNat)
 case atStart=>exact ⟨0,by omega,rfl,congrArg (Value.int .u32) ones_at32⟩
 case round =>
  obtain ⟨j,hj,rfl,rfl⟩:=hrel
  by_cases h8:j<32
  ·have hx:=ones_half 32 j h8
   have hn:=ones_some 32 j h8
   go_wp2
   exact ⟨⟨j+1,h8,by simp,rfl⟩,by simp [intOf];omega⟩
  ·obtain rfl:j=32:=by omega
   have hn:=ones_none 32
   go_wp2
   go_ret
   exact ⟨by simp,by repeat (first|exact Drawn0.refl _|apply Drawn0.step)⟩
def word_shl_uint32.f (a0:Int) (a1:Int):Option (Int):=(word_bits_uint32.f).bind fun t117=>(if t117=0 then (none) else (if 0≤(Int.tmod a1 t117) then (some (shl .u32 a0 (Int.tmod a1 t117))) else (none)))
theorem word_shl_uint32.calls (a0:Int) (a1:Int) (r:Int) (w:World) (h:word_shl_uint32.f a0 a1=some r) :
  Calls Try.prog 65 #[.int .u32 a0,.int .u64 a1] w fun e w'=>e=.returned (.int .u32 r)∧Drawn0 w w':=by
 have H:((word_bits_uint32.f).bind fun t117=>(if t117=0 then (none) else (if 0≤(Int.tmod a1 t117) then (some (shl .u32 a0 (Int.tmod a1 t117))) else (none))))=some r:=h
 clear h
 replace H:=Option.bind_eq_some_iff.mp H
 obtain ⟨t117,A30,H⟩:=H
 replace H:(if t117=0 then (none) else (if 0≤(Int.tmod a1 t117) then (some (shl .u32 a0 (Int.tmod a1 t117))) else (none)))=some r:=H
 have A3:=Aside0.mk A30
 clear A30
 by_cases c4:t117=0
 ·rw [if_pos c4] at H
  exact absurd H (by simp)
 ·rw [if_neg c4] at H
  have c4b0:(t117 == 0)=false:=beq_eq_false_iff_ne.mpr c4
  have c4b1:(t117 != 0)=true:=bne_iff_ne.mpr c4
  obtain ⟨ji5,hji5⟩:∃ j_:Int,(Int.tmod a1 t117)=j_:=⟨_,rfl⟩
  replace H:(if 0≤(ji5) then (some (shl .u32 a0 (ji5))) else (none))=some r:=by first|(rw [hji5] at H;exact H)|(simp only [hji5] at H ⊢;exact H)
  (try rw [hji5] at A3)
  by_cases c6:0≤(ji5)
  ·rw [if_pos c6] at H
   have c6b0:=eq_true c6
   have c6b1:decide (0≤(ji5))=true:=decide_eq_true c6
   clear c6
   obtain ⟨ji7,hji7⟩:∃ j_:Int,(shl .u32 a0 (ji5))=j_:=⟨_,rfl⟩
   replace H:(some ji7)=some r:=by first|(rw [hji7] at H;exact H)|(simp only [hji7] at H ⊢;exact H)
   (try rw [hji7] at A3)
   have hji7_:(IntKind.u32.wrap (a0*2 ^ min (ji5).toNat 32))=ji7:=hji7
   have hji7z:(ji5)≤32→(IntKind.u32.wrap (a0*2 ^ (ji5).toNat))=ji7:=shl_small hji7
   obtain rfl:=Option.some.inj H
   go_enter Try.func65,Try.ntmps65
   go_wp2_with (first|((with_reducible refine gate_callee (f:=87) rfl ?_);refine goesL_ (some 7) rfl rfl Try.func87 (by kernel_rfl) rfl #[] rfl (by (try simp only [List.map_toArray,List.map_cons,List.map_nil]);first|done|rfl|(simp only [List.length_drop,List.length_take];rfl)) ?_;(with_reducible refine (word_bits_uint32.calls  t117 _ A3.out).mono ?_);rintro e w' ⟨rfl,⟨nd,rfl⟩⟩;refine ⟨_,rfl,?_⟩))
   go_ret
   exact ⟨by first|rfl|(simp;done)|(simp only [← hji5,← hji7] <;> (first|rfl|simp))|(simp [*];done),by repeat (first|exact Drawn0.refl _|apply Drawn0.step)⟩
  ·rw [if_neg c6] at H
   exact absurd H (by simp)
def word_bits_uint64.f:Option (Int):=some 64
theorem word_bits_uint64.calls (r:Int) (w:World) (h:word_bits_uint64.f=some r) :
  Calls Try.prog 88 #[] w fun e w'=>e=.returned (.int .u64 r)∧Drawn0 w w':=by
 obtain rfl:=Option.some.inj h
 clear h
 have hs:IntKind.u64.signed=false:=rfl
 go_enter Try.func88,Try.ntmps88
 go_wp2
 go_loop [1,2] (fun c x=>∃ j:Nat,j≤64∧c=.int .u64 (j:Int)∧x=.int .u64 (ones 64 j)) (fun c _=>64 - (intOf c).toNat)
 case atStart=>exact ⟨0,by omega,rfl,congrArg (Value.int .u64) ones_at64⟩
 case round =>
  obtain ⟨j,hj,rfl,rfl⟩:=hrel
  by_cases h8:j<64
  ·have hx:=ones_half 64 j h8
   have hn:=ones_some 64 j h8
   go_wp2
   exact ⟨⟨j+1,h8,by simp,rfl⟩,by simp [intOf];omega⟩
  ·obtain rfl:j=64:=by omega
   have hn:=ones_none 64
   go_wp2
   go_ret
   exact ⟨by simp,by repeat (first|exact Drawn0.refl _|apply Drawn0.step)⟩
def word_shl_uint64.f (a0:Int) (a1:Int):Option (Int):=(word_bits_uint64.f).bind fun t118=>(if t118=0 then (none) else (if 0≤(Int.tmod a1 t118) then (some (shl .u64 a0 (Int.tmod a1 t118))) else (none)))
theorem word_shl_uint64.calls (a0:Int) (a1:Int) (r:Int) (w:World) (h:word_shl_uint64.f a0 a1=some r) :
  Calls Try.prog 66 #[.int .u64 a0,.int .u64 a1] w fun e w'=>e=.returned (.int .u64 r)∧Drawn0 w w':=by
 have H:((word_bits_uint64.f).bind fun t118=>(if t118=0 then (none) else (if 0≤(Int.tmod a1 t118) then (some (shl .u64 a0 (Int.tmod a1 t118))) else (none))))=some r:=h
 clear h
 replace H:=Option.bind_eq_some_iff.mp H
 obtain ⟨t118,A30,H⟩:=H
 replace H:(if t118=0 then (none) else (if 0≤(Int.tmod a1 t118) then (some (shl .u64 a0 (Int.tmod a1 t118))) else (none)))=some r:=H
 have A3:=Aside0.mk A30
 clear A30
 by_cases c4:t118=0
 ·rw [if_pos c4] at H
  exact absurd H (by simp)
 ·rw [if_neg c4] at H
  have c4b0:(t118 == 0)=false:=beq_eq_false_iff_ne.mpr c4
  have c4b1:(t118 != 0)=true:=bne_iff_ne.mpr c4
  obtain ⟨ji5,hji5⟩:∃ j_:Int,(Int.tmod a1 t118)=j_:=⟨_,rfl⟩
  replace H:(if 0≤(ji5) then (some (shl .u64 a0 (ji5))) else (none))=some r:=by first|(rw [hji5] at H;exact H)|(simp only [hji5] at H ⊢;exact H)
  (try rw [hji5] at A3)
  by_cases c6:0≤(ji5)
  ·rw [if_pos c6] at H
   have c6b0:=eq_true c6
   have c6b1:decide (0≤(ji5))=true:=decide_eq_true c6
   clear c6
   obtain ⟨ji7,hji7⟩:∃ j_:Int,(shl .u64 a0 (ji5))=j_:=⟨_,rfl⟩
   replace H:(some ji7)=some r:=by first|(rw [hji7] at H;exact H)|(simp only [hji7] at H ⊢;exact H)
   (try rw [hji7] at A3)
   have hji7_:(IntKind.u64.wrap (a0*2 ^ min (ji5).toNat 64))=ji7:=hji7
   have hji7z:(ji5)≤64→(IntKind.u64.wrap (a0*2 ^ (ji5).toNat))=ji7:=shl_small hji7
   obtain rfl:=Option.some.inj H
   go_enter Try.func66,Try.ntmps66
   go_wp2_with (first|((with_reducible refine gate_callee (f:=88) rfl ?_);refine goesL_ (some 7) rfl rfl Try.func88 (by kernel_rfl) rfl #[] rfl (by (try simp only [List.map_toArray,List.map_cons,List.map_nil]);first|done|rfl|(simp only [List.length_drop,List.length_take];rfl)) ?_;(with_reducible refine (word_bits_uint64.calls  t118 _ A3.out).mono ?_);rintro e w' ⟨rfl,⟨nd,rfl⟩⟩;refine ⟨_,rfl,?_⟩))
   go_ret
   exact ⟨by first|rfl|(simp;done)|(simp only [← hji5,← hji7] <;> (first|rfl|simp))|(simp [*];done),by repeat (first|exact Drawn0.refl _|apply Drawn0.step)⟩
  ·rw [if_neg c6] at H
   exact absurd H (by simp)
def word_Narrow.f (a0:Int) (a1:Int):Option (Int):=if a1=8 then ((word_shl_uint8.f ((a0) % 256) 0).bind fun t_=>some (IntKind.u64.wrap t_)) else if a1=16 then ((word_shl_uint16.f (IntKind.u16.wrap (a0)) 0).bind fun t_=>some (IntKind.u64.wrap t_)) else if a1=32 then ((word_shl_uint32.f ((a0) % 4294967296) 0).bind fun t_=>some (IntKind.u64.wrap t_)) else word_shl_uint64.f a0 0
theorem word_Narrow.calls (a0:Int) (a1:Int) (r:Int) (w:World) (h:word_Narrow.f a0 a1=some r) :
  Calls Try.prog 25 #[.int .u64 a0,.int .i64 a1] w fun e w'=>e=.returned (.int .u64 r)∧Drawn0 w w':=by
 unfold word_Narrow.f at h
 by_cases c8:a1=8
 ·rw [if_pos c8] at h
  have c8b:(a1 == 8)=true:=beq_iff_eq.mpr c8
  clear c8
  obtain ⟨t_,ht,h⟩:=Option.bind_eq_some_iff.mp h
  obtain rfl:=Option.some.inj h
  have ht':=Aside0.mk ht
  clear h ht
  go_enter Try.func25,Try.ntmps25
  go_wp2_with (first|(go_at_call 62;go_in)|(go_at_call 63;refine (word_shl_uint8.calls _ _ _ _ ht'.out).mono ?_;rintro e w' ⟨rfl,⟨nd,rfl⟩⟩))
  go_ret
  exact ⟨by first|rfl|(simp;done)|(simp [*];done),by repeat (first|exact Drawn0.refl _|apply Drawn0.step)⟩
 ·rw [if_neg c8] at h
  have c8b:(a1 == 8)=false:=beq_eq_false_iff_ne.mpr c8
  clear c8
  by_cases c16:a1=16
  ·rw [if_pos c16] at h
   have c16b:(a1 == 16)=true:=beq_iff_eq.mpr c16
   clear c16
   obtain ⟨t_,ht,h⟩:=Option.bind_eq_some_iff.mp h
   obtain rfl:=Option.some.inj h
   have ht':=Aside0.mk ht
   clear h ht
   go_enter Try.func25,Try.ntmps25
   go_wp2_with (first|(go_at_call 62;go_in)|(go_at_call 64;refine (word_shl_uint16.calls _ _ _ _ ht'.out).mono ?_;rintro e w' ⟨rfl,⟨nd,rfl⟩⟩))
   go_ret
   exact ⟨by first|rfl|(simp;done)|(simp [*];done),by repeat (first|exact Drawn0.refl _|apply Drawn0.step)⟩
  ·rw [if_neg c16] at h
   have c16b:(a1 == 16)=false:=beq_eq_false_iff_ne.mpr c16
   clear c16
   by_cases c32:a1=32
   ·rw [if_pos c32] at h
    have c32b:(a1 == 32)=true:=beq_iff_eq.mpr c32
    clear c32
    obtain ⟨t_,ht,h⟩:=Option.bind_eq_some_iff.mp h
    obtain rfl:=Option.some.inj h
    have ht':=Aside0.mk ht
    clear h ht
    go_enter Try.func25,Try.ntmps25
    go_wp2_with (first|(go_at_call 62;go_in)|(go_at_call 65;refine (word_shl_uint32.calls _ _ _ _ ht'.out).mono ?_;rintro e w' ⟨rfl,⟨nd,rfl⟩⟩))
    go_ret
    exact ⟨by first|rfl|(simp;done)|(simp [*];done),by repeat (first|exact Drawn0.refl _|apply Drawn0.step)⟩
   ·rw [if_neg c32] at h
    have c32b:(a1 == 32)=false:=beq_eq_false_iff_ne.mpr c32
    clear c32
    have ht':=Aside0.mk h
    clear h
    go_enter Try.func25,Try.ntmps25
    go_wp2_with (first|(go_at_call 62;go_in)|(go_at_call 66;refine (word_shl_uint64.calls _ _ _ _ ht'.out).mono ?_;rintro e w' ⟨rfl,⟨nd,rfl⟩⟩))
    go_ret
    exact ⟨by first|rfl|(simp;done)|(simp [*];done),by repeat (first|exact Drawn0.refl _|apply Drawn0.step)⟩
end Go.Proofs.Ythmeojeehemlaaa.PM
end
section
namespace Go.Proofs.Ythmeojeehemlaaa.PM
open Go.RowKit Go.Proofs.YthmeojeehemlaaaW.PrintWords Go.Proofs.YthmeojeehemlaaaW.PrintLast Go.Proofs.YthmeojeehemlaaaW.PrintMore
attribute [local go_sem] isSome_setCell max2_int min2_int max_two min_two max_three min_three max_four min_four
def memory_number_uint8.l0:Nat→List Int→Int→Int→Option (Int)
 | 0,_,_,_=>none
 | k+1,x0,x3,x4=>if x4≥0 then (if 0≤x4 then (if x4<(x0.length:Int) then (memory_number_uint8.l0 k x0 (Go.bits .or .u8 ((IntKind.u64.wrap ((IntKind.u64.wrap (x3))*256)) % 256) (rd x0 x4)) (wrap64 (x4 - 1))) else (none)) else (none)) else (some (IntKind.u64.wrap (x3)))
def memory_number_uint8.f (k:Nat) (l0:List Int):Option (Int):=memory_number_uint8.l0 k l0 0 (wrap64 ((l0.length:Int) - 1))
theorem memory_number_uint8.calls (k:Nat) (A0:Option Addr) (c0:Nat) (l0:List Int) (r:Int) (w:World) (hr0:Kd.C (Kd.int .u8) w A0 l0.length l0) (hc0:l0.length≤c0) (h:memory_number_uint8.f k l0=some r) :
  Calls Try.prog 30 #[.slice A0 l0.length c0] w fun e w'=>e=.returned (.int .u64 r)∧Drawn0 w w':=by
 have HR0:=Aside0.mk hr0
 have HC0:=Aside0.mk hc0
 clear hr0 hc0
 have H:(memory_number_uint8.l0 k l0 0 (wrap64 ((l0.length:Int) - 1)))=some r:=h
 clear h
 have H':=Aside0.mk H
 clear H
 go_enter Try.func30,Try.ntmps30
 go_wp2
 go_loopg [3,4] k (fun kq v3 v4 w'=>∃ (x3_1:Int) (x4_1:Int),v3=.int .u8 x3_1∧v4=.int .i64 x4_1∧Aside0 (memory_number_uint8.l0 kq l0 x3_1 x4_1=some r)∧Aside0 (kq≤k)∧Drawn0 w w')
 case atStart=>exact ⟨(0),(wrap64 ((l0.length:Int) - 1)),(by first|rfl|(simp;done)|(simp [*];done)),(by first|rfl|(simp;done)|(simp [*];done)),H',⟨Nat.le_refl _⟩,by repeat (first|exact Drawn0.refl _|apply Drawn0.step)⟩
 case round =>
  clear H'
  obtain ⟨x3_1,x4_1,rfl,rfl,HA,HK1,⟨m1,rfl⟩⟩:=hrel
  cases gk with
  | zero=>exact absurd HA.out (by simp [memory_number_uint8.l0])
  | succ k1 =>
   have H:=HA.out
   clear HA
   simp only [memory_number_uint8.l0] at H
   by_cases c2:x4_1≥0
   ·rw [if_pos c2] at H
    have c2b0:decide (0≤x4_1)=true:=decide_eq_true c2
    clear c2
    by_cases c3:0≤x4_1
    ·rw [if_pos c3] at H
     have c3b0:decide (0≤x4_1)=true:=decide_eq_true c3
     clear c3
     by_cases c4:x4_1<(l0.length:Int)
     ·rw [if_pos c4] at H
      have c4b0:decide (x4_1<(l0.length:Int))=true:=decide_eq_true c4
      clear c4
      have H':=Aside0.mk H
      clear H
      have p123:0≤(x4_1:Int):=of_decide_eq_true (by first|(with_reducible assumption)|assumption)
      have q123:x4_1<(l0.length:Int):=of_decide_eq_true (by first|(with_reducible assumption)|assumption)
      obtain ⟨ad123,e123,hx123_0⟩:=Kd.at_int HR0.out x4_1 p123 q123
      cases e123
      replace p123:=eq_true p123
      replace q123:=eq_true q123
      go_wp2
      go_roundg k1
      case measure=>have:=HK1.out;omega
      case rel=>exact ⟨(Go.bits .or .u8 ((IntKind.u64.wrap ((IntKind.u64.wrap (x3_1))*256)) % 256) (rd l0 x4_1)),(wrap64 (x4_1 - 1)),(by first|rfl|(simp;done)|(simp [*];done)),(by first|rfl|(simp;done)|(simp [*];done)),H',⟨by have:=HK1.out;omega⟩,by repeat (first|exact Drawn0.refl _|apply Drawn0.step)⟩
     ·rw [if_neg c4] at H
      exact absurd H (by simp)
    ·rw [if_neg c3] at H
     exact absurd H (by simp)
   ·rw [if_neg c2] at H
    have c2b0:decide (0≤x4_1)=false:=decide_eq_false c2
    clear c2
    obtain rfl:=Option.some.inj H
    go_wp2
    go_ret
    exact ⟨by first|rfl|(simp;done)|(simp [*];done),by repeat (first|exact Drawn0.refl _|apply Drawn0.step)⟩
def memory_number_uint16.l0:Nat→List Int→Int→Int→Option (Int)
 | 0,_,_,_=>none
 | k+1,x0,x3,x4=>if x4≥0 then (if 0≤x4 then (if x4<(x0.length:Int) then (memory_number_uint16.l0 k x0 (Go.bits .or .u16 (IntKind.u16.wrap (IntKind.u64.wrap ((IntKind.u64.wrap (x3))*256))) (IntKind.u16.wrap (rd x0 x4))) (wrap64 (x4 - 1))) else (none)) else (none)) else (some (IntKind.u64.wrap (x3)))
def memory_number_uint16.f (k:Nat) (l0:List Int):Option (Int):=memory_number_uint16.l0 k l0 0 (wrap64 ((l0.length:Int) - 1))
theorem memory_number_uint16.calls (k:Nat) (A0:Option Addr) (c0:Nat) (l0:List Int) (r:Int) (w:World) (hr0:Kd.C (Kd.int .u8) w A0 l0.length l0) (hc0:l0.length≤c0) (h:memory_number_uint16.f k l0=some r) :
  Calls Try.prog 31 #[.slice A0 l0.length c0] w fun e w'=>e=.returned (.int .u64 r)∧Drawn0 w w':=by
 have HR0:=Aside0.mk hr0
 have HC0:=Aside0.mk hc0
 clear hr0 hc0
 have H:(memory_number_uint16.l0 k l0 0 (wrap64 ((l0.length:Int) - 1)))=some r:=h
 clear h
 have H':=Aside0.mk H
 clear H
 go_enter Try.func31,Try.ntmps31
 go_wp2
 go_loopg [3,4] k (fun kq v3 v4 w'=>∃ (x3_1:Int) (x4_1:Int),v3=.int .u16 x3_1∧v4=.int .i64 x4_1∧Aside0 (memory_number_uint16.l0 kq l0 x3_1 x4_1=some r)∧Aside0 (kq≤k)∧Drawn0 w w')
 case atStart=>exact ⟨(0),(wrap64 ((l0.length:Int) - 1)),(by first|rfl|(simp;done)|(simp [*];done)),(by first|rfl|(simp;done)|(simp [*];done)),H',⟨Nat.le_refl _⟩,by repeat (first|exact Drawn0.refl _|apply Drawn0.step)⟩
 case round =>
  clear H'
  obtain ⟨x3_1,x4_1,rfl,rfl,HA,HK1,⟨m1,rfl⟩⟩:=hrel
  cases gk with
  | zero=>exact absurd HA.out (by simp [memory_number_uint16.l0])
  | succ k1 =>
   have H:=HA.out
   clear HA
   simp only [memory_number_uint16.l0] at H
   by_cases c2:x4_1≥0
   ·rw [if_pos c2] at H
    have c2b0:decide (0≤x4_1)=true:=decide_eq_true c2
    clear c2
    by_cases c3:0≤x4_1
    ·rw [if_pos c3] at H
     have c3b0:decide (0≤x4_1)=true:=decide_eq_true c3
     clear c3
     by_cases c4:x4_1<(l0.length:Int)
     ·rw [if_pos c4] at H
      have c4b0:decide (x4_1<(l0.length:Int))=true:=decide_eq_true c4
      clear c4
      have H':=Aside0.mk H
      clear H
      have p124:0≤(x4_1:Int):=of_decide_eq_true (by first|(with_reducible assumption)|assumption)
      have q124:x4_1<(l0.length:Int):=of_decide_eq_true (by first|(with_reducible assumption)|assumption)
      obtain ⟨ad124,e124,hx124_0⟩:=Kd.at_int HR0.out x4_1 p124 q124
      cases e124
      replace p124:=eq_true p124
      replace q124:=eq_true q124
      go_wp2
      go_roundg k1
      case measure=>have:=HK1.out;omega
      case rel=>exact ⟨(Go.bits .or .u16 (IntKind.u16.wrap (IntKind.u64.wrap ((IntKind.u64.wrap (x3_1))*256))) (IntKind.u16.wrap (rd l0 x4_1))),(wrap64 (x4_1 - 1)),(by first|rfl|(simp;done)|(simp [*];done)),(by first|rfl|(simp;done)|(simp [*];done)),H',⟨by have:=HK1.out;omega⟩,by repeat (first|exact Drawn0.refl _|apply Drawn0.step)⟩
     ·rw [if_neg c4] at H
      exact absurd H (by simp)
    ·rw [if_neg c3] at H
     exact absurd H (by simp)
   ·rw [if_neg c2] at H
    have c2b0:decide (0≤x4_1)=false:=decide_eq_false c2
    clear c2
    obtain rfl:=Option.some.inj H
    go_wp2
    go_ret
    exact ⟨by first|rfl|(simp;done)|(simp [*];done),by repeat (first|exact Drawn0.refl _|apply Drawn0.step)⟩
def memory_number_uint32.l0:Nat→List Int→Int→Int→Option (Int)
 | 0,_,_,_=>none
 | k+1,x0,x3,x4=>if x4≥0 then (if 0≤x4 then (if x4<(x0.length:Int) then (memory_number_uint32.l0 k x0 (Go.bits .or .u32 ((IntKind.u64.wrap ((IntKind.u64.wrap (x3))*256)) % 4294967296) ((rd x0 x4) % 4294967296)) (wrap64 (x4 - 1))) else (none)) else (none)) else (some (IntKind.u64.wrap (x3)))
def memory_number_uint32.f (k:Nat) (l0:List Int):Option (Int):=memory_number_uint32.l0 k l0 0 (wrap64 ((l0.length:Int) - 1))
theorem memory_number_uint32.calls (k:Nat) (A0:Option Addr) (c0:Nat) (l0:List Int) (r:Int) (w:World) (hr0:Kd.C (Kd.int .u8) w A0 l0.length l0) (hc0:l0.length≤c0) (h:memory_number_uint32.f k l0=some r) :
  Calls Try.prog 32 #[.slice A0 l0.length c0] w fun e w'=>e=.returned (.int .u64 r)∧Drawn0 w w':=by
 have HR0:=Aside0.mk hr0
 have HC0:=Aside0.mk hc0
 clear hr0 hc0
 have H:(memory_number_uint32.l0 k l0 0 (wrap64 ((l0.length:Int) - 1)))=some r:=h
 clear h
 have H':=Aside0.mk H
 clear H
 go_enter Try.func32,Try.ntmps32
 go_wp2
 go_loopg [3,4] k (fun kq v3 v4 w'=>∃ (x3_1:Int) (x4_1:Int),v3=.int .u32 x3_1∧v4=.int .i64 x4_1∧Aside0 (memory_number_uint32.l0 kq l0 x3_1 x4_1=some r)∧Aside0 (kq≤k)∧Drawn0 w w')
 case atStart=>exact ⟨(0),(wrap64 ((l0.length:Int) - 1)),(by first|rfl|(simp;done)|(simp [*];done)),(by first|rfl|(simp;done)|(simp [*];done)),H',⟨Nat.le_refl _⟩,by repeat (first|exact Drawn0.refl _|apply Drawn0.step)⟩
 case round =>
  clear H'
  obtain ⟨x3_1,x4_1,rfl,rfl,HA,HK1,⟨m1,rfl⟩⟩:=hrel
  cases gk with
  | zero=>exact absurd HA.out (by simp [memory_number_uint32.l0])
  | succ k1 =>
   have H:=HA.out
   clear HA
   simp only [memory_number_uint32.l0] at H
   by_cases c2:x4_1≥0
   ·rw [if_pos c2] at H
    have c2b0:decide (0≤x4_1)=true:=decide_eq_true c2
    clear c2
    by_cases c3:0≤x4_1
    ·rw [if_pos c3] at H
     have c3b0:decide (0≤x4_1)=true:=decide_eq_true c3
     clear c3
     by_cases c4:x4_1<(l0.length:Int)
     ·rw [if_pos c4] at H
      have c4b0:decide (x4_1<(l0.length:Int))=true:=decide_eq_true c4
      clear c4
      have H':=Aside0.mk H
      clear H
      have p125:0≤(x4_1:Int):=of_decide_eq_true (by first|(with_reducible assumption)|assumption)
      have q125:x4_1<(l0.length:Int):=of_decide_eq_true (by first|(with_reducible assumption)|assumption)
      obtain ⟨ad125,e125,hx125_0⟩:=Kd.at_int HR0.out x4_1 p125 q125
      cases e125
      replace p125:=eq_true p125
      replace q125:=eq_true q125
      go_wp2
      go_roundg k1
      case measure=>have:=HK1.out;omega
      case rel=>exact ⟨(Go.bits .or .u32 ((IntKind.u64.wrap ((IntKind.u64.wrap (x3_1))*256)) % 4294967296) ((rd l0 x4_1) % 4294967296)),(wrap64 (x4_1 - 1)),(by first|rfl|(simp;done)|(simp [*];done)),(by first|rfl|(simp;done)|(simp [*];done)),H',⟨by have:=HK1.out;omega⟩,by repeat (first|exact Drawn0.refl _|apply Drawn0.step)⟩
     ·rw [if_neg c4] at H
      exact absurd H (by simp)
    ·rw [if_neg c3] at H
     exact absurd H (by simp)
   ·rw [if_neg c2] at H
    have c2b0:decide (0≤x4_1)=false:=decide_eq_false c2
    clear c2
    obtain rfl:=Option.some.inj H
    go_wp2
    go_ret
    exact ⟨by first|rfl|(simp;done)|(simp [*];done),by repeat (first|exact Drawn0.refl _|apply Drawn0.step)⟩
def memory_number_uint64.l0:Nat→List Int→Int→Int→Option (Int)
 | 0,_,_,_=>none
 | k+1,x0,x3,x4=>if x4≥0 then (if 0≤x4 then (if x4<(x0.length:Int) then (memory_number_uint64.l0 k x0 (Go.bits .or .u64 (IntKind.u64.wrap (x3*256)) (IntKind.u64.wrap (rd x0 x4))) (wrap64 (x4 - 1))) else (none)) else (none)) else (some x3)
def memory_number_uint64.f (k:Nat) (l0:List Int):Option (Int):=memory_number_uint64.l0 k l0 0 (wrap64 ((l0.length:Int) - 1))
theorem memory_number_uint64.calls (k:Nat) (A0:Option Addr) (c0:Nat) (l0:List Int) (r:Int) (w:World) (hr0:Kd.C (Kd.int .u8) w A0 l0.length l0) (hc0:l0.length≤c0) (h:memory_number_uint64.f k l0=some r) :
  Calls Try.prog 33 #[.slice A0 l0.length c0] w fun e w'=>e=.returned (.int .u64 r)∧Drawn0 w w':=by
 have HR0:=Aside0.mk hr0
 have HC0:=Aside0.mk hc0
 clear hr0 hc0
 have H:(memory_number_uint64.l0 k l0 0 (wrap64 ((l0.length:Int) - 1)))=some r:=h
 clear h
 have H':=Aside0.mk H
 clear H
 go_enter Try.func33,Try.ntmps33
 go_wp2
 go_loopg [3,4] k (fun kq v3 v4 w'=>∃ (x3_1:Int) (x4_1:Int),v3=.int .u64 x3_1∧v4=.int .i64 x4_1∧Aside0 (memory_number_uint64.l0 kq l0 x3_1 x4_1=some r)∧Aside0 (kq≤k)∧Drawn0 w w')
 case atStart=>exact ⟨(0),(wrap64 ((l0.length:Int) - 1)),(by first|rfl|(simp;done)|(simp [*];done)),(by first|rfl|(simp;done)|(simp [*];done)),H',⟨Nat.le_refl _⟩,by repeat (first|exact Drawn0.refl _|apply Drawn0.step)⟩
 case round =>
  clear H'
  obtain ⟨x3_1,x4_1,rfl,rfl,HA,HK1,⟨m1,rfl⟩⟩:=hrel
  cases gk with
  | zero=>exact absurd HA.out (by simp [memory_number_uint64.l0])
  | succ k1 =>
   have H:=HA.out
   clear HA
   simp only [memory_number_uint64.l0] at H
   by_cases c2:x4_1≥0
   ·rw [if_pos c2] at H
    have c2b0:decide (0≤x4_1)=true:=decide_eq_true c2
    clear c2
    by_cases c3:0≤x4_1
    ·rw [if_pos c3] at H
     have c3b0:decide (0≤x4_1)=true:=decide_eq_true c3
     clear c3
     by_cases c4:x4_1<(l0.length:Int)
     ·rw [if_pos c4] at H
      have c4b0:decide (x4_1<(l0.length:Int))=true:=decide_eq_true c4
      clear c4
      have H':=Aside0.mk H
      clear H
      have p126:0≤(x4_1:Int):=of_decide_eq_true (by first|(with_reducible assumption)|assumption)
      have q126:x4_1<(l0.length:Int):=of_decide_eq_true (by first|(with_reducible assumption)|assumption)
      obtain ⟨ad126,e126,hx126_0⟩:=Kd.at_int HR0.out x4_1 p126 q126
      cases e126
      replace p126:=eq_true p126
      replace q126:=eq_true q126
      go_wp2
      go_roundg k1
      case measure=>have:=HK1.out;omega
      case rel=>exact ⟨(Go.bits .or .u64 (IntKind.u64.wrap (x3_1*256)) (IntKind.u64.wrap (rd l0 x4_1))),(wrap64 (x4_1 - 1)),(by first|rfl|(simp;done)|(simp [*];done)),(by first|rfl|(simp;done)|(simp [*];done)),H',⟨by have:=HK1.out;omega⟩,by repeat (first|exact Drawn0.refl _|apply Drawn0.step)⟩
     ·rw [if_neg c4] at H
      exact absurd H (by simp)
    ·rw [if_neg c3] at H
     exact absurd H (by simp)
   ·rw [if_neg c2] at H
    have c2b0:decide (0≤x4_1)=false:=decide_eq_false c2
    clear c2
    obtain rfl:=Option.some.inj H
    go_wp2
    go_ret
    exact ⟨by first|rfl|(simp;done)|(simp [*];done),by repeat (first|exact Drawn0.refl _|apply Drawn0.step)⟩
def spindlelaw20_held.l0:Nat→List (S39)→Int→Int→Int→Option (Bool)
 | 0,_,_,_,_=>none
 | k+1,x0,x1,x2,x7=>if x7<(x0.length:Int) then (if 0≤x7 then (if (IntKind.u64.wrap ((((rd_T39 x0 x7).f1).length:Int)))≥x2 then (if x1≥((rd_T39 x0 x7).f0) then (if (IntKind.u64.wrap (x1 - ((rd_T39 x0 x7).f0)))≤(IntKind.u64.wrap ((IntKind.u64.wrap ((((rd_T39 x0 x7).f1).length:Int))) - x2)) then (some true) else (spindlelaw20_held.l0 k x0 x1 x2 (wrap64 (x7+1)))) else (spindlelaw20_held.l0 k x0 x1 x2 (wrap64 (x7+1)))) else (spindlelaw20_held.l0 k x0 x1 x2 (wrap64 (x7+1)))) else (none)) else (some false)
def spindlelaw20_held.f (k:Nat) (l0:List (S39)) (a1:Int) (a2:Int):Option (Bool):=spindlelaw20_held.l0 k l0 a1 a2 0
def spindleref20_may.f (a0_0:Int) (l0_1:List Int):Option (Bool):=if (l0_1.length:Int)=0 then (some true) else (some (decide ((IntKind.u64.wrap (a0_0+(IntKind.u64.wrap (wrap64 ((l0_1.length:Int) - 1)))))≥a0_0)))
theorem spindleref20_may.calls (a0_0:Int) (A0_1:Option Addr) (c0_1:Nat) (l0_1:List Int) (r:Bool) (w:World) (hr0_1:Kd.C (Kd.int .u8) w A0_1 l0_1.length l0_1) (hc0_1:l0_1.length≤c0_1) (h:spindleref20_may.f a0_0 l0_1=some r) :
  Calls Try.prog 69 #[.agg #[.int .u64 a0_0,.slice A0_1 l0_1.length c0_1]] w fun e w'=>e=.returned (.bool r)∧Below w.heap.size w w':=by
 have hu39:=Try.underlying39
 have HR0_1:=Aside0.mk hr0_1
 have HC0_1:=Aside0.mk hc0_1
 clear hr0_1 hc0_1
 have HB:=Aside0.mk (Below.refl w.heap.size w)
 have H:(if (l0_1.length:Int)=0 then (some true) else (some (decide ((IntKind.u64.wrap (a0_0+(IntKind.u64.wrap (wrap64 ((l0_1.length:Int) - 1)))))≥a0_0))))=some r:=h
 clear h
 by_cases c2:(l0_1.length:Int)=0
 ·rw [if_pos c2] at H
  have c2b0:((l0_1.length:Int) == 0)=true:=beq_iff_eq.mpr c2
  have c2b1:((l0_1.length:Int) != 0)=false:=bne_eq_false_iff_eq.mpr c2
  clear c2
  obtain rfl:=Option.some.inj H
  go_enter Try.func69,Try.ntmps69
  go_wp2_with (first|((with_reducible refine gate_dst (N:=1) rfl ?_);(try (refine gate_guard (by rfl) ?_;dsimp only));refine box_event ?hg (N:=1) ?hd (cs:=#[.int .u64 a0_0,.slice A0_1 l0_1.length c0_1]) (t:=39) ?hr ?_;(case hd=>rfl);(case hg=>rfl);(case hr=>first|(go_simp;done)|(go_simp;rfl));intro gb139 hg w3 hbox hb;have n0_:=Aside0.mk (below_step (by repeat (first|(with_reducible first|exact HB.out|apply below_alloc|apply pw_below_drewN|apply below_drew1)|exact HB.out)) hb);have n1_:=Aside0.mk (hbox);have n2_:=Aside0.mk ((by rw [hg];exact (below_size (by repeat (first|(with_reducible first|exact HB.out|apply below_alloc|apply pw_below_drewN|apply below_drew1)|exact HB.out))):w.heap.size≤gb139));have n3_:=Aside0.mk ((by rw [hg];exact (below_size (by repeat (first|(with_reducible first|exact HB.out|apply below_alloc|apply pw_below_drewN|apply below_drew1)|exact HB.out))):w.heap.size≤gb139));clear HB;have HB:=n0_;have BK139:=n1_;have GW139:=n2_;have GE139:=n3_;clear n0_ n1_ n2_ n3_;clear hb hbox hg;have hcz4_0:w3.cell? ⟨gb139,0,none⟩=some (.int .u64 a0_0):=(blk_cell BK139.out 0).trans rfl;have hcz4_1:w3.cell? ⟨gb139,1,none⟩=some (.slice A0_1 l0_1.length c0_1):=(blk_cell BK139.out 1).trans rfl;have hfz4_0:=blk_frozen BK139.out 0;have hfz4_1:=blk_frozen BK139.out 1))
  go_ret
  exact ⟨by first|rfl|(simp [errW_none,errW_some] <;> rfl)|(simp [*,errW_none,errW_some] <;> rfl),by repeat (first|(with_reducible first|exact HB.out|apply below_alloc|apply pw_below_drewN|apply below_drew1|refine below_set ?_ GE139.out)|exact HB.out)⟩
 ·rw [if_neg c2] at H
  have c2b0:((l0_1.length:Int) == 0)=false:=beq_eq_false_iff_ne.mpr c2
  have c2b1:((l0_1.length:Int) != 0)=true:=bne_iff_ne.mpr c2
  have c2b2:¬ (l0_1=[]):=fun h_=>c2 (by rw [h_];rfl)
  obtain rfl:=Option.some.inj H
  go_enter Try.func69,Try.ntmps69
  go_wp2_with (first|((with_reducible refine gate_dst (N:=1) rfl ?_);(try (refine gate_guard (by rfl) ?_;dsimp only));refine box_event ?hg (N:=1) ?hd (cs:=#[.int .u64 a0_0,.slice A0_1 l0_1.length c0_1]) (t:=39) ?hr ?_;(case hd=>rfl);(case hg=>rfl);(case hr=>first|(go_simp;done)|(go_simp;rfl));intro gb139 hg w5 hbox hb;have n0_:=Aside0.mk (below_step (by repeat (first|(with_reducible first|exact HB.out|apply below_alloc|apply pw_below_drewN|apply below_drew1)|exact HB.out)) hb);have n1_:=Aside0.mk (hbox);have n2_:=Aside0.mk ((by rw [hg];exact (below_size (by repeat (first|(with_reducible first|exact HB.out|apply below_alloc|apply pw_below_drewN|apply below_drew1)|exact HB.out))):w.heap.size≤gb139));have n3_:=Aside0.mk ((by rw [hg];exact (below_size (by repeat (first|(with_reducible first|exact HB.out|apply below_alloc|apply pw_below_drewN|apply below_drew1)|exact HB.out))):w.heap.size≤gb139));clear HB;have HB:=n0_;have BK139:=n1_;have GW139:=n2_;have GE139:=n3_;clear n0_ n1_ n2_ n3_;clear hb hbox hg;have hcz6_0:w5.cell? ⟨gb139,0,none⟩=some (.int .u64 a0_0):=(blk_cell BK139.out 0).trans rfl;have hcz6_1:w5.cell? ⟨gb139,1,none⟩=some (.slice A0_1 l0_1.length c0_1):=(blk_cell BK139.out 1).trans rfl;have hfz6_0:=blk_frozen BK139.out 0;have hfz6_1:=blk_frozen BK139.out 1))
  go_ret
  exact ⟨by first|rfl|(simp [errW_none,errW_some] <;> rfl)|(simp [*,errW_none,errW_some] <;> rfl),by repeat (first|(with_reducible first|exact HB.out|apply below_alloc|apply pw_below_drewN|apply below_drew1|refine below_set ?_ GE139.out)|exact HB.out)⟩
end Go.Proofs.Ythmeojeehemlaaa.PM
end
section
namespace Go.Proofs.Ythmeojeehemlaaa.PM
open Go.RowKit Go.Proofs.YthmeojeehemlaaaW.PrintWords Go.Proofs.YthmeojeehemlaaaW.PrintLast Go.Proofs.YthmeojeehemlaaaW.PrintMore
attribute [local go_sem] isSome_setCell max2_int min2_int max_two min_two max_three min_three max_four min_four
def spindleref20_clash.f (a0_0:Int) (l0_1:List Int) (a1_0:Int) (l1_1:List Int):Option (Bool):=if a0_0=a1_0 then (some true) else (if a0_0 > a1_0 then (if (l1_1.length:Int) > 0 then (if (l0_1.length:Int) > 0 then (some (decide ((IntKind.u64.wrap (a0_0 - a1_0))<(IntKind.u64.wrap ((l1_1.length:Int)))))) else (some false)) else (some false)) else (if (l0_1.length:Int) > 0 then (if (l1_1.length:Int) > 0 then (some (decide ((IntKind.u64.wrap (a1_0 - a0_0))<(IntKind.u64.wrap ((l0_1.length:Int)))))) else (some false)) else (some false)))
theorem spindleref20_clash.calls (a0_0:Int) (A0_1:Option Addr) (c0_1:Nat) (l0_1:List Int) (a1_0:Int) (A1_1:Option Addr) (c1_1:Nat) (l1_1:List Int) (r:Bool) (w:World) (hr0_1:Kd.C (Kd.int .u8) w A0_1 l0_1.length l0_1) (hc0_1:l0_1.length≤c0_1) (hr1_1:Kd.C (Kd.int .u8) w A1_1 l1_1.length l1_1) (hc1_1:l1_1.length≤c1_1) (h:spindleref20_clash.f a0_0 l0_1 a1_0 l1_1=some r) :
  Calls Try.prog 70 #[.agg #[.int .u64 a0_0,.slice A0_1 l0_1.length c0_1],.agg #[.int .u64 a1_0,.slice A1_1 l1_1.length c1_1]] w fun e w'=>e=.returned (.bool r)∧Below w.heap.size w w':=by
 have hu39:=Try.underlying39
 have HR0_1:=Aside0.mk hr0_1
 have HC0_1:=Aside0.mk hc0_1
 clear hr0_1 hc0_1
 have HR1_1:=Aside0.mk hr1_1
 have HC1_1:=Aside0.mk hc1_1
 clear hr1_1 hc1_1
 have HB:=Aside0.mk (Below.refl w.heap.size w)
 have H:(if a0_0=a1_0 then (some true) else (if a0_0 > a1_0 then (if (l1_1.length:Int) > 0 then (if (l0_1.length:Int) > 0 then (some (decide ((IntKind.u64.wrap (a0_0 - a1_0))<(IntKind.u64.wrap ((l1_1.length:Int)))))) else (some false)) else (some false)) else (if (l0_1.length:Int) > 0 then (if (l1_1.length:Int) > 0 then (some (decide ((IntKind.u64.wrap (a1_0 - a0_0))<(IntKind.u64.wrap ((l0_1.length:Int)))))) else (some false)) else (some false))))=some r:=h
 clear h
 by_cases c3:a0_0=a1_0
 ·rw [if_pos c3] at H
  have c3b0:(a0_0 == a1_0)=true:=beq_iff_eq.mpr c3
  have c3b1:(a0_0 != a1_0)=false:=bne_eq_false_iff_eq.mpr c3
  clear c3
  obtain rfl:=Option.some.inj H
  go_enter Try.func70,Try.ntmps70
  go_wp2_with (first|((with_reducible refine gate_dst (N:=2) rfl ?_);(try (refine gate_guard (by rfl) ?_;dsimp only));refine box_event ?hg (N:=2) ?hd (cs:=#[.int .u64 a0_0,.slice A0_1 l0_1.length c0_1]) (t:=39) ?hr ?_;(case hd=>rfl);(case hg=>rfl);(case hr=>first|(go_simp;done)|(go_simp;rfl));intro gb140 hg w4 hbox hb;have n0_:=Aside0.mk (below_step (by repeat (first|(with_reducible first|exact HB.out|apply below_alloc|apply pw_below_drewN|apply below_drew1)|exact HB.out)) hb);have n1_:=Aside0.mk (hbox);have n2_:=Aside0.mk ((by rw [hg];exact (below_size (by repeat (first|(with_reducible first|exact HB.out|apply below_alloc|apply pw_below_drewN|apply below_drew1)|exact HB.out))):w.heap.size≤gb140));have n3_:=Aside0.mk ((by rw [hg];exact (below_size (by repeat (first|(with_reducible first|exact HB.out|apply below_alloc|apply pw_below_drewN|apply below_drew1)|exact HB.out))):w.heap.size≤gb140));clear HB;have HB:=n0_;have BK140:=n1_;have GW140:=n2_;have GE140:=n3_;clear n0_ n1_ n2_ n3_;clear hb hbox hg)|((with_reducible refine gate_dst (N:=3) rfl ?_);(try (refine gate_guard (by rfl) ?_;dsimp only));refine box_event ?hg (N:=3) ?hd (cs:=#[.int .u64 a1_0,.slice A1_1 l1_1.length c1_1]) (t:=39) ?hr ?_;(case hd=>rfl);(case hg=>rfl);(case hr=>first|(go_simp;done)|(go_simp;rfl));intro gb141 hg w5 hbox hb;have n0_:=Aside0.mk (blk_below (g:=gb140) (o:=.cells #[.int .u64 a0_0,.slice A0_1 l0_1.length c0_1] 39 (0,0)) (by (with_reducible repeat (first|refine blk_drewN ?_ _|refine blk_drew ?_|refine blk_alloc ?_ _));exact BK140.out) hb);have n1_:=Aside0.mk (below_step (by repeat (first|(with_reducible first|exact HB.out|apply below_alloc|apply pw_below_drewN|apply below_drew1|refine below_set ?_ GE140.out)|exact HB.out)) hb);have n2_:=Aside0.mk (hbox);have n3_:=Aside0.mk ((by rw [hg];exact (below_size (by repeat (first|(with_reducible first|exact HB.out|apply below_alloc|apply pw_below_drewN|apply below_drew1|refine below_set ?_ GE140.out)|exact HB.out))):w.heap.size≤gb141));have n4_:=Aside0.mk ((by rw [hg];exact (below_size (by repeat (first|(with_reducible first|exact HB.out|apply below_alloc|apply pw_below_drewN|apply below_drew1|refine below_set ?_ GE140.out)|exact HB.out))):w.heap.size≤gb141));have n5_:=Aside0.mk ((by rw [hg];exact Nat.ne_of_lt (blk_lt (g:=gb140) (o:=.cells #[.int .u64 a0_0,.slice A0_1 l0_1.length c0_1] 39 (0,0)) (by (with_reducible repeat (first|refine blk_drewN ?_ _|refine blk_drew ?_|refine blk_alloc ?_ _));exact BK140.out)):gb140≠gb141));have n6_:=Aside0.mk ((by rw [hg];exact Nat.ne_of_gt (blk_lt (g:=gb140) (o:=.cells #[.int .u64 a0_0,.slice A0_1 l0_1.length c0_1] 39 (0,0)) (by (with_reducible repeat (first|refine blk_drewN ?_ _|refine blk_drew ?_|refine blk_alloc ?_ _));exact BK140.out)):gb141≠gb140));clear BK140;clear HB;have BK140:=n0_;have HB:=n1_;have BK141:=n2_;have GW141:=n3_;have GE141:=n4_;have NB140_141:=n5_;have NB141_140:=n6_;clear n0_ n1_ n2_ n3_ n4_ n5_ n6_;clear hb hbox hg;have hnb6:=NB140_141.out;have hnc6:=NB141_140.out;have hcz7_0:w5.cell? ⟨gb140,0,none⟩=some (.int .u64 a0_0):=(blk_cell BK140.out 0).trans rfl;have hcz7_1:w5.cell? ⟨gb140,1,none⟩=some (.slice A0_1 l0_1.length c0_1):=(blk_cell BK140.out 1).trans rfl;have hfz7_0:=blk_frozen BK140.out 0;have hfz7_1:=blk_frozen BK140.out 1;have hcz8_0:w5.cell? ⟨gb141,0,none⟩=some (.int .u64 a1_0):=(blk_cell BK141.out 0).trans rfl;have hcz8_1:w5.cell? ⟨gb141,1,none⟩=some (.slice A1_1 l1_1.length c1_1):=(blk_cell BK141.out 1).trans rfl;have hfz8_0:=blk_frozen BK141.out 0;have hfz8_1:=blk_frozen BK141.out 1))
  go_ret
  exact ⟨by first|rfl|(simp [errW_none,errW_some] <;> rfl)|(simp [*,errW_none,errW_some] <;> rfl),by repeat (first|(with_reducible first|exact HB.out|apply below_alloc|apply pw_below_drewN|apply below_drew1|refine below_set ?_ GE140.out|refine below_set ?_ GE141.out)|exact HB.out)⟩
 ·rw [if_neg c3] at H
  have c3b0:(a0_0 == a1_0)=false:=beq_eq_false_iff_ne.mpr c3
  have c3b1:(a0_0 != a1_0)=true:=bne_iff_ne.mpr c3
  by_cases c9:a0_0 > a1_0
  ·rw [if_pos c9] at H
   have c9b0:decide (a1_0<a0_0)=true:=decide_eq_true c9
   clear c9
   by_cases c10:(l1_1.length:Int) > 0
   ·rw [if_pos c10] at H
    have c10b0:decide (0<(l1_1.length:Int))=true:=decide_eq_true c10
    have c10b1:decide (0<l1_1.length)=true:=decide_eq_true (by omega)
    clear c10
    by_cases c11:(l0_1.length:Int) > 0
    ·rw [if_pos c11] at H
     have c11b0:decide (0<(l0_1.length:Int))=true:=decide_eq_true c11
     have c11b1:decide (0<l0_1.length)=true:=decide_eq_true (by omega)
     clear c11
     obtain rfl:=Option.some.inj H
     go_enter Try.func70,Try.ntmps70
     go_wp2_with (first|((with_reducible refine gate_dst (N:=2) rfl ?_);(try (refine gate_guard (by rfl) ?_;dsimp only));refine box_event ?hg (N:=2) ?hd (cs:=#[.int .u64 a0_0,.slice A0_1 l0_1.length c0_1]) (t:=39) ?hr ?_;(case hd=>rfl);(case hg=>rfl);(case hr=>first|(go_simp;done)|(go_simp;rfl));intro gb140 hg w12 hbox hb;have n0_:=Aside0.mk (below_step (by repeat (first|(with_reducible first|exact HB.out|apply below_alloc|apply pw_below_drewN|apply below_drew1)|exact HB.out)) hb);have n1_:=Aside0.mk (hbox);have n2_:=Aside0.mk ((by rw [hg];exact (below_size (by repeat (first|(with_reducible first|exact HB.out|apply below_alloc|apply pw_below_drewN|apply below_drew1)|exact HB.out))):w.heap.size≤gb140));have n3_:=Aside0.mk ((by rw [hg];exact (below_size (by repeat (first|(with_reducible first|exact HB.out|apply below_alloc|apply pw_below_drewN|apply below_drew1)|exact HB.out))):w.heap.size≤gb140));clear HB;have HB:=n0_;have BK140:=n1_;have GW140:=n2_;have GE140:=n3_;clear n0_ n1_ n2_ n3_;clear hb hbox hg)|((with_reducible refine gate_dst (N:=3) rfl ?_);(try (refine gate_guard (by rfl) ?_;dsimp only));refine box_event ?hg (N:=3) ?hd (cs:=#[.int .u64 a1_0,.slice A1_1 l1_1.length c1_1]) (t:=39) ?hr ?_;(case hd=>rfl);(case hg=>rfl);(case hr=>first|(go_simp;done)|(go_simp;rfl));intro gb141 hg w13 hbox hb;have n0_:=Aside0.mk (blk_below (g:=gb140) (o:=.cells #[.int .u64 a0_0,.slice A0_1 l0_1.length c0_1] 39 (0,0)) (by (with_reducible repeat (first|refine blk_drewN ?_ _|refine blk_drew ?_|refine blk_alloc ?_ _));exact BK140.out) hb);have n1_:=Aside0.mk (below_step (by repeat (first|(with_reducible first|exact HB.out|apply below_alloc|apply pw_below_drewN|apply below_drew1|refine below_set ?_ GE140.out)|exact HB.out)) hb);have n2_:=Aside0.mk (hbox);have n3_:=Aside0.mk ((by rw [hg];exact (below_size (by repeat (first|(with_reducible first|exact HB.out|apply below_alloc|apply pw_below_drewN|apply below_drew1|refine below_set ?_ GE140.out)|exact HB.out))):w.heap.size≤gb141));have n4_:=Aside0.mk ((by rw [hg];exact (below_size (by repeat (first|(with_reducible first|exact HB.out|apply below_alloc|apply pw_below_drewN|apply below_drew1|refine below_set ?_ GE140.out)|exact HB.out))):w.heap.size≤gb141));have n5_:=Aside0.mk ((by rw [hg];exact Nat.ne_of_lt (blk_lt (g:=gb140) (o:=.cells #[.int .u64 a0_0,.slice A0_1 l0_1.length c0_1] 39 (0,0)) (by (with_reducible repeat (first|refine blk_drewN ?_ _|refine blk_drew ?_|refine blk_alloc ?_ _));exact BK140.out)):gb140≠gb141));have n6_:=Aside0.mk ((by rw [hg];exact Nat.ne_of_gt (blk_lt (g:=gb140) (o:=.cells #[.int .u64 a0_0,.slice A0_1 l0_1.length c0_1] 39 (0,0)) (by (with_reducible repeat (first|refine blk_drewN ?_ _|refine blk_drew ?_|refine blk_alloc ?_ _));exact BK140.out)):gb141≠gb140));clear BK140;clear HB;have BK140:=n0_;have HB:=n1_;have BK141:=n2_;have GW141:=n3_;have GE141:=n4_;have NB140_141:=n5_;have NB141_140:=n6_;clear n0_ n1_ n2_ n3_ n4_ n5_ n6_;clear hb hbox hg;have hnb14:=NB140_141.out;have hnc14:=NB141_140.out;have hcz15_0:w13.cell? ⟨gb140,0,none⟩=some (.int .u64 a0_0):=(blk_cell BK140.out 0).trans rfl;have hcz15_1:w13.cell? ⟨gb140,1,none⟩=some (.slice A0_1 l0_1.length c0_1):=(blk_cell BK140.out 1).trans rfl;have hfz15_0:=blk_frozen BK140.out 0;have hfz15_1:=blk_frozen BK140.out 1;have hcz16_0:w13.cell? ⟨gb141,0,none⟩=some (.int .u64 a1_0):=(blk_cell BK141.out 0).trans rfl;have hcz16_1:w13.cell? ⟨gb141,1,none⟩=some (.slice A1_1 l1_1.length c1_1):=(blk_cell BK141.out 1).trans rfl;have hfz16_0:=blk_frozen BK141.out 0;have hfz16_1:=blk_frozen BK141.out 1))
     go_ret
     exact ⟨by first|rfl|(simp [errW_none,errW_some] <;> rfl)|(simp [*,errW_none,errW_some] <;> rfl),by repeat (first|(with_reducible first|exact HB.out|apply below_alloc|apply pw_below_drewN|apply below_drew1|refine below_set ?_ GE140.out|refine below_set ?_ GE141.out)|exact HB.out)⟩
    ·rw [if_neg c11] at H
     have c11b0:decide (0<(l0_1.length:Int))=false:=decide_eq_false c11
     have c11b1:decide (0<l0_1.length)=false:=decide_eq_false (by omega)
     clear c11
     obtain rfl:=Option.some.inj H
     go_enter Try.func70,Try.ntmps70
     go_wp2_with (first|((with_reducible refine gate_dst (N:=2) rfl ?_);(try (refine gate_guard (by rfl) ?_;dsimp only));refine box_event ?hg (N:=2) ?hd (cs:=#[.int .u64 a0_0,.slice A0_1 l0_1.length c0_1]) (t:=39) ?hr ?_;(case hd=>rfl);(case hg=>rfl);(case hr=>first|(go_simp;done)|(go_simp;rfl));intro gb140 hg w17 hbox hb;have n0_:=Aside0.mk (below_step (by repeat (first|(with_reducible first|exact HB.out|apply below_alloc|apply pw_below_drewN|apply below_drew1)|exact HB.out)) hb);have n1_:=Aside0.mk (hbox);have n2_:=Aside0.mk ((by rw [hg];exact (below_size (by repeat (first|(with_reducible first|exact HB.out|apply below_alloc|apply pw_below_drewN|apply below_drew1)|exact HB.out))):w.heap.size≤gb140));have n3_:=Aside0.mk ((by rw [hg];exact (below_size (by repeat (first|(with_reducible first|exact HB.out|apply below_alloc|apply pw_below_drewN|apply below_drew1)|exact HB.out))):w.heap.size≤gb140));clear HB;have HB:=n0_;have BK140:=n1_;have GW140:=n2_;have GE140:=n3_;clear n0_ n1_ n2_ n3_;clear hb hbox hg)|((with_reducible refine gate_dst (N:=3) rfl ?_);(try (refine gate_guard (by rfl) ?_;dsimp only));refine box_event ?hg (N:=3) ?hd (cs:=#[.int .u64 a1_0,.slice A1_1 l1_1.length c1_1]) (t:=39) ?hr ?_;(case hd=>rfl);(case hg=>rfl);(case hr=>first|(go_simp;done)|(go_simp;rfl));intro gb141 hg w18 hbox hb;have n0_:=Aside0.mk (blk_below (g:=gb140) (o:=.cells #[.int .u64 a0_0,.slice A0_1 l0_1.length c0_1] 39 (0,0)) (by (with_reducible repeat (first|refine blk_drewN ?_ _|refine blk_drew ?_|refine blk_alloc ?_ _));exact BK140.out) hb);have n1_:=Aside0.mk (below_step (by repeat (first|(with_reducible first|exact HB.out|apply below_alloc|apply pw_below_drewN|apply below_drew1|refine below_set ?_ GE140.out)|exact HB.out)) hb);have n2_:=Aside0.mk (hbox);have n3_:=Aside0.mk ((by rw [hg];exact (below_size (by repeat (first|(with_reducible first|exact HB.out|apply below_alloc|apply pw_below_drewN|apply below_drew1|refine below_set ?_ GE140.out)|exact HB.out))):w.heap.size≤gb141));have n4_:=Aside0.mk ((by rw [hg];exact (below_size (by repeat (first|(with_reducible first|exact HB.out|apply below_alloc|apply pw_below_drewN|apply below_drew1|refine below_set ?_ GE140.out)|exact HB.out))):w.heap.size≤gb141));have n5_:=Aside0.mk ((by rw [hg];exact Nat.ne_of_lt (blk_lt (g:=gb140) (o:=.cells #[.int .u64 a0_0,.slice A0_1 l0_1.length c0_1] 39 (0,0)) (by (with_reducible repeat (first|refine blk_drewN ?_ _|refine blk_drew ?_|refine blk_alloc ?_ _));exact BK140.out)):gb140≠gb141));have n6_:=Aside0.mk ((by rw [hg];exact Nat.ne_of_gt (blk_lt (g:=gb140) (o:=.cells #[.int .u64 a0_0,.slice A0_1 l0_1.length c0_1] 39 (0,0)) (by (with_reducible repeat (first|refine blk_drewN ?_ _|refine blk_drew ?_|refine blk_alloc ?_ _));exact BK140.out)):gb141≠gb140));clear BK140;clear HB;have BK140:=n0_;have HB:=n1_;have BK141:=n2_;have GW141:=n3_;have GE141:=n4_;have NB140_141:=n5_;have NB141_140:=n6_;clear n0_ n1_ n2_ n3_ n4_ n5_ n6_;clear hb hbox hg;have hnb19:=NB140_141.out;have hnc19:=NB141_140.out;have hcz20_0:w18.cell? ⟨gb140,0,none⟩=some (.int .u64 a0_0):=(blk_cell BK140.out 0).trans rfl;have hcz20_1:w18.cell? ⟨gb140,1,none⟩=some (.slice A0_1 l0_1.length c0_1):=(blk_cell BK140.out 1).trans rfl;have hfz20_0:=blk_frozen BK140.out 0;have hfz20_1:=blk_frozen BK140.out 1;have hcz21_0:w18.cell? ⟨gb141,0,none⟩=some (.int .u64 a1_0):=(blk_cell BK141.out 0).trans rfl;have hcz21_1:w18.cell? ⟨gb141,1,none⟩=some (.slice A1_1 l1_1.length c1_1):=(blk_cell BK141.out 1).trans rfl;have hfz21_0:=blk_frozen BK141.out 0;have hfz21_1:=blk_frozen BK141.out 1))
     go_ret
     exact ⟨by first|rfl|(simp [errW_none,errW_some] <;> rfl)|(simp [*,errW_none,errW_some] <;> rfl),by repeat (first|(with_reducible first|exact HB.out|apply below_alloc|apply pw_below_drewN|apply below_drew1|refine below_set ?_ GE140.out|refine below_set ?_ GE141.out)|exact HB.out)⟩
   ·rw [if_neg c10] at H
    have c10b0:decide (0<(l1_1.length:Int))=false:=decide_eq_false c10
    have c10b1:decide (0<l1_1.length)=false:=decide_eq_false (by omega)
    clear c10
    obtain rfl:=Option.some.inj H
    go_enter Try.func70,Try.ntmps70
    go_wp2_with (first|((with_reducible refine gate_dst (N:=2) rfl ?_);(try (refine gate_guard (by rfl) ?_;dsimp only));refine box_event ?hg (N:=2) ?hd (cs:=#[.int .u64 a0_0,.slice A0_1 l0_1.length c0_1]) (t:=39) ?hr ?_;(case hd=>rfl);(case hg=>rfl);(case hr=>first|(go_simp;done)|(go_simp;rfl));intro gb140 hg w22 hbox hb;have n0_:=Aside0.mk (below_step (by repeat (first|(with_reducible first|exact HB.out|apply below_alloc|apply pw_below_drewN|apply below_drew1)|exact HB.out)) hb);have n1_:=Aside0.mk (hbox);have n2_:=Aside0.mk ((by rw [hg];exact (below_size (by repeat (first|(with_reducible first|exact HB.out|apply below_alloc|apply pw_below_drewN|apply below_drew1)|exact HB.out))):w.heap.size≤gb140));have n3_:=Aside0.mk ((by rw [hg];exact (below_size (by repeat (first|(with_reducible first|exact HB.out|apply below_alloc|apply pw_below_drewN|apply below_drew1)|exact HB.out))):w.heap.size≤gb140));clear HB;have HB:=n0_;have BK140:=n1_;have GW140:=n2_;have GE140:=n3_;clear n0_ n1_ n2_ n3_;clear hb hbox hg)|((with_reducible refine gate_dst (N:=3) rfl ?_);(try (refine gate_guard (by rfl) ?_;dsimp only));refine box_event ?hg (N:=3) ?hd (cs:=#[.int .u64 a1_0,.slice A1_1 l1_1.length c1_1]) (t:=39) ?hr ?_;(case hd=>rfl);(case hg=>rfl);(case hr=>first|(go_simp;done)|(go_simp;rfl));intro gb141 hg w23 hbox hb;have n0_:=Aside0.mk (blk_below (g:=gb140) (o:=.cells #[.int .u64 a0_0,.slice A0_1 l0_1.length c0_1] 39 (0,0)) (by (with_reducible repeat (first|refine blk_drewN ?_ _|refine blk_drew ?_|refine blk_alloc ?_ _));exact BK140.out) hb);have n1_:=Aside0.mk (below_step (by repeat (first|(with_reducible first|exact HB.out|apply below_alloc|apply pw_below_drewN|apply below_drew1|refine below_set ?_ GE140.out)|exact HB.out)) hb);have n2_:=Aside0.mk (hbox);have n3_:=Aside0.mk ((by rw [hg];exact (below_size (by repeat (first|(with_reducible first|exact HB.out|apply below_alloc|apply pw_below_drewN|apply below_drew1|refine below_set ?_ GE140.out)|exact HB.out))):w.heap.size≤gb141));have n4_:=Aside0.mk ((by rw [hg];exact (below_size (by repeat (first|(with_reducible first|exact HB.out|apply below_alloc|apply pw_below_drewN|apply below_drew1|refine below_set ?_ GE140.out)|exact HB.out))):w.heap.size≤gb141));have n5_:=Aside0.mk ((by rw [hg];exact Nat.ne_of_lt (blk_lt (g:=gb140) (o:=.cells #[.int .u64 a0_0,.slice A0_1 l0_1.length c0_1] 39 (0,0)) (by (with_reducible repeat (first|refine blk_drewN ?_ _|refine blk_drew ?_|refine blk_alloc ?_ _));exact BK140.out)):gb140≠gb141));have n6_:=Aside0.mk ((by rw [hg];exact Nat.ne_of_gt (blk_lt (g:=gb140) (o:=.cells #[.int .u64 a0_0,.slice A0_1 l0_1.length c0_1] 39 (0,0)) (by (with_reducible repeat (first|refine blk_drewN ?_ _|refine blk_drew ?_|refine blk_alloc ?_ _));exact BK140.out)):gb141≠gb140));clear BK140;clear HB;have BK140:=n0_;have HB:=n1_;have BK141:=n2_;have GW141:=n3_;have GE141:=n4_;have NB140_141:=n5_;have NB141_140:=n6_;clear n0_ n1_ n2_ n3_ n4_ n5_ n6_;clear hb hbox hg;have hnb24:=NB140_141.out;have hnc24:=NB141_140.out;have hcz25_0:w23.cell? ⟨gb140,0,none⟩=some (.int .u64 a0_0):=(blk_cell BK140.out 0).trans rfl;have hcz25_1:w23.cell? ⟨gb140,1,none⟩=some (.slice A0_1 l0_1.length c0_1):=(blk_cell BK140.out 1).trans rfl;have hfz25_0:=blk_frozen BK140.out 0;have hfz25_1:=blk_frozen BK140.out 1;have hcz26_0:w23.cell? ⟨gb141,0,none⟩=some (.int .u64 a1_0):=(blk_cell BK141.out 0).trans rfl;have hcz26_1:w23.cell? ⟨gb141,1,none⟩=some (.slice A1_1 l1_1.length c1_1):=(blk_cell BK141.out 1).trans rfl;have hfz26_0:=blk_frozen BK141.out 0;have hfz26_1:=blk_frozen BK141.out 1))
    go_ret
    exact ⟨by first|rfl|(simp [errW_none,errW_some] <;> rfl)|(simp [*,errW_none,errW_some] <;> rfl),by repeat (first|(with_reducible first|exact HB.out|apply below_alloc|apply pw_below_drewN|apply below_drew1|refine below_set ?_ GE140.out|refine below_set ?_ GE141.out)|exact HB.out)⟩
  ·rw [if_neg c9] at H
   have c9b0:decide (a1_0<a0_0)=false:=decide_eq_false c9
   clear c9
   by_cases c27:(l0_1.length:Int) > 0
   ·rw [if_pos c27] at H
    have c27b0:decide (0<(l0_1.length:Int))=true:=decide_eq_true c27
    have c27b1:decide (0<l0_1.length)=true:=decide_eq_true (by omega)
    clear c27
    by_cases c28:(l1_1.length:Int) > 0
    ·rw [if_pos c28] at H
     have c28b0:decide (0<(l1_1.length:Int))=true:=decide_eq_true c28
     have c28b1:decide (0<l1_1.length)=true:=decide_eq_true (by omega)
     clear c28
     obtain rfl:=Option.some.inj H
     go_enter Try.func70,Try.ntmps70
     go_wp2_with (first|((with_reducible refine gate_dst (N:=2) rfl ?_);(try (refine gate_guard (by rfl) ?_;dsimp only));refine box_event ?hg (N:=2) ?hd (cs:=#[.int .u64 a0_0,.slice A0_1 l0_1.length c0_1]) (t:=39) ?hr ?_;(case hd=>rfl);(case hg=>rfl);(case hr=>first|(go_simp;done)|(go_simp;rfl));intro gb140 hg w29 hbox hb;have n0_:=Aside0.mk (below_step (by repeat (first|(with_reducible first|exact HB.out|apply below_alloc|apply pw_below_drewN|apply below_drew1)|exact HB.out)) hb);have n1_:=Aside0.mk (hbox);have n2_:=Aside0.mk ((by rw [hg];exact (below_size (by repeat (first|(with_reducible first|exact HB.out|apply below_alloc|apply pw_below_drewN|apply below_drew1)|exact HB.out))):w.heap.size≤gb140));have n3_:=Aside0.mk ((by rw [hg];exact (below_size (by repeat (first|(with_reducible first|exact HB.out|apply below_alloc|apply pw_below_drewN|apply below_drew1)|exact HB.out))):w.heap.size≤gb140));clear HB;have HB:=n0_;have BK140:=n1_;have GW140:=n2_;have GE140:=n3_;clear n0_ n1_ n2_ n3_;clear hb hbox hg)|((with_reducible refine gate_dst (N:=3) rfl ?_);(try (refine gate_guard (by rfl) ?_;dsimp only));refine box_event ?hg (N:=3) ?hd (cs:=#[.int .u64 a1_0,.slice A1_1 l1_1.length c1_1]) (t:=39) ?hr ?_;(case hd=>rfl);(case hg=>rfl);(case hr=>first|(go_simp;done)|(go_simp;rfl));intro gb141 hg w30 hbox hb;have n0_:=Aside0.mk (blk_below (g:=gb140) (o:=.cells #[.int .u64 a0_0,.slice A0_1 l0_1.length c0_1] 39 (0,0)) (by (with_reducible repeat (first|refine blk_drewN ?_ _|refine blk_drew ?_|refine blk_alloc ?_ _));exact BK140.out) hb);have n1_:=Aside0.mk (below_step (by repeat (first|(with_reducible first|exact HB.out|apply below_alloc|apply pw_below_drewN|apply below_drew1|refine below_set ?_ GE140.out)|exact HB.out)) hb);have n2_:=Aside0.mk (hbox);have n3_:=Aside0.mk ((by rw [hg];exact (below_size (by repeat (first|(with_reducible first|exact HB.out|apply below_alloc|apply pw_below_drewN|apply below_drew1|refine below_set ?_ GE140.out)|exact HB.out))):w.heap.size≤gb141));have n4_:=Aside0.mk ((by rw [hg];exact (below_size (by repeat (first|(with_reducible first|exact HB.out|apply below_alloc|apply pw_below_drewN|apply below_drew1|refine below_set ?_ GE140.out)|exact HB.out))):w.heap.size≤gb141));have n5_:=Aside0.mk ((by rw [hg];exact Nat.ne_of_lt (blk_lt (g:=gb140) (o:=.cells #[.int .u64 a0_0,.slice A0_1 l0_1.length c0_1] 39 (0,0)) (by (with_reducible repeat (first|refine blk_drewN ?_ _|refine blk_drew ?_|refine blk_alloc ?_ _));exact BK140.out)):gb140≠gb141));have n6_:=Aside0.mk ((by rw [hg];exact Nat.ne_of_gt (blk_lt (g:=gb140) (o:=.cells #[.int .u64 a0_0,.slice A0_1 l0_1.length c0_1] 39 (0,0)) (by (with_reducible repeat (first|refine blk_drewN ?_ _|refine blk_drew ?_|refine blk_alloc ?_ _));exact BK140.out)):gb141≠gb140));clear BK140;clear HB;have BK140:=n0_;have HB:=n1_;have BK141:=n2_;have GW141:=n3_;have GE141:=n4_;have NB140_141:=n5_;have NB141_140:=n6_;clear n0_ n1_ n2_ n3_ n4_ n5_ n6_;clear hb hbox hg;have hnb31:=NB140_141.out;have hnc31:=NB141_140.out;have hcz32_0:w30.cell? ⟨gb140,0,none⟩=some (.int .u64 a0_0):=(blk_cell BK140.out 0).trans rfl;have hcz32_1:w30.cell? ⟨gb140,1,none⟩=some (.slice A0_1 l0_1.length c0_1):=(blk_cell BK140.out 1).trans rfl;have hfz32_0:=blk_frozen BK140.out 0;have hfz32_1:=blk_frozen BK140.out 1;have hcz33_0:w30.cell? ⟨gb141,0,none⟩=some (.int .u64 a1_0):=(blk_cell BK141.out 0).trans rfl;have hcz33_1:w30.cell? ⟨gb141,1,none⟩=some (.slice A1_1 l1_1.length c1_1):=(blk_cell BK141.out 1).trans rfl;have hfz33_0:=blk_frozen BK141.out 0;have hfz33_1:=blk_frozen BK141.out 1))
     go_ret
     exact ⟨by first|rfl|(simp [errW_none,errW_some] <;> rfl)|(simp [*,errW_none,errW_some] <;> rfl),by repeat (first|(with_reducible first|exact HB.out|apply below_alloc|apply pw_below_drewN|apply below_drew1|refine below_set ?_ GE140.out|refine below_set ?_ GE141.out)|exact HB.out)⟩
    ·rw [if_neg c28] at H
     have c28b0:decide (0<(l1_1.length:Int))=false:=decide_eq_false c28
     have c28b1:decide (0<l1_1.length)=false:=decide_eq_false (by omega)
     clear c28
     obtain rfl:=Option.some.inj H
     go_enter Try.func70,Try.ntmps70
     go_wp2_with (first|((with_reducible refine gate_dst (N:=2) rfl ?_);(try (refine gate_guard (by rfl) ?_;dsimp only));refine box_event ?hg (N:=2) ?hd (cs:=#[.int .u64 a0_0,.slice A0_1 l0_1.length c0_1]) (t:=39) ?hr ?_;(case hd=>rfl);(case hg=>rfl);(case hr=>first|(go_simp;done)|(go_simp;rfl));intro gb140 hg w34 hbox hb;have n0_:=Aside0.mk (below_step (by repeat (first|(with_reducible first|exact HB.out|apply below_alloc|apply pw_below_drewN|apply below_drew1)|exact HB.out)) hb);have n1_:=Aside0.mk (hbox);have n2_:=Aside0.mk ((by rw [hg];exact (below_size (by repeat (first|(with_reducible first|exact HB.out|apply below_alloc|apply pw_below_drewN|apply below_drew1)|exact HB.out))):w.heap.size≤gb140));have n3_:=Aside0.mk ((by rw [hg];exact (below_size (by repeat (first|(with_reducible first|exact HB.out|apply below_alloc|apply pw_below_drewN|apply below_drew1)|exact HB.out))):w.heap.size≤gb140));clear HB;have HB:=n0_;have BK140:=n1_;have GW140:=n2_;have GE140:=n3_;clear n0_ n1_ n2_ n3_;clear hb hbox hg)|((with_reducible refine gate_dst (N:=3) rfl ?_);(try (refine gate_guard (by rfl) ?_;dsimp only));refine box_event ?hg (N:=3) ?hd (cs:=#[.int .u64 a1_0,.slice A1_1 l1_1.length c1_1]) (t:=39) ?hr ?_;(case hd=>rfl);(case hg=>rfl);(case hr=>first|(go_simp;done)|(go_simp;rfl));intro gb141 hg w35 hbox hb;have n0_:=Aside0.mk (blk_below (g:=gb140) (o:=.cells #[.int .u64 a0_0,.slice A0_1 l0_1.length c0_1] 39 (0,0)) (by (with_reducible repeat (first|refine blk_drewN ?_ _|refine blk_drew ?_|refine blk_alloc ?_ _));exact BK140.out) hb);have n1_:=Aside0.mk (below_step (by repeat (first|(with_reducible first|exact HB.out|apply below_alloc|apply pw_below_drewN|apply below_drew1|refine below_set ?_ GE140.out)|exact HB.out)) hb);have n2_:=Aside0.mk (hbox);have n3_:=Aside0.mk ((by rw [hg];exact (below_size (by repeat (first|(with_reducible first|exact HB.out|apply below_alloc|apply pw_below_drewN|apply below_drew1|refine below_set ?_ GE140.out)|exact HB.out))):w.heap.size≤gb141));have n4_:=Aside0.mk ((by rw [hg];exact (below_size (by repeat (first|(with_reducible first|exact HB.out|apply below_alloc|apply pw_below_drewN|apply below_drew1|refine below_set ?_ GE140.out)|exact HB.out))):w.heap.size≤gb141));have n5_:=Aside0.mk ((by rw [hg];exact Nat.ne_of_lt (blk_lt (g:=gb140) (o:=.cells #[.int .u64 a0_0,.slice A0_1 l0_1.length c0_1] 39 (0,0)) (by (with_reducible repeat (first|refine blk_drewN ?_ _|refine blk_drew ?_|refine blk_alloc ?_ _));exact BK140.out)):gb140≠gb141));have n6_:=Aside0.mk ((by rw [hg];exact Nat.ne_of_gt (blk_lt (g:=gb140) (o:=.cells #[.int .u64 a0_0,.slice A0_1 l0_1.length c0_1] 39 (0,0)) (by (with_reducible repeat (first|refine blk_drewN ?_ _|refine blk_drew ?_|refine blk_alloc ?_ _));exact BK140.out)):gb141≠gb140));clear BK140;clear HB;have BK140:=n0_;have HB:=n1_;have BK141:=n2_;have GW141:=n3_;have GE141:=n4_;have NB140_141:=n5_;have NB141_140:=n6_;clear n0_ n1_ n2_ n3_ n4_ n5_ n6_;clear hb hbox hg;have hnb36:=NB140_141.out;have hnc36:=NB141_140.out;have hcz37_0:w35.cell? ⟨gb140,0,none⟩=some (.int .u64 a0_0):=(blk_cell BK140.out 0).trans rfl;have hcz37_1:w35.cell? ⟨gb140,1,none⟩=some (.slice A0_1 l0_1.length c0_1):=(blk_cell BK140.out 1).trans rfl;have hfz37_0:=blk_frozen BK140.out 0;have hfz37_1:=blk_frozen BK140.out 1;have hcz38_0:w35.cell? ⟨gb141,0,none⟩=some (.int .u64 a1_0):=(blk_cell BK141.out 0).trans rfl;have hcz38_1:w35.cell? ⟨gb141,1,none⟩=some (.slice A1_1 l1_1.length c1_1):=(blk_cell BK141.out 1).trans rfl;have hfz38_0:=blk_frozen BK141.out 0;have hfz38_1:=blk_frozen BK141.out 1))
     go_ret
     exact ⟨by first|rfl|(simp [errW_none,errW_some] <;> rfl)|(simp [*,errW_none,errW_some] <;> rfl),by repeat (first|(with_reducible first|exact HB.out|apply below_alloc|apply pw_below_drewN|apply below_drew1|refine below_set ?_ GE140.out|refine below_set ?_ GE141.out)|exact HB.out)⟩
   ·rw [if_neg c27] at H
    have c27b0:decide (0<(l0_1.length:Int))=false:=decide_eq_false c27
    have c27b1:decide (0<l0_1.length)=false:=decide_eq_false (by omega)
    clear c27
    obtain rfl:=Option.some.inj H
    go_enter Try.func70,Try.ntmps70
    go_wp2_with (first|((with_reducible refine gate_dst (N:=2) rfl ?_);(try (refine gate_guard (by rfl) ?_;dsimp only));refine box_event ?hg (N:=2) ?hd (cs:=#[.int .u64 a0_0,.slice A0_1 l0_1.length c0_1]) (t:=39) ?hr ?_;(case hd=>rfl);(case hg=>rfl);(case hr=>first|(go_simp;done)|(go_simp;rfl));intro gb140 hg w39 hbox hb;have n0_:=Aside0.mk (below_step (by repeat (first|(with_reducible first|exact HB.out|apply below_alloc|apply pw_below_drewN|apply below_drew1)|exact HB.out)) hb);have n1_:=Aside0.mk (hbox);have n2_:=Aside0.mk ((by rw [hg];exact (below_size (by repeat (first|(with_reducible first|exact HB.out|apply below_alloc|apply pw_below_drewN|apply below_drew1)|exact HB.out))):w.heap.size≤gb140));have n3_:=Aside0.mk ((by rw [hg];exact (below_size (by repeat (first|(with_reducible first|exact HB.out|apply below_alloc|apply pw_below_drewN|apply below_drew1)|exact HB.out))):w.heap.size≤gb140));clear HB;have HB:=n0_;have BK140:=n1_;have GW140:=n2_;have GE140:=n3_;clear n0_ n1_ n2_ n3_;clear hb hbox hg)|((with_reducible refine gate_dst (N:=3) rfl ?_);(try (refine gate_guard (by rfl) ?_;dsimp only));refine box_event ?hg (N:=3) ?hd (cs:=#[.int .u64 a1_0,.slice A1_1 l1_1.length c1_1]) (t:=39) ?hr ?_;(case hd=>rfl);(case hg=>rfl);(case hr=>first|(go_simp;done)|(go_simp;rfl));intro gb141 hg w40 hbox hb;have n0_:=Aside0.mk (blk_below (g:=gb140) (o:=.cells #[.int .u64 a0_0,.slice A0_1 l0_1.length c0_1] 39 (0,0)) (by (with_reducible repeat (first|refine blk_drewN ?_ _|refine blk_drew ?_|refine blk_alloc ?_ _));exact BK140.out) hb);have n1_:=Aside0.mk (below_step (by repeat (first|(with_reducible first|exact HB.out|apply below_alloc|apply pw_below_drewN|apply below_drew1|refine below_set ?_ GE140.out)|exact HB.out)) hb);have n2_:=Aside0.mk (hbox);have n3_:=Aside0.mk ((by rw [hg];exact (below_size (by repeat (first|(with_reducible first|exact HB.out|apply below_alloc|apply pw_below_drewN|apply below_drew1|refine below_set ?_ GE140.out)|exact HB.out))):w.heap.size≤gb141));have n4_:=Aside0.mk ((by rw [hg];exact (below_size (by repeat (first|(with_reducible first|exact HB.out|apply below_alloc|apply pw_below_drewN|apply below_drew1|refine below_set ?_ GE140.out)|exact HB.out))):w.heap.size≤gb141));have n5_:=Aside0.mk ((by rw [hg];exact Nat.ne_of_lt (blk_lt (g:=gb140) (o:=.cells #[.int .u64 a0_0,.slice A0_1 l0_1.length c0_1] 39 (0,0)) (by (with_reducible repeat (first|refine blk_drewN ?_ _|refine blk_drew ?_|refine blk_alloc ?_ _));exact BK140.out)):gb140≠gb141));have n6_:=Aside0.mk ((by rw [hg];exact Nat.ne_of_gt (blk_lt (g:=gb140) (o:=.cells #[.int .u64 a0_0,.slice A0_1 l0_1.length c0_1] 39 (0,0)) (by (with_reducible repeat (first|refine blk_drewN ?_ _|refine blk_drew ?_|refine blk_alloc ?_ _));exact BK140.out)):gb141≠gb140));clear BK140;clear HB;have BK140:=n0_;have HB:=n1_;have BK141:=n2_;have GW141:=n3_;have GE141:=n4_;have NB140_141:=n5_;have NB141_140:=n6_;clear n0_ n1_ n2_ n3_ n4_ n5_ n6_;clear hb hbox hg;have hnb41:=NB140_141.out;have hnc41:=NB141_140.out;have hcz42_0:w40.cell? ⟨gb140,0,none⟩=some (.int .u64 a0_0):=(blk_cell BK140.out 0).trans rfl;have hcz42_1:w40.cell? ⟨gb140,1,none⟩=some (.slice A0_1 l0_1.length c0_1):=(blk_cell BK140.out 1).trans rfl;have hfz42_0:=blk_frozen BK140.out 0;have hfz42_1:=blk_frozen BK140.out 1;have hcz43_0:w40.cell? ⟨gb141,0,none⟩=some (.int .u64 a1_0):=(blk_cell BK141.out 0).trans rfl;have hcz43_1:w40.cell? ⟨gb141,1,none⟩=some (.slice A1_1 l1_1.length c1_1):=(blk_cell BK141.out 1).trans rfl;have hfz43_0:=blk_frozen BK141.out 0;have hfz43_1:=blk_frozen BK141.out 1))
    go_ret
    exact ⟨by first|rfl|(simp [errW_none,errW_some] <;> rfl)|(simp [*,errW_none,errW_some] <;> rfl),by repeat (first|(with_reducible first|exact HB.out|apply below_alloc|apply pw_below_drewN|apply below_drew1|refine below_set ?_ GE140.out|refine below_set ?_ GE141.out)|exact HB.out)⟩
def spindleref20_copied.f (a0_0:Int) (l0_1:List Int):Option (Int × List Int):=if ([]:List Int).length+l0_1.length<140737488355328 then (some (a0_0,(([]:List Int) ++ l0_1))) else (none)
theorem spindleref20_copied.calls (a0_0:Int) (A0_1:Option Addr) (c0_1:Nat) (l0_1:List Int) (r1:Int) (r2:List Int) (w:World) (hr0_1:Kd.C (Kd.int .u8) w A0_1 l0_1.length l0_1) (hc0_1:l0_1.length≤c0_1) (h:spindleref20_copied.f a0_0 l0_1=some (r1,r2)) :
  Calls Try.prog 72 #[.agg #[.int .u64 a0_0,.slice A0_1 l0_1.length c0_1]] w fun e w'=>∃ v1_:Value,e=.returned (.agg #[.int .u64 r1,v1_])∧Kd.R (Kd.int .u8) 5 w' w.heap.size (fun _=>True) v1_ r2∧Below w.heap.size w w':=by
 have hu39:=Try.underlying39
 have HR0_1:=Aside0.mk hr0_1
 have HC0_1:=Aside0.mk hc0_1
 clear hr0_1 hc0_1
 have HB:=Aside0.mk (Below.refl w.heap.size w)
 have H:(if ([]:List Int).length+l0_1.length<140737488355328 then (some (a0_0,(([]:List Int) ++ l0_1))) else (none))=some (r1,r2):=h
 clear h
 by_cases c2:([]:List Int).length+l0_1.length<140737488355328
 ·rw [if_pos c2] at H
  have LMc2:=Aside0.mk c2
  clear c2
  obtain ⟨y144,hy144⟩:∃ y_:List Int,y_=(([]:List Int) ++ l0_1):=⟨_,rfl⟩
  replace H:(some (a0_0,y144))=some (r1,r2):=by first|(rw [hy144];with_reducible exact H)|(have H2_:=(Option.bind_some _ _).symm.trans H;rw [hy144];with_reducible exact H2_)|(have H2_:=(Option.bind_some _ _).symm.trans H;with_reducible exact H2_)|with_reducible exact H|(rw [hy144];exact H)|exact H
  have Ny144:=Aside0.mk hy144
  clear hy144
  simp only [Option.some.injEq,Prod.mk.injEq] at H
  obtain ⟨rfl,rfl⟩:=H
  go_enter Try.func72,Try.ntmps72
  try go_wp2_with (first|((with_reducible refine gate_dst (N:=1) rfl ?_);refine box_event ?hg (N:=1) ?hd (cs:=#[.int .u64 a0_0,.slice A0_1 l0_1.length c0_1]) (t:=39) ?hr ?_;(case hd=>rfl);(case hg=>rfl);(case hr=>first|(go_simp;done)|(go_simp;rfl));intro gb142 hg w3 hbox hb;have n0_:=Aside0.mk (below_step (by repeat (first|(with_reducible first|exact HB.out|apply below_alloc|apply pw_below_drewN|apply below_drew1)|exact HB.out)) hb);have n1_:=Aside0.mk (hbox);have n2_:=Aside0.mk ((by rw [hg];exact (below_size (by repeat (first|(with_reducible first|exact HB.out|apply below_alloc|apply pw_below_drewN|apply below_drew1)|exact HB.out))):w.heap.size≤gb142));have n3_:=Aside0.mk ((by rw [hg];exact (below_size (by repeat (first|(with_reducible first|exact HB.out|apply below_alloc|apply pw_below_drewN|apply below_drew1)|exact HB.out))):w.heap.size≤gb142));clear HB;have HB:=n0_;have BK142:=n1_;have GW142:=n2_;have GE142:=n3_;clear n0_ n1_ n2_ n3_;clear hb hbox hg)|((with_reducible refine gate_dst (N:=2) rfl ?_);refine box_event ?hg (N:=2) ?hd (cs:=#[.int .u64 0,.slice none 0 0]) (t:=39) ?hr ?_;(case hd=>rfl);(case hg=>rfl);(case hr=>first|(go_simp;done)|(go_simp;rfl));intro gb143 hg w4 hbox hb;have n0_:=Aside0.mk (blk_below (g:=gb142) (o:=.cells #[.int .u64 a0_0,.slice A0_1 l0_1.length c0_1] 39 (0,0)) (by (with_reducible repeat (first|refine blk_drewN ?_ _|refine blk_drew ?_|refine blk_alloc ?_ _));exact BK142.out) hb);have n1_:=Aside0.mk (below_step (by repeat (first|(with_reducible first|exact HB.out|apply below_alloc|apply pw_below_drewN|apply below_drew1|refine below_set ?_ GE142.out)|exact HB.out)) hb);have n2_:=Aside0.mk (hbox);have n3_:=Aside0.mk ((by rw [hg];exact (below_size (by repeat (first|(with_reducible first|exact HB.out|apply below_alloc|apply pw_below_drewN|apply below_drew1|refine below_set ?_ GE142.out)|exact HB.out))):w.heap.size≤gb143));have n4_:=Aside0.mk ((by rw [hg];exact (below_size (by repeat (first|(with_reducible first|exact HB.out|apply below_alloc|apply pw_below_drewN|apply below_drew1|refine below_set ?_ GE142.out)|exact HB.out))):w.heap.size≤gb143));have n5_:=Aside0.mk ((by rw [hg];exact Nat.ne_of_lt (blk_lt (g:=gb142) (o:=.cells #[.int .u64 a0_0,.slice A0_1 l0_1.length c0_1] 39 (0,0)) (by (with_reducible repeat (first|refine blk_drewN ?_ _|refine blk_drew ?_|refine blk_alloc ?_ _));exact BK142.out)):gb142≠gb143));have n6_:=Aside0.mk ((by rw [hg];exact Nat.ne_of_gt (blk_lt (g:=gb142) (o:=.cells #[.int .u64 a0_0,.slice A0_1 l0_1.length c0_1] 39 (0,0)) (by (with_reducible repeat (first|refine blk_drewN ?_ _|refine blk_drew ?_|refine blk_alloc ?_ _));exact BK142.out)):gb143≠gb142));clear BK142;clear HB;have BK142:=n0_;have HB:=n1_;have BK143:=n2_;have GW143:=n3_;have GE143:=n4_;have NB142_143:=n5_;have NB143_142:=n6_;clear n0_ n1_ n2_ n3_ n4_ n5_ n6_;clear hb hbox hg))
  have n0_:=Aside0.mk (blk_drew BK142.out)
  have n1_:=Aside0.mk (blk_drew BK143.out)
  have n2_:=Aside0.mk (below_drew1 HB.out)
  clear BK142 BK143 HB
  have BK142:=n0_
  have BK143:=n1_
  have HB:=n2_
  clear n0_ n1_ n2_
  refine start_ (n:=7) (S:=fun w'=>w'.cell? ⟨gb142,0,none⟩=some (.int .u64 a0_0)∧w'.cell? ⟨gb142,1,none⟩=some (.slice A0_1 l0_1.length c0_1)) (ds:=[]) #[false,false,false,false,false,false,false] (by kernel_rfl) rfl rfl ⟨(blk_cell BK142.out 0).trans rfl,(blk_cell BK142.out 1).trans rfl⟩ (fun hHeld=>?_)
  generalize w4.drew=w5 at BK142 BK143 HB hHeld ⊢
  refine pure_ (i:=0) (N:=some 3) (v:=?_) (a':=?_) #[true,false,false,false,false,false,false] rfl rfl (by kernel_rfl) (fun _ _ _ h=>h) (Or.inl ⟨by rfl,?_⟩) ?_ ?_
  rotate_left
  ·intro w'
   go_simp
   with_reducible rfl
  rotate_left
  ·simp only [Act.put,List.setIfInBounds_toArray,List.set_cons_zero,List.set_cons_succ,i64_w,i32_w]
   rfl
  refine pure_ (i:=2) (N:=some 5) (v:=?_) (a':=?_) #[true,false,true,false,false,false,false] rfl rfl (by kernel_rfl) (fun _ _ _ h=>h) (Or.inl ⟨by rfl,?_⟩) ?_ ?_
  rotate_left
  ·intro w'
   go_simp
   with_reducible rfl
  rotate_left
  ·simp only [Act.put,List.setIfInBounds_toArray,List.set_cons_zero,List.set_cons_succ,i64_w,i32_w]
   rfl
  refine take_ (i:=1) (N:=some 4) (v:=?_) (a':=?_) #[true,true,true,false,false,false,false] rfl rfl (by kernel_rfl) (fun _ _ _ h=>h) (Or.inl ⟨by rfl,?_⟩) hHeld ?_ ?_
  rotate_left
  ·rintro w' ⟨s0,s1⟩
   go_simp
   with_reducible rfl
  rotate_left
  ·simp only [Act.put,List.setIfInBounds_toArray,List.set_cons_zero,List.set_cons_succ,i64_w,i32_w]
   rfl
  refine take_ (i:=3) (N:=some 6) (v:=?_) (a':=?_) #[true,true,true,true,false,false,false] rfl rfl (by kernel_rfl) (fun _ _ _ h=>h) (Or.inl ⟨by rfl,?_⟩) hHeld ?_ ?_
  rotate_left
  ·rintro w' ⟨s0,s1⟩
   go_simp
   with_reducible rfl
  rotate_left
  ·simp only [Act.put,List.setIfInBounds_toArray,List.set_cons_zero,List.set_cons_succ,i64_w,i32_w]
   rfl
  refine one_ (i:=4) (N:=some 7) #[true,true,true,true,true,false,false] rfl rfl (by kernel_rfl) (by decide) (fun K hK=>?_)
  refine Kd.R_append_rows_step (Kd.int .u8) (w0:=w) w.heap.size rfl (.const (.slice none 0 0)) (.tmp 6) 37 5 (.int .u8 0) 1 rfl Try.underlying37 info5 rfl (by decide) (by omega) (.slice none 0 0) ([]:List Int) l0_1 _ _ _ (fun _=>True) (fun _=>False) rfl rfl ?aO ?aR (fun _ _ h=>h) (fun _ h=>h.elim) ?aF ?aB ?aS ?aL ?_
  (case aR=>repeat (first|exact (Kd.C_below HR0_1.out HB.out)|(with_reducible refine Kd.C_alloc ?_ _)|(with_reducible refine Kd.C_drewN ?_ _)|(with_reducible refine Kd.C_drew ?_)))
  (case aB=>exact (by repeat (first|(with_reducible first|exact HB.out|apply below_alloc|apply pw_below_drewN|apply below_drew1|refine below_set ?_ GE142.out|refine below_set ?_ GE143.out)|exact HB.out)))
  (case aF=>exact (fun _ _=>trivial))
  (case aO=>exact ((Kd.R_nil _ _ _ _ (fun _=>True))))
  (case aS=>exact (below_size (by repeat (first|(with_reducible first|exact HB.out|apply below_alloc|apply pw_below_drewN|apply below_drew1|refine below_set ?_ GE142.out|refine below_set ?_ GE143.out)|exact HB.out))))
  (case aL=>have:=LMc2.out;omega)
  intro v145 w6 ho hb hg hat
  rw [← Ny144.out] at ho
  have n0_:=Aside0.mk (blk_grown (g:=gb142) (o:=.cells #[.int .u64 a0_0,.slice A0_1 l0_1.length c0_1] 39 (0,0)) (by (with_reducible repeat (first|refine blk_drewN ?_ _|refine blk_drew ?_|refine blk_alloc ?_ _));exact BK142.out) hg (by simp [Value.ownBlock]))
  have n1_:=Aside0.mk (blk_grown (g:=gb143) (o:=.cells #[.int .u64 0,.slice none 0 0] 39 (0,0)) (by (with_reducible repeat (first|refine blk_drewN ?_ _|refine blk_drew ?_|refine blk_alloc ?_ _));exact BK143.out) hg (by simp [Value.ownBlock]))
  have n2_:=Aside0.mk (hb)
  have n3_:=Aside0.mk (ho)
  clear BK142 BK143 HB
  have BK142:=n0_
  have BK143:=n1_
  have HB:=n2_
  have HO146:=n3_
  clear n0_ n1_ n2_ n3_ ho hb hg hat
  obtain ⟨Ao7,co7,eo7⟩:=Kd.R_slice HO146.out
  (first|subst eo7|(injection eo7 with f1_ f2_ f3_;have f4_:=f1_.symm;have f5_:=f3_.symm;clear f1_ f2_ f3_;subst f4_;subst f5_))
  refine hK.out _ _ ⟨(blk_cell BK142.out 0).trans rfl,(blk_cell BK142.out 1).trans rfl⟩ (fun hHeld=>?_)
  clear hK K
  refine norm_ (a':=?_) ?_ ?_
  rotate_left
  ·show Act.put _ (some 7) _=_
   simp only [Act.put,List.setIfInBounds_toArray,List.set_cons_zero,List.set_cons_succ,i64_w,i32_w]
   rfl
  refine pure_ (i:=5) (N:=some 8) (v:=?_) (a':=?_) #[true,true,true,true,true,true,false] rfl rfl (by kernel_rfl) (fun _ _ _ h=>h) (Or.inl ⟨by rfl,?_⟩) ?_ ?_
  rotate_left
  ·intro w'
   go_simp
   with_reducible rfl
  rotate_left
  ·simp only [Act.put,List.setIfInBounds_toArray,List.set_cons_zero,List.set_cons_succ,i64_w,i32_w]
   rfl
  refine one_ (i:=6) (N:=none) #[true,true,true,true,true,true,true] rfl rfl (by kernel_rfl) (by decide) (fun K hK=>?_)
  have hs8:w6.cell? ⟨gb143,0,none⟩=some (.int .u64 0):=(blk_cell BK143.out 0).trans rfl
  have hfs8:=blk_frozen BK143.out 0
  have hns8_0:=NB142_143.out
  have hms8_0:=NB143_142.out
  have hs9:w6.cell? ⟨gb143,1,none⟩=some (.slice none 0 0):=(blk_cell BK143.out 1).trans rfl
  have hfs9:=blk_frozen BK143.out 1
  have hns9_0:=NB142_143.out
  have hms9_0:=NB143_142.out
  refine skip_ (w1:=?_) (by rfl) rfl ?_ ?_
  rotate_left
  ·go_simp
   rfl
  refine hK.out _ _ ⟨((cell_far (p:=⟨gb143,_,none⟩) NB142_143.out _).trans (((cell_far (p:=⟨gb143,_,none⟩) NB142_143.out _).trans (hHeld.1)))),((cell_far (p:=⟨gb143,_,none⟩) NB142_143.out _).trans (((cell_far (p:=⟨gb143,_,none⟩) NB142_143.out _).trans (hHeld.2))))⟩ (fun hHeld=>?_)
  clear hK K
  refine done_ (by kernel_rfl) ?_
  try go_wp2
  refine bodyPost_ret (results_cell_row rfl _ _ gb143 39 #[.int .u64 a0_0,.slice Ao7 y144.length co7] (0,0) _ rfl (by (with_reducible repeat (first|refine blk_drewN ?_ _|refine blk_drew ?_|refine blk_alloc ?_ _));refine blk_put (cs:=#[.int .u64 a0_0,.slice none 0 0]) ?_ 1 _ rfl;(with_reducible repeat (first|refine blk_drewN ?_ _|refine blk_drew ?_|refine blk_alloc ?_ _));refine blk_put (cs:=#[.int .u64 0,.slice none 0 0]) ?_ 0 _ rfl;(with_reducible repeat (first|refine blk_drewN ?_ _|refine blk_drew ?_|refine blk_alloc ?_ _));exact BK143.out) Try.underlying39 rfl (by kernel_rfl)) rfl ?_
  exact ⟨_,by first|rfl|(simp [errW_none,errW_some] <;> rfl)|(simp [*,errW_none,errW_some] <;> rfl),by (with_reducible repeat (first|apply Kd.R_alloc|apply Kd.R_drewN|apply Kd.R_drew));exact Kd.R_mono (Kd.R_far (p:=⟨gb143,1,none⟩) (Kd.R_far (p:=⟨gb143,0,none⟩) (Kd.R_types HO146.out BK143.out (by decide)) (fun _ hk=>hk.2) (.int .u64 a0_0)) (fun _ hk=>hk.2) (.slice Ao7 y144.length co7)) (fun _ hk=>trivial),by repeat (first|(with_reducible first|exact HB.out|apply below_alloc|apply pw_below_drewN|apply below_drew1|refine below_set ?_ GE142.out|refine below_set ?_ GE143.out)|exact HB.out)⟩
 ·rw [if_neg c2] at H
  exact absurd H (by simp)
def spindleref20_Space_Copy.l0:Nat→Int→List (S39)→List (S39)→Option ((List (S39)))
 | 0,_,_,_=>none
 | k+1,x4,x148000,x150000=>if x4<(x148000.length:Int) then (if 0≤x4 then ((spindleref20_copied.f ((rd_T39 x148000 x4).f0) ((rd_T39 x148000 x4).f1)).bind fun bt151=>(if x150000.length<4398046511104 then (spindleref20_Space_Copy.l0 k (wrap64 (x4+1)) x148000 (x150000 ++ [(⟨bt151.1,bt151.2⟩:S39)])) else (none))) else (none)) else (some x150000)
def spindleref20_Space_Copy.f (k:Nat) (l0_0:List (S39)):Option ((List (S39))):=spindleref20_Space_Copy.l0 k 0 l0_0 ([]:List (S39))
def spindleref20_Space_Copy.T5:Bool × List (List Nat × List Nat):=(true,[([],[]),([0],[0]),([],[]),([2],[2]),([],[]),([3,4],[3,4]),([5],[5]),([6],[6]),([7],[7]),([1,8,7],[1,8]),([0,1,2,3,4,5,6,7,8,9],[]),([10,9,9,0,1,2,3,4,5,6,7,8,9],[9,10])])
def spindleref20_Space_Copy.B5:List Nat:=[0,1,0,4,0,28,60,124,252,511,1023,2047]
theorem spindleref20_Space_Copy.tab5:rtab .any (opsOf Try.f71 5)=spindleref20_Space_Copy.T5:=by kernel_rfl
theorem spindleref20_Space_Copy.bits5:waitsOk spindleref20_Space_Copy.T5.2 spindleref20_Space_Copy.B5=true:=by kernel_rfl
theorem spindleref20_Space_Copy.calls (k:Nat) (A0_0:Option Addr) (c0_0:Nat) (l0_0:List (S39)) (r:List (S39)) (w:World) (hr0_0:Kd.C k39 w A0_0 l0_0.length l0_0) (hc0_0:l0_0.length≤c0_0) (h:spindleref20_Space_Copy.f k l0_0=some r) :
  Calls Try.prog 71 #[.agg #[.slice A0_0 l0_0.length c0_0]] w fun e w'=>∃ v0_:Value,e=.returned (.agg #[v0_])∧Kd.S k39 39 w' w.heap.size (fun _=>True) v0_ r∧Below w.heap.size w w':=by
 have hu78:=Try.underlying78
 have hu39:=Try.underlying39
 have HR0_0:=Aside0.mk hr0_0
 have HC0_0:=Aside0.mk hc0_0
 clear hr0_0 hc0_0
 have HB:=Aside0.mk (Below.refl w.heap.size w)
 have H:(spindleref20_Space_Copy.l0 k 0 l0_0 ([]:List (S39)))=some r:=h
 clear h
 have H':=Aside0.mk H
 clear H
 go_enter Try.func71,Try.ntmps71
 go_wp2_with (first|((with_reducible refine gate_dst (N:=1) rfl ?_);refine box_event ?hg (N:=1) ?hd (cs:=#[.slice A0_0 l0_0.length c0_0]) (t:=78) ?hr ?_;(case hd=>rfl);(case hg=>rfl);(case hr=>first|(go_simp;done)|(go_simp;rfl));intro gb147 hg w2 hbox hb;have n0_:=Aside0.mk (below_step (by repeat (first|(with_reducible first|exact HB.out|apply below_alloc|apply pw_below_drewN|apply below_drew1)|exact HB.out)) hb);have n1_:=Aside0.mk (hbox);have n2_:=Aside0.mk ((by rw [hg];exact (below_size (by repeat (first|(with_reducible first|exact HB.out|apply below_alloc|apply pw_below_drewN|apply below_drew1)|exact HB.out))):w.heap.size≤gb147));have n3_:=Aside0.mk ((by rw [hg];exact (below_size (by repeat (first|(with_reducible first|exact HB.out|apply below_alloc|apply pw_below_drewN|apply below_drew1)|exact HB.out))):w.heap.size≤gb147));clear HB;have HB:=n0_;have BK147:=n1_;have GW147:=n2_;have GE147:=n3_;clear n0_ n1_ n2_ n3_;clear hb hbox hg)|((with_reducible refine gate_dst (N:=2) rfl ?_);refine box_event ?hg (N:=2) ?hd (cs:=#[.slice none 0 0]) (t:=78) ?hr ?_;(case hd=>rfl);(case hg=>rfl);(case hr=>first|(go_simp;done)|(go_simp;rfl));intro gb148 hg w3 hbox hb;have n0_:=Aside0.mk (blk_below (g:=gb147) (o:=.cells #[.slice A0_0 l0_0.length c0_0] 78 (0,0)) (by (with_reducible repeat (first|refine blk_drewN ?_ _|refine blk_drew ?_|refine blk_alloc ?_ _));exact BK147.out) hb);have n1_:=Aside0.mk (below_step (by repeat (first|(with_reducible first|exact HB.out|apply below_alloc|apply pw_below_drewN|apply below_drew1|refine below_set ?_ GE147.out)|exact HB.out)) hb);have n2_:=Aside0.mk (hbox);have n3_:=Aside0.mk ((by rw [hg];exact (below_size (by repeat (first|(with_reducible first|exact HB.out|apply below_alloc|apply pw_below_drewN|apply below_drew1|refine below_set ?_ GE147.out)|exact HB.out))):w.heap.size≤gb148));have n4_:=Aside0.mk ((by rw [hg];exact (below_size (by repeat (first|(with_reducible first|exact HB.out|apply below_alloc|apply pw_below_drewN|apply below_drew1|refine below_set ?_ GE147.out)|exact HB.out))):w.heap.size≤gb148));have n5_:=Aside0.mk ((by rw [hg];exact Nat.ne_of_lt (blk_lt (g:=gb147) (o:=.cells #[.slice A0_0 l0_0.length c0_0] 78 (0,0)) (by (with_reducible repeat (first|refine blk_drewN ?_ _|refine blk_drew ?_|refine blk_alloc ?_ _));exact BK147.out)):gb147≠gb148));have n6_:=Aside0.mk ((by rw [hg];exact Nat.ne_of_gt (blk_lt (g:=gb147) (o:=.cells #[.slice A0_0 l0_0.length c0_0] 78 (0,0)) (by (with_reducible repeat (first|refine blk_drewN ?_ _|refine blk_drew ?_|refine blk_alloc ?_ _));exact BK147.out)):gb148≠gb147));clear BK147;clear HB;have BK147:=n0_;have HB:=n1_;have BK148:=n2_;have GW148:=n3_;have GE148:=n4_;have NB147_148:=n5_;have NB148_147:=n6_;clear n0_ n1_ n2_ n3_ n4_ n5_ n6_;clear hb hbox hg)|((with_reducible refine gate_dst (N:=3) rfl ?_);refine box_event ?hg (N:=3) ?hd (cs:=#[.slice none 0 0]) (t:=78) ?hr ?_;(case hd=>rfl);(case hg=>rfl);(case hr=>first|(go_simp;done)|(go_simp;rfl));intro gb149 hg w4 hbox hb;have n0_:=Aside0.mk (blk_below (g:=gb147) (o:=.cells #[.slice A0_0 l0_0.length c0_0] 78 (0,0)) (by (with_reducible repeat (first|refine blk_drewN ?_ _|refine blk_drew ?_|refine blk_alloc ?_ _));exact BK147.out) hb);have n1_:=Aside0.mk (blk_below (g:=gb148) (o:=.cells #[.slice none 0 0] 78 (0,0)) (by (with_reducible repeat (first|refine blk_drewN ?_ _|refine blk_drew ?_|refine blk_alloc ?_ _));exact BK148.out) hb);have n2_:=Aside0.mk (below_step (by repeat (first|(with_reducible first|exact HB.out|apply below_alloc|apply pw_below_drewN|apply below_drew1|refine below_set ?_ GE147.out|refine below_set ?_ GE148.out)|exact HB.out)) hb);have n3_:=Aside0.mk (hbox);have n4_:=Aside0.mk ((by rw [hg];exact (below_size (by repeat (first|(with_reducible first|exact HB.out|apply below_alloc|apply pw_below_drewN|apply below_drew1|refine below_set ?_ GE147.out|refine below_set ?_ GE148.out)|exact HB.out))):w.heap.size≤gb149));have n5_:=Aside0.mk ((by rw [hg];exact (below_size (by repeat (first|(with_reducible first|exact HB.out|apply below_alloc|apply pw_below_drewN|apply below_drew1|refine below_set ?_ GE147.out|refine below_set ?_ GE148.out)|exact HB.out))):w.heap.size≤gb149));have n6_:=Aside0.mk ((by rw [hg];exact Nat.ne_of_lt (blk_lt (g:=gb147) (o:=.cells #[.slice A0_0 l0_0.length c0_0] 78 (0,0)) (by (with_reducible repeat (first|refine blk_drewN ?_ _|refine blk_drew ?_|refine blk_alloc ?_ _));exact BK147.out)):gb147≠gb149));have n7_:=Aside0.mk ((by rw [hg];exact Nat.ne_of_gt (blk_lt (g:=gb147) (o:=.cells #[.slice A0_0 l0_0.length c0_0] 78 (0,0)) (by (with_reducible repeat (first|refine blk_drewN ?_ _|refine blk_drew ?_|refine blk_alloc ?_ _));exact BK147.out)):gb149≠gb147));have n8_:=Aside0.mk ((by rw [hg];exact Nat.ne_of_lt (blk_lt (g:=gb148) (o:=.cells #[.slice none 0 0] 78 (0,0)) (by (with_reducible repeat (first|refine blk_drewN ?_ _|refine blk_drew ?_|refine blk_alloc ?_ _));exact BK148.out)):gb148≠gb149));have n9_:=Aside0.mk ((by rw [hg];exact Nat.ne_of_gt (blk_lt (g:=gb148) (o:=.cells #[.slice none 0 0] 78 (0,0)) (by (with_reducible repeat (first|refine blk_drewN ?_ _|refine blk_drew ?_|refine blk_alloc ?_ _));exact BK148.out)):gb149≠gb148));clear BK147;clear BK148;clear HB;have BK147:=n0_;have BK148:=n1_;have HB:=n2_;have BK149:=n3_;have GW149:=n4_;have GE149:=n5_;have NB147_149:=n6_;have NB149_147:=n7_;have NB148_149:=n8_;have NB149_148:=n9_;clear n0_ n1_ n2_ n3_ n4_ n5_ n6_ n7_ n8_ n9_;clear hb hbox hg))
 go_loopg [4] k (fun kq v4 w'=>∃ (x4_1:Int) (x150000_1:List (S39)) (u150000:Value),v4=.int .i64 x4_1∧Aside0 (spindleref20_Space_Copy.l0 kq x4_1 l0_0 x150000_1=some r)∧Aside0 (kq≤k)∧Aside0 (Kd.S k39 39 w' w.heap.size (fun _=>True) u150000 x150000_1)∧Aside0 (w'.heap[gb147]?=some (.cells #[(.slice A0_0 l0_0.length c0_0)] 78 (0,0)))∧Aside0 (w'.heap[gb148]?=some (.cells #[(.slice none 0 0)] 78 (0,0)))∧Aside0 (w'.heap[gb149]?=some (.cells #[u150000] 78 (0,0)))∧Aside0 (Below w.heap.size w w'))
 case atStart=>exact ⟨(0),(([]:List (S39))),(.slice none 0 0),(by first|rfl|(simp;done)|(simp [*];done)),H',⟨Nat.le_refl _⟩,⟨by first|exact Kd.S_nil _ _ _ _ _|exact Kd.N_nil _ _ _ _ _|exact Kd.V_nil _ _ _ _ _|exact Kd.Q_nil _ _ _ _ _|exact Kd.R_nil _ _ _ _ _⟩,⟨by (with_reducible repeat (first|refine blk_drewN ?_ _|refine blk_drew ?_|refine blk_alloc ?_ _));exact BK147.out⟩,⟨by (with_reducible repeat (first|refine blk_drewN ?_ _|refine blk_drew ?_|refine blk_alloc ?_ _));exact BK148.out⟩,⟨by (with_reducible repeat (first|refine blk_drewN ?_ _|refine blk_drew ?_|refine blk_alloc ?_ _));exact BK149.out⟩,⟨by repeat (first|(with_reducible first|exact HB.out|apply below_alloc|apply pw_below_drewN|apply below_drew1|refine below_set ?_ GE147.out|refine below_set ?_ GE148.out|refine below_set ?_ GE149.out)|exact HB.out)⟩⟩
 case round =>
  clear H'
  try clear p2
  obtain ⟨x4_1,x150000_1,u150000,rfl,HA,HK1,HO_150000,BK147,BK148,BK149,HB⟩:=hrel
  cases gk with
  | zero=>exact absurd HA.out (by simp [spindleref20_Space_Copy.l0])
  | succ k1 =>
   have H:=HA.out
   clear HA
   simp only [spindleref20_Space_Copy.l0] at H
   by_cases c5:x4_1<(l0_0.length:Int)
   ·rw [if_pos c5] at H
    have c5b0:decide (x4_1<(l0_0.length:Int))=true:=decide_eq_true c5
    clear c5
    by_cases c6:0≤x4_1
    ·rw [if_pos c6] at H
     have c6b0:decide (0≤x4_1)=true:=decide_eq_true c6
     clear c6
     replace H:=Option.bind_eq_some_iff.mp H
     obtain ⟨⟨t151,t152⟩,A70,H⟩:=H
     replace H:(if x150000_1.length<4398046511104 then (spindleref20_Space_Copy.l0 k1 (wrap64 (x4_1+1)) l0_0 (x150000_1 ++ [(⟨t151,t152⟩:S39)])) else (none))=some r:=H
     have A7:=Aside0.mk A70
     clear A70
     by_cases c8:x150000_1.length<4398046511104
     ·rw [if_pos c8] at H
      have LMc8:=Aside0.mk c8
      clear c8
      obtain ⟨y155,hy155⟩:∃ y_:List (S39),y_=(x150000_1 ++ [(⟨t151,t152⟩:S39)]):=⟨_,rfl⟩
      replace H:(spindleref20_Space_Copy.l0 k1 (wrap64 (x4_1+1)) l0_0 y155)=some r:=by first|(rw [hy155];with_reducible exact H)|(have H2_:=(Option.bind_some _ _).symm.trans H;rw [hy155];with_reducible exact H2_)|(have H2_:=(Option.bind_some _ _).symm.trans H;with_reducible exact H2_)|with_reducible exact H|(rw [hy155];exact H)|exact H
      have Ny155:=Aside0.mk hy155
      clear hy155
      have H':=Aside0.mk H
      clear H
      have hnb9:=NB147_148.out
      have hnc9:=NB148_147.out
      have hnb10:=NB147_149.out
      have hnc10:=NB149_147.out
      have hcz11_0:wr.cell? ⟨gb147,0,none⟩=some (.slice A0_0 l0_0.length c0_0):=(blk_cell BK147.out 0).trans rfl
      have hfz11_0:=blk_frozen BK147.out 0
      try go_wp2
      have n0_:=Aside0.mk (Kd.S_drew HO_150000.out)
      have n1_:=Aside0.mk (blk_drew BK147.out)
      have n2_:=Aside0.mk (blk_drew BK148.out)
      have n3_:=Aside0.mk (blk_drew BK149.out)
      have n4_:=Aside0.mk (below_drew1 HB.out)
      clear HO_150000 BK147 BK148 BK149 HB
      have HO_150000:=n0_
      have BK147:=n1_
      have BK148:=n2_
      have BK149:=n3_
      have HB:=n4_
      clear n0_ n1_ n2_ n3_ n4_
      have p150:0≤(x4_1:Int):=of_decide_eq_true (by first|(with_reducible assumption)|assumption)
      have q150:x4_1<(l0_0.length:Int):=of_decide_eq_true (by first|(with_reducible assumption)|assumption)
      obtain ⟨ad150,A150_1,c150_1,e150,hx150_0,hx150_1,hl150_1,hi150_1⟩:=at_T39 HR0_0.out x4_1 p150 q150
      have hw150_1:=hx150_1
      have hw150_0:=hx150_0
      cases e150
      replace hx150_0:=(HB.out.cell (World.block_lt_of_cell? w _ hx150_0)).trans hx150_0
      replace hx150_1:=(HB.out.cell (World.block_lt_of_cell? w _ hx150_1)).trans hx150_1
      have HR150_1:=Aside0.mk hi150_1
      have HC150_1:=Aside0.mk hl150_1
      clear hi150_1 hl150_1
      replace p150:=eq_true p150
      replace q150:=eq_true q150
      refine start_ (n:=12) (S:=fun w'=>w'.cell? ⟨gb149,0,none⟩=some (u150000)∧w'.cell? ⟨gb147,0,none⟩=some (.slice (some ad150) l0_0.length c0_0)∧w'.cell? (ad150.add ((x4_1).toNat*2))=some (.int .u64 ((rd_T39 l0_0 x4_1).f0))∧w'.cell? ⟨(ad150.add ((x4_1).toNat*2)).block,(ad150.add ((x4_1).toNat*2)).off+1,none⟩=some (.slice A150_1 ((rd_T39 l0_0 x4_1).f1).length c150_1)) (ds:=[11]) #[false,false,false,false,false,false,false,false,false,false,false,false] (by kernel_rfl) rfl rfl ⟨(blk_cell BK149.out 0).trans rfl,(blk_cell BK147.out 0).trans rfl,((HB.out.cell (World.block_lt_of_cell? w _ hw150_0)).trans hw150_0),((HB.out.cell (World.block_lt_of_cell? w _ hw150_1)).trans hw150_1)⟩ (fun hHeld=>?_);refine with_tabW spindleref20_Space_Copy.tab5 spindleref20_Space_Copy.bits5 (fun HT_ HW_=>?_)
      generalize wr.drew=w12 at HO_150000 BK147 BK148 BK149 HB HR150_1 hx150_0 hx150_1 hHeld ⊢
      refine pure_ (i:=0) (N:=some 12) (v:=?_) (a':=?_) #[true,false,false,false,false,false,false,false,false,false,false,false] rfl rfl (any_of HT_.out (by kernel_rfl)) (fun _ _ _ h=>h) (Or.inl ⟨by rfl,?_⟩) ?_ ?_
      rotate_left
      ·intro w'
       go_simp
       with_reducible rfl
      rotate_left
      ·simp only [Act.put,List.setIfInBounds_toArray,List.set_cons_zero,List.set_cons_succ,i64_w,i32_w]
       rfl
      refine pure_ (i:=2) (N:=some 14) (v:=?_) (a':=?_) #[true,false,true,false,false,false,false,false,false,false,false,false] rfl rfl (any_of HT_.out (by kernel_rfl)) (fun _ _ _ h=>h) (Or.inl ⟨by rfl,?_⟩) ?_ ?_
      rotate_left
      ·intro w'
       go_simp
       with_reducible rfl
      rotate_left
      ·simp only [Act.put,List.setIfInBounds_toArray,List.set_cons_zero,List.set_cons_succ,i64_w,i32_w]
       rfl
      refine pure_ (i:=4) (N:=some 16) (v:=?_) (a':=?_) #[true,false,true,false,true,false,false,false,false,false,false,false] rfl rfl (any_of HT_.out (by kernel_rfl)) (fun _ _ _ h=>h) (Or.inl ⟨by rfl,?_⟩) ?_ ?_
      rotate_left
      ·intro w'
       go_simp
       with_reducible rfl
      rotate_left
      ·simp only [Act.put,List.setIfInBounds_toArray,List.set_cons_zero,List.set_cons_succ,i64_w,i32_w]
       rfl
      refine take_ (i:=1) (N:=some 13) (v:=?_) (a':=?_) #[true,true,true,false,true,false,false,false,false,false,false,false] rfl rfl (take_ofW HT_.out HW_.out (by kernel_rfl)) (fun _ _ _ h=>h) (Or.inl ⟨by rfl,?_⟩) hHeld ?_ ?_
      rotate_left
      ·rintro w' ⟨s0,s1,s2,s3⟩
       go_simp
       with_reducible rfl
      rotate_left
      ·simp only [Act.put,List.setIfInBounds_toArray,List.set_cons_zero,List.set_cons_succ,i64_w,i32_w]
       rfl
      refine take_ (i:=3) (N:=some 15) (v:=?_) (a':=?_) #[true,true,true,true,true,false,false,false,false,false,false,false] rfl rfl (take_ofW HT_.out HW_.out (by kernel_rfl)) (fun _ _ _ h=>h) (Or.inl ⟨by rfl,?_⟩) hHeld ?_ ?_
      rotate_left
      ·rintro w' ⟨s0,s1,s2,s3⟩
       go_simp
       with_reducible rfl
      rotate_left
      ·simp only [Act.put,List.setIfInBounds_toArray,List.set_cons_zero,List.set_cons_succ,i64_w,i32_w]
       rfl
      refine pure_ (i:=5) (N:=some 17) (v:=?_) (a':=?_) #[true,true,true,true,true,true,false,false,false,false,false,false] rfl rfl (any_of HT_.out (by kernel_rfl)) (fun _ _ _ h=>h) (Or.inl ⟨by rfl,?_⟩) ?_ ?_
      rotate_left
      ·intro w'
       go_simp
       with_reducible rfl
      rotate_left
      ·simp only [Act.put,List.setIfInBounds_toArray,List.set_cons_zero,List.set_cons_succ,i64_w,i32_w]
       rfl
      refine take_ (i:=6) (N:=some 18) (v:=?_) (a':=?_) #[true,true,true,true,true,true,true,false,false,false,false,false] rfl rfl (take_ofW HT_.out HW_.out (by kernel_rfl)) (fun _ _ _ h=>h) (Or.inl ⟨by rfl,?_⟩) hHeld ?_ ?_
      rotate_left
      ·rintro w' ⟨s0,s1,s2,s3⟩
       go_simp
       with_reducible rfl
      rotate_left
      ·simp only [Act.put,List.setIfInBounds_toArray,List.set_cons_zero,List.set_cons_succ,i64_w,i32_w]
       rfl
      refine one_ (i:=7) (N:=some 19) #[true,true,true,true,true,true,true,true,false,false,false,false] rfl rfl (one_of HT_.out (by kernel_rfl)) (by decide) (fun K hK=>?_)
      refine goes_ Try.func72 (by kernel_rfl) rfl #[.agg #[.int .u64 ((rd_T39 l0_0 x4_1).f0),.slice A150_1 ((rd_T39 l0_0 x4_1).f1).length c150_1]] (by rfl) rfl rfl (by (try simp only [List.map_toArray,List.map_cons,List.map_nil]);first|done|rfl|(simp only [List.length_drop,List.length_take];rfl)) ?_
      with_reducible refine (spindleref20_copied.calls ((rd_T39 l0_0 x4_1).f0) _ _ ((rd_T39 l0_0 x4_1).f1) t151 t152 _ ?side1 ?side2 A7.out).mono ?_
      (case side1=>repeat (first|exact (Kd.C_below HR150_1.out HB.out)|(with_reducible refine Kd.C_alloc ?_ _)|(with_reducible refine Kd.C_drewN ?_ _)|(with_reducible refine Kd.C_drew ?_)))
      (case side2=>exact HC150_1.out)
      rintro e w13 ⟨v153,rfl,ho0,hb⟩
      refine ⟨_,rfl,?_⟩
      have n0_:=Aside0.mk (Kd.S_elder' (by (with_reducible repeat (first|apply Kd.S_alloc|apply Kd.S_drewN|apply Kd.S_drew));exact HO_150000.out) (Kd.R_base ho0) hb)
      have n1_:=Aside0.mk (Kd.R_lower ho0 (below_size (by repeat (first|(with_reducible first|exact HB.out|apply below_alloc|apply pw_below_drewN|apply below_drew1|refine below_set ?_ GE147.out|refine below_set ?_ GE148.out|refine below_set ?_ GE149.out)|exact HB.out))))
      have n2_:=Aside0.mk (blk_below (g:=gb147) (o:=.cells #[.slice (some ad150) l0_0.length c0_0] 78 (0,0)) (by (with_reducible repeat (first|refine blk_drewN ?_ _|refine blk_drew ?_|refine blk_alloc ?_ _));exact BK147.out) hb)
      have n3_:=Aside0.mk (blk_below (g:=gb148) (o:=.cells #[.slice none 0 0] 78 (0,0)) (by (with_reducible repeat (first|refine blk_drewN ?_ _|refine blk_drew ?_|refine blk_alloc ?_ _));exact BK148.out) hb)
      have n4_:=Aside0.mk (blk_below (g:=gb149) (o:=.cells #[u150000] 78 (0,0)) (by (with_reducible repeat (first|refine blk_drewN ?_ _|refine blk_drew ?_|refine blk_alloc ?_ _));exact BK149.out) hb)
      have n5_:=Aside0.mk (below_step (by repeat (first|(with_reducible first|exact HB.out|apply below_alloc|apply pw_below_drewN|apply below_drew1|refine below_set ?_ GE147.out|refine below_set ?_ GE148.out|refine below_set ?_ GE149.out)|exact HB.out)) hb)
      clear HO_150000 BK147 BK148 BK149 HB
      have HO_150000:=n0_
      have HO154:=n1_
      have BK147:=n2_
      have BK148:=n3_
      have BK149:=n4_
      have HB:=n5_
      clear n0_ n1_ n2_ n3_ n4_ n5_
      (try clear hb)
      (try clear hb2)
      (try clear hk)
      (try clear hi)
      (try clear ho0)
      obtain ⟨Ao15,co15,eo15⟩:=Kd.R_slice HO154.out
      (first|subst eo15|(injection eo15 with f1_ f2_ f3_;have f4_:=f1_.symm;have f5_:=f3_.symm;clear f1_ f2_ f3_;subst f4_;subst f5_))
      refine hK.out _ _ ⟨(blk_cell BK149.out 0).trans rfl,(blk_cell BK147.out 0).trans rfl,((HB.out.cell (World.block_lt_of_cell? w _ hw150_0)).trans hw150_0),((HB.out.cell (World.block_lt_of_cell? w _ hw150_1)).trans hw150_1)⟩ (fun hHeld=>?_)
      clear hK K
      refine norm_ (a':=?_) ?_ ?_
      rotate_left
      ·show Act.put _ (some 19) _=_
       simp only [Act.put,List.setIfInBounds_toArray,List.set_cons_zero,List.set_cons_succ,i64_w,i32_w]
       rfl
      refine one_ (i:=8) (N:=some 20) #[true,true,true,true,true,true,true,true,true,false,false,false] rfl rfl (one_of HT_.out (by kernel_rfl)) (by decide) (fun K hK=>?_)
      refine value_ (w1:=?_) (v:=?_) (by rfl) rfl ?_ ?_
      rotate_left 2
      ·go_simp
       constructor
       ·rfl
       ·rfl
      refine hK.out _ _ ⟨(blk_cell (blk_alloc BK149.out _) 0).trans rfl,(blk_cell (blk_alloc BK147.out _) 0).trans rfl,(World.cell?_alloc_lt _ _ _ (World.block_lt_of_cell? _ _ (((HB.out.cell (World.block_lt_of_cell? w _ hw150_0)).trans hw150_0)))).trans (((HB.out.cell (World.block_lt_of_cell? w _ hw150_0)).trans hw150_0)),(World.cell?_alloc_lt _ _ _ (World.block_lt_of_cell? _ _ (((HB.out.cell (World.block_lt_of_cell? w _ hw150_1)).trans hw150_1)))).trans (((HB.out.cell (World.block_lt_of_cell? w _ hw150_1)).trans hw150_1))⟩ (fun hHeld=>?_)
      clear hK K
      refine norm_ (a':=?_) ?_ ?_
      rotate_left
      ·show Act.put _ (some 20) _=_
       simp only [Act.put,List.setIfInBounds_toArray,List.set_cons_zero,List.set_cons_succ,i64_w,i32_w]
       rfl
      refine one_ (i:=9) (N:=some 21) #[true,true,true,true,true,true,true,true,true,true,false,false] rfl rfl (one_of HT_.out (by kernel_rfl)) (by decide) (fun K hK=>?_)
      refine Kd.S_append_step k39 (w0:=w) w.heap.size (by rfl) (.tmp 13) (.tmp 20) 22 39 (.agg #[(.int .u64 0),(.slice none 0 0)]) 32 rfl Try.underlying22 info39 rfl (by decide) (by omega) u150000 x150000_1 (⟨t151,t152⟩:S39) [.int .u64 t151,.slice Ao15 t152.length co15] (fun _=>True) (fun k_=>some k_=(.slice Ao15 t152.length co15:Value).ownBlock) rfl rfl ?aP (fun k_ hk_=>((Kd.R_mono (ok':=fun k_=>((fun _=>True)) k_∧some k_≠(u150000:Value).ownBlock) (Kd.R_apart' (HO154.out) (Kd.S_typed HO_150000.out) (by decide)) (fun k_ hk=>⟨trivial,hk.2⟩))).1 k_ hk_.symm) ?aF ?aO ?aB ?aS ?aL ?_
      (case aP=>exact k39_mkM _ _ _ (⟨t151,t152⟩:S39) (Kd.R_mono (Kd.R_tight rfl (Kd.R_mono (ok':=fun k_=>((fun _=>True)) k_∧some k_≠(u150000:Value).ownBlock) (Kd.R_apart' (HO154.out) (Kd.S_typed HO_150000.out) (by decide)) (fun k_ hk=>⟨trivial,hk.2⟩))) (fun _ h_=>h_)))
      (case aB=>exact (by repeat (first|(with_reducible first|exact HB.out|apply below_alloc|apply pw_below_drewN|apply below_drew1|refine below_set ?_ GE147.out|refine below_set ?_ GE148.out|refine below_set ?_ GE149.out)|exact HB.out)))
      (case aF=>exact (fun _ _=>trivial))
      (case aO=>exact (by (with_reducible repeat (first|apply Kd.S_alloc|apply Kd.S_drewN|apply Kd.S_drew));exact Kd.S_mono HO_150000.out (fun k_ hk=>⟨trivial,fun e_=>hk.2 e_⟩)))
      (case aS=>exact (below_size (by repeat (first|(with_reducible first|exact HB.out|apply below_alloc|apply pw_below_drewN|apply below_drew1|refine below_set ?_ GE147.out|refine below_set ?_ GE148.out|refine below_set ?_ GE149.out)|exact HB.out))))
      (case aL=>have:=LMc8.out;omega)
      intro v156 w14 ho hb hg hat
      rw [← Ny155.out] at ho
      have n0_:=Aside0.mk (blk_grown (g:=gb147) (o:=.cells #[.slice (some ad150) l0_0.length c0_0] 78 (0,0)) (by (with_reducible repeat (first|refine blk_drewN ?_ _|refine blk_drew ?_|refine blk_alloc ?_ _));exact BK147.out) hg (Kd.S_ne HO_150000.out BK147.out (by decide)))
      have n1_:=Aside0.mk (blk_grown (g:=gb148) (o:=.cells #[.slice none 0 0] 78 (0,0)) (by (with_reducible repeat (first|refine blk_drewN ?_ _|refine blk_drew ?_|refine blk_alloc ?_ _));exact BK148.out) hg (Kd.S_ne HO_150000.out BK148.out (by decide)))
      have n2_:=Aside0.mk (blk_grown (g:=gb149) (o:=.cells #[u150000] 78 (0,0)) (by (with_reducible repeat (first|refine blk_drewN ?_ _|refine blk_drew ?_|refine blk_alloc ?_ _));exact BK149.out) hg (Kd.S_ne HO_150000.out BK149.out (by decide)))
      have n3_:=Aside0.mk (hb)
      have n4_:=Aside0.mk (ho)
      clear BK147 BK148 BK149 HB HO_150000 HO154
      have BK147:=n0_
      have BK148:=n1_
      have BK149:=n2_
      have HB:=n3_
      have HO157:=n4_
      clear n0_ n1_ n2_ n3_ n4_ ho hb hg hat
      obtain ⟨Ao16,co16,eo16⟩:=Kd.S_slice HO157.out
      (first|subst eo16|(injection eo16 with f1_ f2_ f3_;have f4_:=f1_.symm;have f5_:=f3_.symm;clear f1_ f2_ f3_;subst f4_;subst f5_))
      refine hK.out _ _ ⟨(blk_cell BK149.out 0).trans rfl,(blk_cell BK147.out 0).trans rfl,((HB.out.cell (World.block_lt_of_cell? w _ hw150_0)).trans hw150_0),((HB.out.cell (World.block_lt_of_cell? w _ hw150_1)).trans hw150_1)⟩ (fun hHeld=>?_)
      clear hK K
      refine norm_ (a':=?_) ?_ ?_
      rotate_left
      ·show Act.put _ (some 21) _=_
       simp only [Act.put,List.setIfInBounds_toArray,List.set_cons_zero,List.set_cons_succ,i64_w,i32_w]
       rfl
      refine pure_ (i:=10) (N:=some 22) (v:=?_) (a':=?_) #[true,true,true,true,true,true,true,true,true,true,true,false] rfl rfl (any_of HT_.out (by kernel_rfl)) (fun _ _ _ h=>h) (Or.inl ⟨by rfl,?_⟩) ?_ ?_
      rotate_left
      ·intro w'
       go_simp
       with_reducible rfl
      rotate_left
      ·simp only [Act.put,List.setIfInBounds_toArray,List.set_cons_zero,List.set_cons_succ,i64_w,i32_w]
       rfl
      refine last_ (i:=11) (N:=none) #[true,true,true,true,true,true,true,true,true,true,true,true] rfl rfl (one_of HT_.out (by kernel_rfl)) (by decide) (fun K hK=>?_)
      have hs17:w14.cell? ⟨gb149,0,none⟩=some (u150000):=(blk_cell BK149.out 0).trans rfl
      have hfs17:=blk_frozen BK149.out 0
      have hns17_0:=NB147_149.out
      have hns17_1:=NB148_149.out
      have hms17_0:=NB149_147.out
      have hms17_1:=NB149_148.out
      refine skip_ (w1:=?_) (by rfl) rfl ?_ ?_
      rotate_left
      ·go_simp
       rfl
      refine hK.out _ _ ?_
      clear hK K
      refine done_ (done_of HT_.out (by kernel_rfl)) ?_
      try go_wp2
      go_roundg k1
      case measure=>have:=HK1.out;omega
      case rel=>exact ⟨(wrap64 (x4_1+1)),(y155),(.slice Ao16 y155.length co16),(by first|rfl|(simp;done)|(simp [*];done)),H',⟨by have:=HK1.out;omega⟩,⟨by (with_reducible repeat (first|apply Kd.S_alloc|apply Kd.S_drewN|apply Kd.S_drew));exact Kd.S_mono (Kd.S_far (p:=⟨gb149,0,none⟩) (Kd.S_types HO157.out BK149.out (by decide)) (fun _ hk=>hk.2) (.slice Ao16 y155.length co16)) (fun _ hk=>trivial)⟩,⟨by (with_reducible repeat (first|refine blk_drewN ?_ _|refine blk_drew ?_|refine blk_alloc ?_ _));refine blk_far ?_ NB147_149.out _;(with_reducible repeat (first|refine blk_drewN ?_ _|refine blk_drew ?_|refine blk_alloc ?_ _));exact BK147.out⟩,⟨by (with_reducible repeat (first|refine blk_drewN ?_ _|refine blk_drew ?_|refine blk_alloc ?_ _));refine blk_far ?_ NB148_149.out _;(with_reducible repeat (first|refine blk_drewN ?_ _|refine blk_drew ?_|refine blk_alloc ?_ _));exact BK148.out⟩,⟨by (with_reducible repeat (first|refine blk_drewN ?_ _|refine blk_drew ?_|refine blk_alloc ?_ _));refine blk_put (cs:=#[u150000]) ?_ 0 _ rfl;(with_reducible repeat (first|refine blk_drewN ?_ _|refine blk_drew ?_|refine blk_alloc ?_ _));exact BK149.out⟩,⟨by repeat (first|(with_reducible first|exact HB.out|apply below_alloc|apply pw_below_drewN|apply below_drew1|refine below_set ?_ GE147.out|refine below_set ?_ GE148.out|refine below_set ?_ GE149.out)|exact HB.out)⟩⟩
     ·rw [if_neg c8] at H
      exact absurd H (by simp)
    ·rw [if_neg c6] at H
     exact absurd H (by simp)
   ·rw [if_neg c5] at H
    have c5b0:decide (x4_1<(l0_0.length:Int))=false:=decide_eq_false c5
    clear c5
    obtain rfl:=Option.some.inj H
    have hnb18:=NB147_148.out
    have hnc18:=NB148_147.out
    have hnb19:=NB147_149.out
    have hnc19:=NB149_147.out
    have hcz20_0:wr.cell? ⟨gb147,0,none⟩=some (.slice A0_0 l0_0.length c0_0):=(blk_cell BK147.out 0).trans rfl
    have hfz20_0:=blk_frozen BK147.out 0
    have hnb21:=NB149_148.out
    have hnc21:=NB148_149.out
    have hcz22_0:wr.cell? ⟨gb149,0,none⟩=some (u150000):=(blk_cell BK149.out 0).trans rfl
    have hfz22_0:=blk_frozen BK149.out 0
    obtain ⟨Ao23,co23,eo23⟩:=Kd.S_slice HO_150000.out
    subst eo23
    have hcz24_0:wr.cell? ⟨gb148,0,none⟩=some (.slice none 0 0):=(blk_cell BK148.out 0).trans rfl
    have hfz24_0:=blk_frozen BK148.out 0
    go_wp2
    refine bodyPost_ret (results_cell_row rfl _ _ gb148 78 #[.slice Ao23 x150000_1.length co23] (0,0) _ rfl (by (with_reducible repeat (first|refine blk_drewN ?_ _|refine blk_drew ?_|refine blk_alloc ?_ _));refine blk_put (cs:=#[.slice none 0 0]) ?_ 0 _ rfl;(with_reducible repeat (first|refine blk_drewN ?_ _|refine blk_drew ?_|refine blk_alloc ?_ _));exact BK148.out) Try.underlying78 rfl (by kernel_rfl)) rfl ?_
    exact ⟨_,by first|rfl|(simp [errW_none,errW_some] <;> rfl)|(simp [*,errW_none,errW_some] <;> rfl),by (with_reducible repeat (first|apply Kd.S_alloc|apply Kd.S_drewN|apply Kd.S_drew));exact Kd.S_mono (Kd.S_far (p:=⟨gb148,0,none⟩) (Kd.S_types HO_150000.out BK148.out (by decide)) (fun _ hk=>hk.2) (.slice Ao23 x150000_1.length co23)) (fun _ hk=>trivial),by repeat (first|(with_reducible first|exact HB.out|apply below_alloc|apply pw_below_drewN|apply below_drew1|refine below_set ?_ GE147.out|refine below_set ?_ GE148.out|refine below_set ?_ GE149.out)|exact HB.out)⟩
end Go.Proofs.Ythmeojeehemlaaa.PM
end
end
