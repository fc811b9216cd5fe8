/- Parts of the proof, laid together by a program of this session (pack.py): YA11, YA12. -/
import Derived.Test.YthmeojeehemlaaaZC10
set_option linter.unusedVariables false
set_option linter.unusedSimpArgs false
set_option maxRecDepth 100000
set_option maxHeartbeats 16000000
section
section
namespace Go.Proofs.Ythmeojeehemlaaa.Mem
open Go.RowKit Go.Proofs.YthmeojeehemlaaaW.PrintWords
open Go.Proofs.Ythmeojeehemlaaa.PM
attribute [local go_sem] isSome_setCell
theorem rstore2_ (P:Nat→Prop) (w:World) (A:Option Addr) (c:Nat) (xs:List S39) (rs:List Reg) (x m v:Int) (hV:Kd.V k39 39 w 0 P (.slice A xs.length c) xs) (hR:Rel xs rs) (hl:xs.length≤1048576) (hs:∀ y∈xs,Small y) (hx0:0≤x) (hx1:x<18446744073709551616) (hv0:0≤v) (hv1:v<18446744073709551616) :
  Calls Try.prog 45 #[.agg #[.slice A xs.length c],.int .u64 x,.int .i64 m,.int .u64 v] w fun e w'=>∃ A' c' r1 r2,e=.returned (.tuple #[.agg #[.slice A' r1.length c'],.int .i64 r2])∧Kd.V k39 39 w' 0 (fun k=>P k∨w.heap.size≤k) (.slice A' r1.length c') r1∧Below w.heap.size w w'∧PutR xs rs (storeOf rs x m v) r1 r2:=by
 refine (rstore_ P w A c xs rs x m v hV hR hx0 hx1 hv0 hv1 hl hs).mono ?_
 rintro e w' ⟨v,r1,r2,rfl,hv,hb,hp⟩
 obtain ⟨A',c',rfl⟩:=Kd.V_slice hv
 exact ⟨A',c',r1,r2,rfl,hv,hb,hp⟩
theorem act_store (w:World) (F ok:Nat→Prop) (g s:Nat) (rl:List S39) (rs:List Reg) (wh x m v:Int) (A:Option Addr) (l c:Nat) (hD:DeskAt w F ok g (some ⟨s,0,none⟩) rl rs) (hx0:0≤x) (hx1:x<18446744073709551616) (hv0:0≤v) (hv1:v<18446744073709551616) (hl:rl.length+1≤1048576) :
  Calls Try.prog 16 #[.pointer (some ⟨g,0,none⟩),.agg #[.int .i64 wh,.int .i64 4,.int .u64 x,.int .i64 m,.int .u64 v,.slice A l c]] w (ActPost F ok w g (some ⟨s,0,none⟩) rl):=by
 obtain ⟨A1,c1,Sp,X,hP⟩:=hD.open_
 have hL:=hP.len
 have hV:=hP.val
 obtain ⟨w1,hw1⟩:∃ w1,w1=w.alloc (.cells #[.int .i64 wh,.int .i64 4,.int .u64 x,.int .i64 m,.int .u64 v,.slice A l c] 46):=⟨_,rfl⟩
 obtain ⟨q,hq⟩:∃ q,q=w.heap.size:=⟨_,rfl⟩
 have hb1:Below w.heap.size w w1:=by rw [hw1];exact below_push (Nat.le_refl _) (Below.refl w.heap.size w) _
 have hs1:w1.heap.size=w.heap.size+1:=by rw [hw1];exact Array.size_push _
 have hC8:Cells8 w1 g q s A1 rl.length c1 wh 4 x m v A l c:=by
  obtain ⟨a,b,h1⟩:=hL.blk
  exact ⟨⟨a,b,h1.below hb1 h1.lt⟩,by rw [hw1,hq];exact Blk.new _ _ _⟩
 have hgl:=hD.glt
 have HSA:=Lib.hid (show ∀ W,Below w1.heap.size w1 W→(fun W=>W.cell? ⟨g,0,none⟩=some (.pointer (some ⟨s,0,none⟩))∧W.cell? ⟨g,1,none⟩=some (.slice A1 rl.length c1)∧W.cell? ⟨q,0,none⟩=some (.int .i64 wh)∧W.cell? ⟨q,1,none⟩=some (.int .i64 4)∧W.cell? ⟨q,2,none⟩=some (.int .u64 x)∧W.cell? ⟨q,3,none⟩=some (.int .i64 m)∧W.cell? ⟨q,4,none⟩=some (.int .u64 v)∧W.cell? ⟨q,5,none⟩=some (.slice A l c)) W from fun W hW=>(hC8.below hW (by omega) (by omega)).all)
 have hd0:=below_drew (Below.refl w1.heap.size w1)
 have HD0:=Lib.hid hd0
 have HD1:=Lib.hid (show ∀ o,Below w1.heap.size w1 (w1.drew.alloc o) from fun o=>below_push (w:=w1.drew) (Nat.le_refl _) hd0 o)
 have HS0:=Lib.hid (HSA.out _ hd0)
 have c0:=hC8.all.1
 rw [hw1] at c0
 have HR1:=Lib.hid (show ∀ W,Below w1.heap.size w1 W→Calls Try.prog 45 #[.agg #[.slice A1 rl.length c1],.int .u64 x,.int .i64 m,.int .u64 v] W fun e w'=>∃ A2 c2 r1 r2,e=.returned (.tuple #[.agg #[.slice A2 r1.length c2],.int .i64 r2])∧Kd.V k39 39 w' 0 (fun k=>(ok k∧k<w.heap.size)∨W.heap.size≤k) (.slice A2 r1.length c2) r1∧Below W.heap.size W w'∧PutR rl rs (storeOf rs x m v) r1 r2 from fun W hW=>rstore2_ _ W A1 c1 rl rs x m v (Kd.V_below (Kd.V_bound hV) (hb1.trans (hW.mono hb1.size))) hP.rel (by omega) hD.small hx0 hx1 hv0 hv1)
 have HW:=Lib.hid hw1
 have HQ:=Lib.hid hq
 have HP:=Lib.hid hP
 have HB1:=Lib.hid hb1
 have HC8:=Lib.hid hC8
 have HQL:=Lib.hid (show q<w1.heap.size by omega)
 clear hL hV hP hw1 hb1 hs1 hC8 hd0 hD hq
 go_enter Try.func16,Try.ntmps16
 go_wp2_with fail
 rw [← HW.out,← HQ.out]
 refine Code.wp_mono (Q:=Norm fun a W=>∃ r A2 c2 r1 r2,a={ tmps:=#[Value.pointer (some { block:=g,off:=0 }),Value.agg #[Value.int IntKind.i64 wh,Value.int IntKind.i64 4,Value.int IntKind.u64 x,Value.int IntKind.i64 m,Value.int IntKind.u64 v,Value.slice A l c],undef,Value.pointer (some { block:=q,off:=0 }),Value.bool false,Value.slice none 0 0,Value.slice none 0 0,undef,undef,undef,undef,undef,undef,undef,undef,undef,undef,undef,Value.pointer (some { block:=r,off:=0 }),Value.int IntKind.i64 r2,undef,undef,undef,undef,undef,undef,undef,undef,undef,undef,undef,undef,Value.pointer (some { block:=g,off:=0 }),Value.pointer (some { block:=g,off:=0 }),Value.pointer (some { block:=g,off:=0 }),Value.pointer (some { block:=s,off:=0 }),Value.bool false,undef,undef,undef,Value.pointer (some { block:=q,off:=1 }),Value.int IntKind.i64 4,Value.bool false,Value.bool false,undef,undef,undef,undef,undef,undef,undef,undef,undef,undef,undef,undef,undef,undef,undef,undef,undef,undef,undef,undef,undef,undef,undef,undef,undef,undef,undef,undef,undef,undef,undef,undef,undef,undef,undef,undef,undef,undef,undef,undef,undef,undef,Value.bool false,Value.bool false,undef,undef,undef,undef,undef,undef,undef,undef,undef,undef,undef,undef,undef,undef,undef,undef,undef,undef,undef,undef,undef,undef,undef,undef,undef,Value.bool false,Value.bool false,undef,undef,undef,undef,undef,undef,undef,undef,undef,undef,undef,undef,undef,undef,undef,undef,undef,undef,undef,undef,undef,undef,undef,undef,undef,undef,undef,undef,undef,undef,undef,undef,undef,Value.bool true,Value.bool true,Value.tuple #[Value.agg #[Value.slice A2 r1.length c2],Value.int IntKind.i64 r2],Value.pointer (some { block:=g,off:=0 }),Value.pointer (some { block:=g,off:=0 }),Value.pointer (some { block:=g,off:=1 }),Value.agg #[Value.slice A1 rl.length c1],Value.pointer (some { block:=q,off:=2 }),Value.int IntKind.u64 x,Value.pointer (some { block:=q,off:=3 }),Value.int IntKind.i64 m,Value.pointer (some { block:=q,off:=4 }),Value.int IntKind.u64 v,Value.tuple #[Value.agg #[Value.slice A2 r1.length c2],Value.int IntKind.i64 r2],Value.agg #[Value.slice A2 r1.length c2],Value.int IntKind.i64 r2,undef,undef,undef,undef,undef,undef,undef,undef,undef,undef,undef,undef,undef,undef,undef,undef,undef,undef,undef,undef,undef,undef,undef,undef,undef,undef,undef,undef,undef,undef,undef,undef,undef,undef,undef,undef,undef,undef,undef,undef,undef,undef,undef,undef,undef,undef,undef,undef,undef,undef,undef,undef,undef,undef,undef,undef,undef,undef,undef,undef,undef,undef,undef,undef,undef,undef,undef,undef,undef,undef,undef,undef,undef,undef,undef,undef,undef,undef,undef,undef,undef,undef,undef,undef,undef,undef,undef,undef,undef,undef,undef,undef,undef,undef,undef,undef,undef,undef,undef,undef,undef,undef,undef,undef,undef,undef,undef,undef,undef,undef,undef,undef,undef,undef,undef,undef,undef,undef,undef,undef],defers:=[] }∧Hid ((Made w W (fun k=>ok k∧k<w.heap.size) r A2 c2 r1∧Below w1.heap.size w1 W)∧PutR rl rs (storeOf rs x m v) r1 r2)) ?_ ?_
 rotate_left
 ·go_region_held3 (fun W=>W.cell? ⟨g,0,none⟩=some (.pointer (some ⟨s,0,none⟩))∧W.cell? ⟨g,1,none⟩=some (.slice A1 rl.length c1)∧W.cell? ⟨q,0,none⟩=some (.int .i64 wh)∧W.cell? ⟨q,1,none⟩=some (.int .i64 4)∧W.cell? ⟨q,2,none⟩=some (.int .u64 x)∧W.cell? ⟨q,3,none⟩=some (.int .i64 m)∧W.cell? ⟨q,4,none⟩=some (.int .u64 v)∧W.cell? ⟨q,5,none⟩=some (.slice A l c)) (first|exact HS0.out|exact HSA.out _ (HD1.out _)|exact HSA.out _ HB3.out|exact HSA.out _ (below_push HB3.out.size HB3.out _)|exact HSA.out _ (below_set (Nat.le_refl _) HB3.out _ _)) (first|(go_at_call 45;refine (HR1.out _ HD0.out).mono ?_;rintro e w3 ⟨A2,c2,r1,r2,rfl,hv,hb,hr⟩;have HB3:=Lib.hid (HD0.out.trans hb);have HV3:=Lib.hid hv;have HR3:=Lib.hid hr;clear hv hb hr)|(go_at_call 45;refine (HR1.out _ (HD1.out _)).mono ?_;rintro e w3 ⟨A2,c2,r1,r2,rfl,hv,hb,hr⟩;have HB3:=Lib.hid ((HD1.out _).trans (hb.mono (HD1.out _).size));have HV3:=Lib.hid hv;have HR3:=Lib.hid hr;have hsz4:=size1 w1.drew (.cells #[.slice none 0 0] 78);have HZ:=Lib.hid (show Blk w3 w1.heap.size 78 #[.slice none 0 0] from (Blk.new w1.drew 78 #[.slice none 0 0]).below hb (Blk.new w1.drew 78 #[.slice none 0 0]).lt);have z0:=HZ.out.c0;have y0:=HZ.out.frozen 0;clear hv hb hr))
  ·exact ⟨_,A2,c2,r1,r2,rfl,Lib.hid ⟨made_push HB1.out HB3.out HV3.out HB1.out.size,HR3.out⟩⟩
  ·exact ⟨_,A2,c2,r1,r2,rfl,Lib.hid ⟨made_set HB1.out HB3.out HV3.out HZ.out (Nat.le_refl _) (by rw [hsz4];exact Nat.lt_succ_self _) (fun k hk=>hk.2),HR3.out⟩⟩
 refine Norm.elim ?_
 rintro a W ⟨r,A2,c2,r1,r2,rfl,HM⟩
 clear HS0 HR1 HD1
 have HSW:=Lib.hid (show ∀ W7 a b,Blk W7 g 87 #[.pointer (some ⟨s,0,none⟩),.slice A1 rl.length c1,a,b]→W7.heap[q]?=w1.heap[q]?→(fun W=>W.cell? ⟨g,0,none⟩=some (.pointer (some ⟨s,0,none⟩))∧W.cell? ⟨g,1,none⟩=some (.slice A1 rl.length c1)∧W.cell? ⟨q,0,none⟩=some (.int .i64 wh)∧W.cell? ⟨q,1,none⟩=some (.int .i64 4)∧W.cell? ⟨q,2,none⟩=some (.int .u64 x)∧W.cell? ⟨q,3,none⟩=some (.int .i64 m)∧W.cell? ⟨q,4,none⟩=some (.int .u64 v)∧W.cell? ⟨q,5,none⟩=some (.slice A l c)) W7 from fun W7 a b h1 h2=>Cells8.all ⟨⟨a,b,h1⟩,h2.trans HC8.out.2⟩)
 have HSD:=Lib.hid (HSA.out W.drew (below_drew HM.out.1.2))
 have HQW:=Lib.hid (HM.out.1.2.block q HQL.out)
 have hqg:q≠g:=by rw [HQ.out];omega
 have hqS:¬ Sp q:=fun h=>by have:=HP.out.lt q (HP.out.s1 q h);rw [HQ.out] at this;omega
 have HQN:=Lib.hid (And.intro hqg hqS)
 have hWq:q<W.heap.size:=Nat.lt_of_lt_of_le HQL.out HM.out.1.2.size
 have HRES:=Lib.hid (show Calls Try.prog 11 #[.pointer (some ⟨s,0,none⟩),.int .u64 x,.int .i64 m,.int .u64 v] W.drew fun e w'=>e=.returned (.int .i64 r2)∧Chg (fun k=>Sp k∨W.heap.size≤k) W.drew w'∧∃ rs',StF (fun k=>Sp k∨W.heap.size≤k) w' s rs'∧Rel r1 rs'∧∀ y∈r1,Small y from by
  have hst6:StF (fun k=>Sp k∨W.heap.size≤k) W.drew s rs:=(((HP.out.st.below HM.out.1.1.bel)).mono (fun k _ hk=>.inl hk)).drew
  refine (store_F _ W.drew s rs x m v hst6 hx0 hx1 hv0 hv1).mono ?_
  intro e w' hr
  have hm:=HM.out.2
  unfold StoreResF at hr
  unfold PutR at hm
  cases hpo:storeOf rs x m v with
  | some rs' =>
   rw [hpo] at hr hm
   obtain ⟨rfl,h1,h2,_⟩:=hr
   obtain ⟨rfl,h3,_,h4⟩:=hm
   exact ⟨rfl,h2,rs',h1,h3,h4⟩
  | none =>
   rw [hpo] at hr hm
   obtain ⟨rfl,n,rfl⟩:=hr
   obtain ⟨rfl,rfl⟩:=hm
   exact ⟨rfl,Chg.of_below (pw_below_drewN (Below.refl _ _) n) (Nat.le_refl _),rs,hst6.drewN n,HP.out.rel,HP.out.small⟩)
 have HLN:=Lib.hid (show r1.length≤rl.length+1 from HM.out.2.len)
 clear hqg hqS
 go_wp2_with fail
 go_region_held3 (fun W=>W.cell? ⟨g,0,none⟩=some (.pointer (some ⟨s,0,none⟩))∧W.cell? ⟨g,1,none⟩=some (.slice A1 rl.length c1)∧W.cell? ⟨q,0,none⟩=some (.int .i64 wh)∧W.cell? ⟨q,1,none⟩=some (.int .i64 4)∧W.cell? ⟨q,2,none⟩=some (.int .u64 x)∧W.cell? ⟨q,3,none⟩=some (.int .i64 m)∧W.cell? ⟨q,4,none⟩=some (.int .u64 v)∧W.cell? ⟨q,5,none⟩=some (.slice A l c)) (first|exact HSD.out|exact HS7.out) (first|(go_at_call 11;refine HRES.out.mono ?_;rintro e w7 ⟨rfl,hc7,rs',hst,hrel,hsm⟩;have HC7:=Lib.hid ((chg_drew (Chg.refl (fun k=>Sp k∨W.heap.size≤k) W)).trans hc7);have HST:=Lib.hid (And.intro hst (And.intro hrel hsm));have HL7:=Lib.hid (show Lender w7 g (.pointer (some ⟨s,0,none⟩)) (.slice A1 rl.length c1) X from (HP.out.len.chg (chg_w (F:=fun _=>False) HM.out.1.1.bel) (fun h=>h) (fun _ _ h=>h)).chg HC7.out (fun h2=>h2.elim HP.out.s4 (fun h3=>by have:=HM.out.1.1.bel.size;omega)) (fun k hk h2=>h2.elim (fun h3=>HP.out.s3 k h3 hk) (fun h3=>by have:=HP.out.lt k (HP.out.s2 k hk);have:=HM.out.1.1.bel.size;omega)));have HQ7:=Lib.hid ((HC7.out.block q hWq (fun h=>h.elim HQN.out.2 (fun h3=>by omega))).trans HQW.out);have HS7:=Lib.hid (by obtain ⟨a,b,h⟩:=HL7.out.blk;exact HSW.out w7 a b h HQ7.out);clear hc7 hst hrel hsm))
 have hr8:Blk w7 r 78 #[.slice A2 r1.length c2]:=by
  have hlr:=HM.out.1.1.blk.lt
  have hnr:=HM.out.1.1.new
  have hsr:¬ Sp r:=fun h=>by have:=HP.out.lt r (HP.out.s1 r h);omega
  exact HM.out.1.1.blk.chg HC7.out (fun h=>h.elim hsr (fun h3=>by omega))
 have r0:=hr8.c0
 obtain ⟨b2,b3,hg8⟩:=HL7.out.blk
 have g1:=hg8.cell 1
 have f1:=hg8.frozen 1
 have g0:=hg8.cell 0
 simp only [List.getElem?_toArray,List.getElem?_cons_zero,List.getElem?_cons_succ] at g0 g1
 have HFIN:=Lib.hid (act_fin0 HP.out HM.out.1.1 HC7.out HST.out.1 HST.out.2.1 HST.out.2.2 HLN.out)
 clear hr8 hg8
 go_wp2_with (go_at_call 37;refine (spindlelaw0_Num.calls _ _ _ rfl).mono ?_;rintro e w9 ⟨rfl,⟨nd,rfl⟩⟩)
 go_ret3
 exact HFIN.out.drewN nd
end Go.Proofs.Ythmeojeehemlaaa.Mem
end
section
namespace Go.Proofs.Ythmeojeehemlaaa.Mem
open Go.RowKit Go.Proofs.YthmeojeehemlaaaW.PrintWords
open Go.Proofs.Ythmeojeehemlaaa.PM
attribute [local go_sem] isSome_setCell
def RemR (xs:List S39) (rs:List Reg) (x:Int) (r1:List S39) (r2:Int):Prop:=if (∃ r∈rs,r.first=x) then r2=0∧r1=keepF x xs else r2=201∧r1=xs
theorem RemR.len {xs:List S39} {rs:List Reg} {x:Int} {r1:List S39} {r2:Int} (h:RemR xs rs x r1 r2):r1.length≤xs.length+1:=by
 unfold RemR at h
 split at h
 ·rw [h.2];have:=keepF_len x xs;omega
 ·rw [h.2];omega
theorem rremove2_ (P:Nat→Prop) (w:World) (A:Option Addr) (c:Nat) (xs:List S39) (rs:List Reg) (x:Int) (hV:Kd.V k39 39 w 0 P (.slice A xs.length c) xs) (hR:Rel xs rs) (hl:xs.length≤1048576) (hs:∀ y∈xs,Small y) :
  Calls Try.prog 42 #[.agg #[.slice A xs.length c],.int .u64 x] w fun e w'=>∃ A' c' r1 r2,e=.returned (.tuple #[.agg #[.slice A' r1.length c'],.int .i64 r2])∧Kd.V k39 39 w' 0 (fun k=>P k∨w.heap.size≤k) (.slice A' r1.length c') r1∧Below w.heap.size w w'∧RemR xs rs x r1 r2:=by
 have he:=remove_eq xs x hl hs
 by_cases hh:∃ y∈xs,y.f0=x
 ·rw [if_pos hh] at he
  refine (spindleref20_Space_Remove.calls (xs.length+1) P A c xs x _ _ w hV he).mono ?_
  rintro e w' ⟨v,rfl,hv,hbl⟩
  obtain ⟨A',c',rfl⟩:=Kd.V_slice hv
  exact ⟨A',c',_,_,rfl,hv,hbl,by unfold RemR;rw [if_pos ((hR.any x).1 hh)];exact ⟨rfl,rfl⟩⟩
 ·rw [if_neg hh] at he
  refine (spindleref20_Space_Remove.calls (xs.length+1) P A c xs x _ _ w hV he).mono ?_
  rintro e w' ⟨v,rfl,hv,hbl⟩
  obtain ⟨A',c',rfl⟩:=Kd.V_slice hv
  exact ⟨A',c',_,_,rfl,hv,hbl,by unfold RemR;rw [if_neg (fun h=>hh ((hR.any x).2 h))];exact ⟨rfl,rfl⟩⟩
theorem act_remove (w:World) (F ok:Nat→Prop) (g s:Nat) (rl:List S39) (rs:List Reg) (wh x m v:Int) (A:Option Addr) (l c:Nat) (hD:DeskAt w F ok g (some ⟨s,0,none⟩) rl rs) (hl:rl.length+1≤1048576) :
  Calls Try.prog 16 #[.pointer (some ⟨g,0,none⟩),.agg #[.int .i64 wh,.int .i64 2,.int .u64 x,.int .i64 m,.int .u64 v,.slice A l c]] w (ActPost F ok w g (some ⟨s,0,none⟩) rl):=by
 obtain ⟨A1,c1,Sp,X,hP⟩:=hD.open_
 have hL:=hP.len
 have hV:=hP.val
 obtain ⟨w1,hw1⟩:∃ w1,w1=w.alloc (.cells #[.int .i64 wh,.int .i64 2,.int .u64 x,.int .i64 m,.int .u64 v,.slice A l c] 46):=⟨_,rfl⟩
 obtain ⟨q,hq⟩:∃ q,q=w.heap.size:=⟨_,rfl⟩
 have hb1:Below w.heap.size w w1:=by rw [hw1];exact below_push (Nat.le_refl _) (Below.refl w.heap.size w) _
 have hs1:w1.heap.size=w.heap.size+1:=by rw [hw1];exact Array.size_push _
 have hC8:Cells8 w1 g q s A1 rl.length c1 wh 2 x m v A l c:=by
  obtain ⟨a,b,h1⟩:=hL.blk
  exact ⟨⟨a,b,h1.below hb1 h1.lt⟩,by rw [hw1,hq];exact Blk.new _ _ _⟩
 have hgl:=hD.glt
 have HSA:=Lib.hid (show ∀ W,Below w1.heap.size w1 W→(fun W=>W.cell? ⟨g,0,none⟩=some (.pointer (some ⟨s,0,none⟩))∧W.cell? ⟨g,1,none⟩=some (.slice A1 rl.length c1)∧W.cell? ⟨q,0,none⟩=some (.int .i64 wh)∧W.cell? ⟨q,1,none⟩=some (.int .i64 2)∧W.cell? ⟨q,2,none⟩=some (.int .u64 x)∧W.cell? ⟨q,3,none⟩=some (.int .i64 m)∧W.cell? ⟨q,4,none⟩=some (.int .u64 v)∧W.cell? ⟨q,5,none⟩=some (.slice A l c)) W from fun W hW=>(hC8.below hW (by omega) (by omega)).all)
 have hd0:=below_drew (Below.refl w1.heap.size w1)
 have HD0:=Lib.hid hd0
 have HD1:=Lib.hid (show ∀ o,Below w1.heap.size w1 (w1.drew.alloc o) from fun o=>below_push (w:=w1.drew) (Nat.le_refl _) hd0 o)
 have HS0:=Lib.hid (HSA.out _ hd0)
 have c0:=hC8.all.1
 rw [hw1] at c0
 have HR1:=Lib.hid (show ∀ W,Below w1.heap.size w1 W→Calls Try.prog 42 #[.agg #[.slice A1 rl.length c1],.int .u64 x] W fun e w'=>∃ A2 c2 r1 r2,e=.returned (.tuple #[.agg #[.slice A2 r1.length c2],.int .i64 r2])∧Kd.V k39 39 w' 0 (fun k=>(ok k∧k<w.heap.size)∨W.heap.size≤k) (.slice A2 r1.length c2) r1∧Below W.heap.size W w'∧RemR rl rs x r1 r2 from fun W hW=>rremove2_ _ W A1 c1 rl rs x (Kd.V_below (Kd.V_bound hV) (hb1.trans (hW.mono hb1.size))) hP.rel (by omega) hD.small)
 have HW:=Lib.hid hw1
 have HQ:=Lib.hid hq
 have HP:=Lib.hid hP
 have HB1:=Lib.hid hb1
 have HC8:=Lib.hid hC8
 have HQL:=Lib.hid (show q<w1.heap.size by omega)
 clear hL hV hP hw1 hb1 hs1 hC8 hd0 hD hq
 go_enter Try.func16,Try.ntmps16
 go_wp2_with fail
 rw [← HW.out,← HQ.out]
 refine Code.wp_mono (Q:=Norm fun a W=>∃ r A2 c2 r1 r2,a={ tmps:=#[Value.pointer (some { block:=g,off:=0 }),Value.agg #[Value.int IntKind.i64 wh,Value.int IntKind.i64 2,Value.int IntKind.u64 x,Value.int IntKind.i64 m,Value.int IntKind.u64 v,Value.slice A l c],undef,Value.pointer (some { block:=q,off:=0 }),Value.bool false,Value.slice none 0 0,Value.slice none 0 0,undef,undef,undef,undef,Value.pointer (some { block:=r,off:=0 }),Value.int IntKind.i64 r2,undef,undef,undef,undef,undef,undef,undef,undef,undef,undef,undef,undef,undef,undef,undef,undef,undef,undef,undef,Value.pointer (some { block:=g,off:=0 }),Value.pointer (some { block:=g,off:=0 }),Value.pointer (some { block:=g,off:=0 }),Value.pointer (some { block:=s,off:=0 }),Value.bool false,undef,undef,undef,Value.pointer (some { block:=q,off:=1 }),Value.int IntKind.i64 2,Value.bool false,Value.bool false,undef,undef,undef,undef,undef,undef,undef,undef,undef,undef,undef,undef,undef,undef,undef,undef,undef,undef,undef,undef,undef,undef,undef,undef,undef,undef,undef,undef,undef,undef,undef,undef,undef,undef,undef,undef,undef,undef,undef,undef,undef,undef,Value.bool true,Value.bool true,Value.tuple #[Value.agg #[Value.slice A2 r1.length c2],Value.int IntKind.i64 r2],Value.pointer (some { block:=g,off:=0 }),Value.pointer (some { block:=g,off:=0 }),Value.pointer (some { block:=g,off:=1 }),Value.agg #[Value.slice A1 rl.length c1],Value.pointer (some { block:=q,off:=2 }),Value.int IntKind.u64 x,Value.tuple #[Value.agg #[Value.slice A2 r1.length c2],Value.int IntKind.i64 r2],Value.agg #[Value.slice A2 r1.length c2],Value.int IntKind.i64 r2,undef,undef,undef,undef,undef,undef,undef,undef,undef,undef,undef,undef,undef,undef,undef,undef,undef,undef,undef,undef,undef,undef,undef,undef,undef,undef,undef,undef,undef,undef,undef,undef,undef,undef,undef,undef,undef,undef,undef,undef,undef,undef,undef,undef,undef,undef,undef,undef,undef,undef,undef,undef,undef,undef,undef,undef,undef,undef,undef,undef,undef,undef,undef,undef,undef,undef,undef,undef,undef,undef,undef,undef,undef,undef,undef,undef,undef,undef,undef,undef,undef,undef,undef,undef,undef,undef,undef,undef,undef,undef,undef,undef,undef,undef,undef,undef,undef,undef,undef,undef,undef,undef,undef,undef,undef,undef,undef,undef,undef,undef,undef,undef,undef,undef,undef,undef,undef,undef,undef,undef,undef,undef,undef,undef,undef,undef,undef,undef,undef,undef,undef,undef,undef,undef,undef,undef,undef,undef,undef,undef,undef,undef,undef,undef,undef,undef,undef,undef,undef,undef,undef,undef,undef,undef,undef,undef,undef,undef,undef,undef,undef,undef,undef,undef,undef,undef,undef,undef,undef,undef,undef,undef,undef,undef,undef,undef,undef,undef,undef,undef,undef,undef,undef,undef,undef,undef],defers:=[] }∧Hid ((Made w W (fun k=>ok k∧k<w.heap.size) r A2 c2 r1∧Below w1.heap.size w1 W)∧RemR rl rs x r1 r2)) ?_ ?_
 rotate_left
 ·go_region_held3 (fun W=>W.cell? ⟨g,0,none⟩=some (.pointer (some ⟨s,0,none⟩))∧W.cell? ⟨g,1,none⟩=some (.slice A1 rl.length c1)∧W.cell? ⟨q,0,none⟩=some (.int .i64 wh)∧W.cell? ⟨q,1,none⟩=some (.int .i64 2)∧W.cell? ⟨q,2,none⟩=some (.int .u64 x)∧W.cell? ⟨q,3,none⟩=some (.int .i64 m)∧W.cell? ⟨q,4,none⟩=some (.int .u64 v)∧W.cell? ⟨q,5,none⟩=some (.slice A l c)) (first|exact HS0.out|exact HSA.out _ (HD1.out _)|exact HSA.out _ HB3.out|exact HSA.out _ (below_push HB3.out.size HB3.out _)|exact HSA.out _ (below_set (Nat.le_refl _) HB3.out _ _)) (first|(go_at_call 42;refine (HR1.out _ HD0.out).mono ?_;rintro e w3 ⟨A2,c2,r1,r2,rfl,hv,hb,hr⟩;have HB3:=Lib.hid (HD0.out.trans hb);have HV3:=Lib.hid hv;have HR3:=Lib.hid hr;clear hv hb hr)|(go_at_call 42;refine (HR1.out _ (HD1.out _)).mono ?_;rintro e w3 ⟨A2,c2,r1,r2,rfl,hv,hb,hr⟩;have HB3:=Lib.hid ((HD1.out _).trans (hb.mono (HD1.out _).size));have HV3:=Lib.hid hv;have HR3:=Lib.hid hr;have hsz4:=size1 w1.drew (.cells #[.slice none 0 0] 78);have HZ:=Lib.hid (show Blk w3 w1.heap.size 78 #[.slice none 0 0] from (Blk.new w1.drew 78 #[.slice none 0 0]).below hb (Blk.new w1.drew 78 #[.slice none 0 0]).lt);have z0:=HZ.out.c0;have y0:=HZ.out.frozen 0;clear hv hb hr))
  ·exact ⟨_,A2,c2,r1,r2,rfl,Lib.hid ⟨made_push HB1.out HB3.out HV3.out HB1.out.size,HR3.out⟩⟩
  ·exact ⟨_,A2,c2,r1,r2,rfl,Lib.hid ⟨made_set HB1.out HB3.out HV3.out HZ.out (Nat.le_refl _) (by rw [hsz4];exact Nat.lt_succ_self _) (fun k hk=>hk.2),HR3.out⟩⟩
 refine Norm.elim ?_
 rintro a W ⟨r,A2,c2,r1,r2,rfl,HM⟩
 clear HS0 HR1 HD1
 have HSW:=Lib.hid (show ∀ W7 a b,Blk W7 g 87 #[.pointer (some ⟨s,0,none⟩),.slice A1 rl.length c1,a,b]→W7.heap[q]?=w1.heap[q]?→(fun W=>W.cell? ⟨g,0,none⟩=some (.pointer (some ⟨s,0,none⟩))∧W.cell? ⟨g,1,none⟩=some (.slice A1 rl.length c1)∧W.cell? ⟨q,0,none⟩=some (.int .i64 wh)∧W.cell? ⟨q,1,none⟩=some (.int .i64 2)∧W.cell? ⟨q,2,none⟩=some (.int .u64 x)∧W.cell? ⟨q,3,none⟩=some (.int .i64 m)∧W.cell? ⟨q,4,none⟩=some (.int .u64 v)∧W.cell? ⟨q,5,none⟩=some (.slice A l c)) W7 from fun W7 a b h1 h2=>Cells8.all ⟨⟨a,b,h1⟩,h2.trans HC8.out.2⟩)
 have HSD:=Lib.hid (HSA.out W.drew (below_drew HM.out.1.2))
 have HQW:=Lib.hid (HM.out.1.2.block q HQL.out)
 have hqg:q≠g:=by rw [HQ.out];omega
 have hqS:¬ Sp q:=fun h=>by have:=HP.out.lt q (HP.out.s1 q h);rw [HQ.out] at this;omega
 have HQN:=Lib.hid (And.intro hqg hqS)
 have hWq:q<W.heap.size:=Nat.lt_of_lt_of_le HQL.out HM.out.1.2.size
 have HRES:=Lib.hid (show Calls Try.prog 43 #[.pointer (some ⟨s,0,none⟩),.int .u64 x] W.drew fun e w'=>e=.returned (.int .i64 r2)∧Chg (fun k=>Sp k∨W.heap.size≤k) W.drew w'∧∃ rs',StF (fun k=>Sp k∨W.heap.size≤k) w' s rs'∧Rel r1 rs'∧∀ y∈r1,Small y from by
  have hst6:StF (fun k=>Sp k∨W.heap.size≤k) W.drew s rs:=(((HP.out.st.below HM.out.1.1.bel)).mono (fun k _ hk=>.inl hk)).drew
  refine (remove_F _ W.drew s rs x hst6 (fun k hk=>.inr hk)).mono ?_
  intro e w' hr
  have hm:=HM.out.2
  unfold RemRes at hr
  unfold RemR at hm
  by_cases hh:∃ r∈rs,r.first=x
  ·rw [if_pos hh] at hr hm
   obtain ⟨rfl,h1,h2⟩:=hr
   obtain ⟨rfl,rfl⟩:=hm
   exact ⟨rfl,h1,_,h2,HP.out.rel.remove x hh,fun y hy=>HP.out.small y (keepF_mem x rl y hy)⟩
  ·rw [if_neg hh] at hr hm
   obtain ⟨rfl,h1,h2⟩:=hr
   obtain ⟨rfl,rfl⟩:=hm
   exact ⟨rfl,h1,_,h2,HP.out.rel,HP.out.small⟩)
 have HLN:=Lib.hid (show r1.length≤rl.length+1 from HM.out.2.len)
 clear hqg hqS
 go_wp2_with fail
 go_region_held3 (fun W=>W.cell? ⟨g,0,none⟩=some (.pointer (some ⟨s,0,none⟩))∧W.cell? ⟨g,1,none⟩=some (.slice A1 rl.length c1)∧W.cell? ⟨q,0,none⟩=some (.int .i64 wh)∧W.cell? ⟨q,1,none⟩=some (.int .i64 2)∧W.cell? ⟨q,2,none⟩=some (.int .u64 x)∧W.cell? ⟨q,3,none⟩=some (.int .i64 m)∧W.cell? ⟨q,4,none⟩=some (.int .u64 v)∧W.cell? ⟨q,5,none⟩=some (.slice A l c)) (first|exact HSD.out|exact HS7.out) (first|(go_at_call 43;refine HRES.out.mono ?_;rintro e w7 ⟨rfl,hc7,rs',hst,hrel,hsm⟩;have HC7:=Lib.hid ((chg_drew (Chg.refl (fun k=>Sp k∨W.heap.size≤k) W)).trans hc7);have HST:=Lib.hid (And.intro hst (And.intro hrel hsm));have HL7:=Lib.hid (show Lender w7 g (.pointer (some ⟨s,0,none⟩)) (.slice A1 rl.length c1) X from (HP.out.len.chg (chg_w (F:=fun _=>False) HM.out.1.1.bel) (fun h=>h) (fun _ _ h=>h)).chg HC7.out (fun h2=>h2.elim HP.out.s4 (fun h3=>by have:=HM.out.1.1.bel.size;omega)) (fun k hk h2=>h2.elim (fun h3=>HP.out.s3 k h3 hk) (fun h3=>by have:=HP.out.lt k (HP.out.s2 k hk);have:=HM.out.1.1.bel.size;omega)));have HQ7:=Lib.hid ((HC7.out.block q hWq (fun h=>h.elim HQN.out.2 (fun h3=>by omega))).trans HQW.out);have HS7:=Lib.hid (by obtain ⟨a,b,h⟩:=HL7.out.blk;exact HSW.out w7 a b h HQ7.out);clear hc7 hst hrel hsm))
 have hr8:Blk w7 r 78 #[.slice A2 r1.length c2]:=by
  have hlr:=HM.out.1.1.blk.lt
  have hnr:=HM.out.1.1.new
  have hsr:¬ Sp r:=fun h=>by have:=HP.out.lt r (HP.out.s1 r h);omega
  exact HM.out.1.1.blk.chg HC7.out (fun h=>h.elim hsr (fun h3=>by omega))
 have r0:=hr8.c0
 obtain ⟨b2,b3,hg8⟩:=HL7.out.blk
 have g1:=hg8.cell 1
 have f1:=hg8.frozen 1
 have g0:=hg8.cell 0
 simp only [List.getElem?_toArray,List.getElem?_cons_zero,List.getElem?_cons_succ] at g0 g1
 have HFIN:=Lib.hid (act_fin0 HP.out HM.out.1.1 HC7.out HST.out.1 HST.out.2.1 HST.out.2.2 HLN.out)
 clear hr8 hg8
 go_wp2_with (go_at_call 37;refine (spindlelaw0_Num.calls _ _ _ rfl).mono ?_;rintro e w9 ⟨rfl,⟨nd,rfl⟩⟩)
 go_ret3
 exact HFIN.out.drewN nd
end Go.Proofs.Ythmeojeehemlaaa.Mem
end
section
namespace Go.Proofs.Ythmeojeehemlaaa.Mem
open Go.RowKit Go.Proofs.YthmeojeehemlaaaW.PrintWords
open Go.Proofs.Ythmeojeehemlaaa.PM
attribute [local go_sem] isSome_setCell
theorem rload2_ (w:World) (A:Option Addr) (c:Nat) (xs:List S39) (rs:List Reg) (x m:Int) (hC:Kd.C k39 w A xs.length xs) (hc:xs.length≤c) (hR:Rel xs rs) (hl:xs.length≤1048576) (hs:∀ y∈xs,Small y) (hx0:0≤x) (hx1:x<18446744073709551616) :
  Calls Try.prog 44 #[.agg #[.slice A xs.length c],.int .u64 x,.int .i64 m] w fun e w'=>e=.returned (.tuple #[.int .u64 (loadOf rs x m).1,.int .i64 (loadOf rs x m).2])∧Below w.heap.size w w':=
 spindleref20_Space_Load.calls (xs.length+20) A c xs x m _ _ w hC hc (load_eq hR hl hs x m hx0 hx1)
theorem sameb_ (w:World) (A A':Option Addr) (n c c':Nat) (l:List Int) (h1:Kd.C (Kd.int .u8) w A n l) (h2:Kd.C (Kd.int .u8) w A' n l) (hc:n≤c) (hc':n≤c') :
  Calls Try.prog 48 #[.slice A n c,.slice A' n c'] w fun e w'=>e=.returned (.bool true)∧Drawn0 w w':=by
 obtain rfl:=h1.1
 exact spindlelaw0_SameBytes.calls A c l A' c' l true w h1 hc h2 hc' (by unfold spindlelaw0_SameBytes.f;simp)
theorem Cells8.act {w w1 W:World} {F ok:Nat→Prop} {g s:Nat} {rl:List S39} {rs:List Reg} (hD:DeskAt w F ok g (some ⟨s,0,none⟩) rl rs) (hb:Below w.heap.size w w1) (hW:Below w1.heap.size w1 W):DeskAt W F ok g (some ⟨s,0,none⟩) rl rs:=hD.below (hb.trans (hW.mono hb.size))
theorem act_load (w:World) (F ok:Nat→Prop) (g s:Nat) (rl:List S39) (rs:List Reg) (wh x m v:Int) (A:Option Addr) (l c:Nat) (hD:DeskAt w F ok g (some ⟨s,0,none⟩) rl rs) (hx0:0≤x) (hx1:x<18446744073709551616) (hl:rl.length+1≤1048576) :
  Calls Try.prog 16 #[.pointer (some ⟨g,0,none⟩),.agg #[.int .i64 wh,.int .i64 3,.int .u64 x,.int .i64 m,.int .u64 v,.slice A l c]] w (ActPost F ok w g (some ⟨s,0,none⟩) rl):=by
 obtain ⟨A1,c1,Sp,X,hP⟩:=hD.open_
 obtain ⟨w1,hw1⟩:∃ w1,w1=w.alloc (.cells #[.int .i64 wh,.int .i64 3,.int .u64 x,.int .i64 m,.int .u64 v,.slice A l c] 46):=⟨_,rfl⟩
 obtain ⟨q,hq⟩:∃ q,q=w.heap.size:=⟨_,rfl⟩
 have hb1:Below w.heap.size w w1:=by rw [hw1];exact below_push (Nat.le_refl _) (Below.refl w.heap.size w) _
 have hs1:w1.heap.size=w.heap.size+1:=by rw [hw1];exact Array.size_push _
 have hC8:Cells8 w1 g q s A1 rl.length c1 wh 3 x m v A l c:=by
  obtain ⟨a,b,h1⟩:=hP.len.blk
  exact ⟨⟨a,b,h1.below hb1 h1.lt⟩,by rw [hw1,hq];exact Blk.new _ _ _⟩
 have hgl:=hD.glt
 have HSA:=Lib.hid (show ∀ W,Below w1.heap.size w1 W→(fun W=>W.cell? ⟨g,0,none⟩=some (.pointer (some ⟨s,0,none⟩))∧W.cell? ⟨g,1,none⟩=some (.slice A1 rl.length c1)∧W.cell? ⟨q,0,none⟩=some (.int .i64 wh)∧W.cell? ⟨q,1,none⟩=some (.int .i64 3)∧W.cell? ⟨q,2,none⟩=some (.int .u64 x)∧W.cell? ⟨q,3,none⟩=some (.int .i64 m)∧W.cell? ⟨q,4,none⟩=some (.int .u64 v)∧W.cell? ⟨q,5,none⟩=some (.slice A l c)) W from fun W hW=>(hC8.below hW (by omega) (by omega)).all)
 have HD0:=Lib.hid (below_drew (Below.refl w1.heap.size w1))
 have HS0:=Lib.hid (HSA.out _ HD0.out)
 have c0:=hC8.all.1
 have c1':=hC8.all.2.1
 rw [hw1] at c0 c1'
 have HK:=Lib.hid (show ∀ W,Below w1.heap.size w1 W→Kd.C k39 W A1 rl.length rl∧rl.length≤c1∧SpaceAt W s rs from fun W hW=>by
  have h2:=hb1.trans (hW.mono hb1.size)
  have h3:=Kd.V_reads' (Kd.V_below hP.val h2)
  exact ⟨h3.2.2,h3.2.1,(hP.st.below h2).space⟩)
 have HP:=Lib.hid hP
 have HDK:=Lib.hid hD
 have HW:=Lib.hid hw1
 have HQ:=Lib.hid hq
 have HB1:=Lib.hid hb1
 clear hP hw1 hb1 hs1 hC8 hD hq
 go_enter Try.func16,Try.ntmps16
 clear c1'
 go_wp2_with fail
 rw [← HW.out,← HQ.out]
 go_region_held3 (fun W=>W.cell? ⟨g,0,none⟩=some (.pointer (some ⟨s,0,none⟩))∧W.cell? ⟨g,1,none⟩=some (.slice A1 rl.length c1)∧W.cell? ⟨q,0,none⟩=some (.int .i64 wh)∧W.cell? ⟨q,1,none⟩=some (.int .i64 3)∧W.cell? ⟨q,2,none⟩=some (.int .u64 x)∧W.cell? ⟨q,3,none⟩=some (.int .i64 m)∧W.cell? ⟨q,4,none⟩=some (.int .u64 v)∧W.cell? ⟨q,5,none⟩=some (.slice A l c)) (first|exact HS0.out|exact HSA.out _ HB2.out) (first|(go_at_call 44;refine (rload2_ w1.drew A1 c1 rl rs x m (HK.out _ HD0.out).1 (HK.out _ HD0.out).2.1 HP.out.rel (by omega) HP.out.small hx0 hx1).mono ?_;rintro e w2 ⟨rfl,hb⟩;have HB2:=Lib.hid (HD0.out.trans hb);clear hb))
 have HS2:=Lib.hid (HSA.out _ (below_drew HB2.out))
 go_wp2_with fail
 go_region_held3 (fun W=>W.cell? ⟨g,0,none⟩=some (.pointer (some ⟨s,0,none⟩))∧W.cell? ⟨g,1,none⟩=some (.slice A1 rl.length c1)∧W.cell? ⟨q,0,none⟩=some (.int .i64 wh)∧W.cell? ⟨q,1,none⟩=some (.int .i64 3)∧W.cell? ⟨q,2,none⟩=some (.int .u64 x)∧W.cell? ⟨q,3,none⟩=some (.int .i64 m)∧W.cell? ⟨q,4,none⟩=some (.int .u64 v)∧W.cell? ⟨q,5,none⟩=some (.slice A l c)) (first|exact HS2.out|exact HSA.out _ HB3.out) (first|(go_at_call 12;refine (load_ w2.drew s rs x m (HK.out _ (below_drew HB2.out)).2.2 HP.out.rel.rising (fun r hr=>HP.out.st.bytes r hr) hx0 hx1).mono ?_;rintro e w3 ⟨rfl,⟨nd,rfl⟩⟩;have HB3:=Lib.hid (pw_below_drewN (below_drew HB2.out) nd)))
 go_wp2_with (go_at_call 37;refine (spindlelaw0_Num.calls _ _ _ rfl).mono ?_;rintro e w9 ⟨rfl,⟨nd2,rfl⟩⟩)
 go_ret3
 exact actPost_same HDK.out (HB1.out.trans ((pw_below_drewN HB2.out _).mono HB1.out.size)) Hands.nil
theorem bytesOf_len {rs:List Reg} {x n:Int} (h:∀ r∈rs,r.data.length≤1048576):(bytesOf rs x n).1.length≤1048576:=by
 unfold bytesOf
 split
 ·simp
 ·split
  ·simp
  ·cases hv:viewOf rs x n.toNat with
   | none=>simp
   | some ro =>
    obtain ⟨r,o⟩:=ro
    have h1:=h r (viewOf_some rs x _ r o hv).1
    simp only [List.length_take,List.length_drop]
    omega
theorem OutsR.outs {w:World} {base:Nat} {v:Value} {os:List Out} (h:OutsR w base v os):Outs w base v os:=
 ⟨h.row,fun o ho=>⟨Dat.of_own (h.dat o ho),fun _ d hd=>(World.ownsRow.lt (h.dat o ho) d (by rw [hd];rfl)).1⟩⟩
theorem OutsR.base {w:World} {b b':Nat} {v:Value} {os:List Out} (h:OutsR w b v os) (hb:b'≤b):OutsR w b' v os:=by
 refine ⟨⟨h.row.1,?_⟩,fun o ho=>(h.dat o ho).base hb,h.sep⟩
 rcases h.row.2 with hn|⟨g,cap,cur,hv,hg,rest⟩
 ·exact .inl hn
 ·exact .inr ⟨g,cap,cur,hv,by omega,rest⟩
theorem outs_small {os:List Out} {rs:List Reg} (h:os.map (fun o=>(o.first,o.data))=rs.map toOut) (hs:∀ r∈rs,r.data.length≤1048576):∀ o∈os,o.data.length≤1048576:=by
 intro o ho
 have h1:(o.first,o.data)∈rs.map toOut:=by rw [← h];exact List.mem_map.2 ⟨o,ho,rfl⟩
 obtain ⟨r,hr,e⟩:=List.mem_map.1 h1
 have h2:=hs r hr
 have h3:r.data=o.data:=congrArg Prod.snd e
 rw [← h3];exact h2
theorem act_bytes (w:World) (F ok:Nat→Prop) (g s:Nat) (rl:List S39) (rs:List Reg) (wh x m v:Int) (A:Option Addr) (l c:Nat) (hD:DeskAt w F ok g (some ⟨s,0,none⟩) rl rs) (hx0:0≤x) (hx1:x<18446744073709551616) (hm0:-9223372036854775808≤m) (hm1:m<9223372036854775808) (hl:rl.length+1≤1048576) :
  Calls Try.prog 16 #[.pointer (some ⟨g,0,none⟩),.agg #[.int .i64 wh,.int .i64 5,.int .u64 x,.int .i64 m,.int .u64 v,.slice A l c]] w (ActSame F ok w g (some ⟨s,0,none⟩) rl rs):=by
 obtain ⟨A1,c1,Sp,X,hP⟩:=hD.open_
 obtain ⟨w1,hw1⟩:∃ w1,w1=w.alloc (.cells #[.int .i64 wh,.int .i64 5,.int .u64 x,.int .i64 m,.int .u64 v,.slice A l c] 46):=⟨_,rfl⟩
 obtain ⟨q,hq⟩:∃ q,q=w.heap.size:=⟨_,rfl⟩
 have hb1:Below w.heap.size w w1:=by rw [hw1];exact below_push (Nat.le_refl _) (Below.refl w.heap.size w) _
 have hs1:w1.heap.size=w.heap.size+1:=by rw [hw1];exact Array.size_push _
 have hC8:Cells8 w1 g q s A1 rl.length c1 wh 5 x m v A l c:=by
  obtain ⟨a,b,h1⟩:=hP.len.blk
  exact ⟨⟨a,b,h1.below hb1 h1.lt⟩,by rw [hw1,hq];exact Blk.new _ _ _⟩
 have hgl:=hD.glt
 have HSA:=Lib.hid (show ∀ W,Below w1.heap.size w1 W→(fun W=>W.cell? ⟨g,0,none⟩=some (.pointer (some ⟨s,0,none⟩))∧W.cell? ⟨g,1,none⟩=some (.slice A1 rl.length c1)∧W.cell? ⟨q,0,none⟩=some (.int .i64 wh)∧W.cell? ⟨q,1,none⟩=some (.int .i64 5)∧W.cell? ⟨q,2,none⟩=some (.int .u64 x)∧W.cell? ⟨q,3,none⟩=some (.int .i64 m)∧W.cell? ⟨q,4,none⟩=some (.int .u64 v)∧W.cell? ⟨q,5,none⟩=some (.slice A l c)) W from fun W hW=>(hC8.below hW (by omega) (by omega)).all)
 have HD0:=Lib.hid (below_drew (Below.refl w1.heap.size w1))
 have HS0:=Lib.hid (HSA.out _ HD0.out)
 have c0:=hC8.all.1
 have c1':=hC8.all.2.1
 rw [hw1] at c0 c1'
 have HK:=Lib.hid (show ∀ W,Below w1.heap.size w1 W→Kd.C k39 W A1 rl.length rl∧rl.length≤c1∧SpaceAt W s rs from fun W hW=>by
  have h2:=hb1.trans (hW.mono hb1.size)
  have h3:=Kd.V_reads' (Kd.V_below hP.val h2)
  exact ⟨h3.2.2,h3.2.1,(hP.st.below h2).space⟩)
 have HP:=Lib.hid hP
 have HDK:=Lib.hid hD
 have HW:=Lib.hid hw1
 have HQ:=Lib.hid hq
 have HB1:=Lib.hid hb1
 clear hP hw1 hb1 hs1 hC8 hD hq
 go_enter Try.func16,Try.ntmps16
 clear c1'
 have HD48:=Lib.hid (show ∀ r∈rs,r.data.length≤1048576 from fun r hr=>by
  have h:=(HP.out.small _ ((rel_mem HP.out.rel).1 r hr)).2
  simp only [s39] at h;omega)
 have HDD:=Lib.hid (show ∀ r∈rs,r.data.length≤140737488355328 from fun r hr=>by
  have h:=(HP.out.small _ ((rel_mem HP.out.rel).1 r hr)).2
  simp only [s39] at h;omega)
 go_wp2_with fail
 rw [← HW.out,← HQ.out]
 go_region_held3 (fun W=>W.cell? ⟨g,0,none⟩=some (.pointer (some ⟨s,0,none⟩))∧W.cell? ⟨g,1,none⟩=some (.slice A1 rl.length c1)∧W.cell? ⟨q,0,none⟩=some (.int .i64 wh)∧W.cell? ⟨q,1,none⟩=some (.int .i64 5)∧W.cell? ⟨q,2,none⟩=some (.int .u64 x)∧W.cell? ⟨q,3,none⟩=some (.int .i64 m)∧W.cell? ⟨q,4,none⟩=some (.int .u64 v)∧W.cell? ⟨q,5,none⟩=some (.slice A l c)) (first|exact HS0.out|exact HSA.out _ HB2.out) (first|(go_at_call 46;refine (rbytes_ w1.drew A1 c1 rl rs x m (HK.out _ HD0.out).1 (HK.out _ HD0.out).2.1 HP.out.rel hx0 hx1 hm0 hm1 (by omega) HP.out.small).mono ?_;rintro e w2 ⟨A2,c2,rfl,hd,hb⟩;have HB2:=Lib.hid (HD0.out.trans hb);have HD2:=Lib.hid hd;clear hb hd))
 have HS2:=Lib.hid (HSA.out _ (below_drew HB2.out))
 go_wp2_with fail
 go_region_held3 (fun W=>W.cell? ⟨g,0,none⟩=some (.pointer (some ⟨s,0,none⟩))∧W.cell? ⟨g,1,none⟩=some (.slice A1 rl.length c1)∧W.cell? ⟨q,0,none⟩=some (.int .i64 wh)∧W.cell? ⟨q,1,none⟩=some (.int .i64 5)∧W.cell? ⟨q,2,none⟩=some (.int .u64 x)∧W.cell? ⟨q,3,none⟩=some (.int .i64 m)∧W.cell? ⟨q,4,none⟩=some (.int .u64 v)∧W.cell? ⟨q,5,none⟩=some (.slice A l c)) (first|exact HS2.out|exact HSA.out _ HB3.out) (first|(go_at_call 47;refine (bytesR_ w2.drew s rs x m (HK.out _ (below_drew HB2.out)).2.2 HP.out.rel.rising HDD.out hx0 hx1 hm0 hm1).mono ?_;rintro e w3 ⟨A3,c3,rfl,hd,hb⟩;have HB3:=Lib.hid ((below_drew HB2.out).trans (hb.mono HB2.out.size));have HD3:=Lib.hid (Dat.of_own hd);have HO3:=Lib.hid (hd.base (b':=w.heap.size) (show w.heap.size≤w2.drew.heap.size from Nat.le_trans HB1.out.size HB2.out.size));have HD23:=Lib.hid ((HD2.out.below (below_drew (Below.refl _ _))).below hb);clear hb hd))
 go_wp2_with (first|(go_at_call 48;refine (sameb_ w3 A3 A2 _ c3 c2 (bytesOf rs x m).1 HD3.out.C HD23.out.C HD3.out.len HD23.out.len).mono ?_;rintro e w4 ⟨rfl,⟨nd,rfl⟩⟩)|(go_at_call 37;refine (spindlelaw0_Num.calls _ _ _ rfl).mono ?_;rintro e w9 ⟨rfl,⟨nd2,rfl⟩⟩))
 go_ret3
 exact actSame_ HDK.out (HB1.out.trans ((pw_below_drewN HB3.out _).mono HB1.out.size)) ⟨⟨_,_,_,rfl,HO3.out.below (pw_below_drewN (Below.refl _ _) _),bytesOf_len HD48.out⟩,⟨[],none,0,rfl,OutsR.nil _ _,Nat.zero_le _,(fun o h=>nomatch h)⟩,.inr fun k hk=>hk.elim (HDK.out.lt k) (HDK.out.oklt k),.inr rfl⟩
theorem act_regions (w:World) (F ok:Nat→Prop) (g s:Nat) (rl:List S39) (rs:List Reg) (wh x m v:Int) (A:Option Addr) (l c:Nat) (hD:DeskAt w F ok g (some ⟨s,0,none⟩) rl rs) (hl:rl.length+1≤1048576) :
  Calls Try.prog 16 #[.pointer (some ⟨g,0,none⟩),.agg #[.int .i64 wh,.int .i64 7,.int .u64 x,.int .i64 m,.int .u64 v,.slice A l c]] w (ActSame F ok w g (some ⟨s,0,none⟩) rl rs):=by
 obtain ⟨A1,c1,Sp,X,hP⟩:=hD.open_
 obtain ⟨w1,hw1⟩:∃ w1,w1=w.alloc (.cells #[.int .i64 wh,.int .i64 7,.int .u64 x,.int .i64 m,.int .u64 v,.slice A l c] 46):=⟨_,rfl⟩
 obtain ⟨q,hq⟩:∃ q,q=w.heap.size:=⟨_,rfl⟩
 have hb1:Below w.heap.size w w1:=by rw [hw1];exact below_push (Nat.le_refl _) (Below.refl w.heap.size w) _
 have hs1:w1.heap.size=w.heap.size+1:=by rw [hw1];exact Array.size_push _
 have hC8:Cells8 w1 g q s A1 rl.length c1 wh 7 x m v A l c:=by
  obtain ⟨a,b,h1⟩:=hP.len.blk
  exact ⟨⟨a,b,h1.below hb1 h1.lt⟩,by rw [hw1,hq];exact Blk.new _ _ _⟩
 have hgl:=hD.glt
 have HSA:=Lib.hid (show ∀ W,Below w1.heap.size w1 W→(fun W=>W.cell? ⟨g,0,none⟩=some (.pointer (some ⟨s,0,none⟩))∧W.cell? ⟨g,1,none⟩=some (.slice A1 rl.length c1)∧W.cell? ⟨q,0,none⟩=some (.int .i64 wh)∧W.cell? ⟨q,1,none⟩=some (.int .i64 7)∧W.cell? ⟨q,2,none⟩=some (.int .u64 x)∧W.cell? ⟨q,3,none⟩=some (.int .i64 m)∧W.cell? ⟨q,4,none⟩=some (.int .u64 v)∧W.cell? ⟨q,5,none⟩=some (.slice A l c)) W from fun W hW=>(hC8.below hW (by omega) (by omega)).all)
 have HD0:=Lib.hid (below_drew (Below.refl w1.heap.size w1))
 have HS0:=Lib.hid (HSA.out _ HD0.out)
 have c0:=hC8.all.1
 have c1':=hC8.all.2.1
 rw [hw1] at c0 c1'
 have HK:=Lib.hid (show ∀ W,Below w1.heap.size w1 W→Kd.C k39 W A1 rl.length rl∧rl.length≤c1∧SpaceAt W s rs from fun W hW=>by
  have h2:=hb1.trans (hW.mono hb1.size)
  have h3:=Kd.V_reads' (Kd.V_below hP.val h2)
  exact ⟨h3.2.2,h3.2.1,(hP.st.below h2).space⟩)
 have HP:=Lib.hid hP
 have HDK:=Lib.hid hD
 have HW:=Lib.hid hw1
 have HQ:=Lib.hid hq
 have HB1:=Lib.hid hb1
 clear hP hw1 hb1 hs1 hC8 hD hq
 go_enter Try.func16,Try.ntmps16
 obtain ⟨kk,hkk⟩:=sort_eqR rl rs HP.out.rel HP.out.small (by omega)
 have HSO:=Lib.hid hkk
 have HLN:=Lib.hid HP.out.rel.len
 have HDD:=Lib.hid (show ∀ r∈rs,r.data.length≤140737488355328 from fun r hr=>by
  have h:=(HP.out.small _ ((rel_mem HP.out.rel).1 r hr)).2
  simp only [s39] at h;omega)
 have HST:=Lib.hid (show ∀ W,Below w1.heap.size w1 W→St 0 W s rs from fun W hW=>(HP.out.st.below (HB1.out.trans (hW.mono HB1.out.size))).mono (fun _ _ _=>Nat.zero_le _))
 have HR0:=Lib.hid (HK.out w1 (Below.refl _ _))
 have HR51:=Lib.hid (show Calls Try.prog 51 #[.agg #[.slice A1 rl.length c1]] w1 fun e w'=>∃ A2 c2,e=.returned (.slice A2 rs.length c2)∧rs.length≤c2∧Kd.C k39 w' A2 rs.length (rs.map s39)∧Below w1.heap.size w1 w' from by
  refine (spindleref20_Space_Regions.calls kk A1 c1 rl (rs.map s39) _ HR0.out.1 HR0.out.2.1 HSO.out).mono ?_
  rintro e w2 ⟨v2,rfl,hs2,hb2⟩
  obtain ⟨A2,c2,rfl,h1,h2⟩:=Kd.S_reads hs2
  rw [List.length_map] at h1 h2 ⊢
  exact ⟨A2,c2,rfl,h1,h2,hb2⟩)
 have HR22:=Lib.hid (show ∀ W,Below w1.heap.size w1 W→Calls Try.prog 22 #[.pointer (some ⟨s,0,none⟩)] W fun e w'=>∃ A3 c3 os,e=.returned (.tuple #[.slice A3 rs.length c3,.int .i64 0])∧(OutsR w' W.heap.size (.slice A3 rs.length c3) os∧os.map (fun o=>(o.first,o.data))=rs.map toOut)∧rs.length≤c3∧Kd.C k39 w' A3 rs.length (rs.map s39)∧Below W.heap.size W w' from fun W hW=>by
  refine (regionsR_ 0 W s rs (HST.out W hW) HDD.out).mono ?_
  rintro e w3 ⟨v3,os,rfl,ho,he,hb3⟩
  obtain ⟨h1,h2⟩:=outs_rs he
  obtain ⟨A3,c3,rfl,hl3,hk3⟩:=ho.outs.C (by have:=HLN.out;omega)
  rw [h1] at hl3 hk3 ho ⊢
  rw [h2] at hk3
  exact ⟨A3,c3,os,rfl,⟨ho,he⟩,hl3,hk3,hb3⟩)
 go_wp2_with fail
 rw [← HW.out]
 go_wp2_with (first|(go_at_call 51;refine HR51.out.mono ?_;rintro e w2 ⟨A2,c2,rfl,hc2,hk,hb⟩;have HB2:=Lib.hid hb;have HK2:=Lib.hid hk;have g0:=(HSA.out w2 hb).1;clear hk hb)|(go_at_call 22;refine (HR22.out w2 HB2.out).mono ?_;rintro e w3 ⟨A3,c3,os,rfl,ho,hc3,hk,hb⟩;have HB3:=Lib.hid (HB2.out.trans (hb.mono HB2.out.size));have HO3:=Lib.hid ho.1;have HE3:=Lib.hid ho.2;have HZ3:=Lib.hid (Nat.le_trans HB1.out.size HB2.out.size);clear ho;have HK3:=Lib.hid hk;have HK23:=Lib.hid (Kd.C_below HK2.out hb);clear hk hb)|(go_at_call 52;refine (same_ w3 A3 A2 _ _ c3 c2 (rs.map s39) HK3.out HK23.out hc3 hc2 (by have:=HLN.out;simp;omega)).mono ?_;rintro e w4 ⟨rfl,⟨nd,rfl⟩⟩))
 go_ret3
 obtain ⟨hos,_⟩:=outs_rs HE3.out
 have hsm:∀ r∈rs,r.data.length≤1048576:=fun r hr=>by
  have h:=(HP.out.small _ ((rel_mem HP.out.rel).1 r hr)).2
  simp only [s39] at h;omega
 exact actSame_ HDK.out (HB1.out.trans ((pw_below_drewN HB3.out _).mono HB1.out.size)) ⟨⟨[],none,0,rfl,World.ownsRow_nil _ _ _ _,by decide⟩,⟨os,A3,c3,congrArg (fun z=>Value.slice A3 z c3) hos.symm,((HO3.out.base HZ3.out).below (pw_below_drewN (Below.refl _ _) _)),by have:=HLN.out;omega,outs_small HE3.out hsm⟩,.inr fun k hk=>hk.elim (HDK.out.lt k) (HDK.out.oklt k),.inl rfl⟩
end Go.Proofs.Ythmeojeehemlaaa.Mem
end
section
namespace Go.Proofs.Ythmeojeehemlaaa.Mem
open Go.RowKit Go.Proofs.YthmeojeehemlaaaW.PrintWords
open Go.Proofs.Ythmeojeehemlaaa.PM
attribute [local go_sem] isSome_setCell
theorem act_nil (w:World) (F ok:Nat→Prop) (g:Nat) (rl:List S39) (rs:List Reg) (wh k x m v:Int) (A:Option Addr) (l c:Nat) (hD:DeskAt w F ok g none rl rs) :
  Calls Try.prog 16 #[.pointer (some ⟨g,0,none⟩),.agg #[.int .i64 wh,.int .i64 k,.int .u64 x,.int .i64 m,.int .u64 v,.slice A l c]] w (ActSame F ok w g none rl rs):=by
 obtain ⟨A1,c1,Sp,X,hL,_⟩:=hD.parts
 obtain ⟨a,b,hg⟩:=hL.blk
 have hb1:=below_push (Nat.le_refl _) (Below.refl w.heap.size w) (.cells #[.int .i64 wh,.int .i64 k,.int .u64 x,.int .i64 m,.int .u64 v,.slice A l c] 46)
 have hg1:=hg.alloc (.cells #[.int .i64 wh,.int .i64 k,.int .u64 x,.int .i64 m,.int .u64 v,.slice A l c] 46)
 have HG:=Lib.hid hg1
 have HB:=Lib.hid hb1
 have HD:=Lib.hid hD
 have g0:=hg1.cell 0
 simp only [List.getElem?_toArray,List.getElem?_cons_zero] at g0
 clear hL hg hb1 hg1 hD
 go_enter Try.func16,Try.ntmps16
 go_wp2_with (go_at_call 38;refine (nothing2_ _ g _ HG.out rfl wh k x m v A l c).mono ?_;rintro e w2 ⟨rfl,hb⟩;have HB2:=Lib.hid (HB.out.trans (hb.mono (act_size w _)));clear hb)
 go_ret3
 exact actSame_ HD.out HB2.out Hands.nil
theorem act_other (w:World) (F ok:Nat→Prop) (g s:Nat) (rl:List S39) (rs:List Reg) (wh k x m v:Int) (A:Option Addr) (l c:Nat) (hD:DeskAt w F ok g (some ⟨s,0,none⟩) rl rs) (hk:¬ (k=1∨k=2∨k=3∨k=4∨k=5∨k=6∨k=7)) :
  Calls Try.prog 16 #[.pointer (some ⟨g,0,none⟩),.agg #[.int .i64 wh,.int .i64 k,.int .u64 x,.int .i64 m,.int .u64 v,.slice A l c]] w (ActPost F ok w g (some ⟨s,0,none⟩) rl):=by
 obtain ⟨A1,c1,Sp,X,hL,_⟩:=hD.parts
 obtain ⟨a,b,hg⟩:=hL.blk
 have hb1:=below_push (Nat.le_refl _) (Below.refl w.heap.size w) (.cells #[.int .i64 wh,.int .i64 k,.int .u64 x,.int .i64 m,.int .u64 v,.slice A l c] 46)
 have hg1:=hg.alloc (.cells #[.int .i64 wh,.int .i64 k,.int .u64 x,.int .i64 m,.int .u64 v,.slice A l c] 46)
 have HB:=Lib.hid hb1
 have HD:=Lib.hid hD
 have g0:=hg1.cell 0
 simp only [List.getElem?_toArray,List.getElem?_cons_zero] at g0
 have k1:(k == 1)=false:=by rw [beq_eq_false_iff_ne];omega
 have k2:(k == 2)=false:=by rw [beq_eq_false_iff_ne];omega
 have k3:(k == 3)=false:=by rw [beq_eq_false_iff_ne];omega
 have k4:(k == 4)=false:=by rw [beq_eq_false_iff_ne];omega
 have k5:(k == 5)=false:=by rw [beq_eq_false_iff_ne];omega
 have k6:(k == 6)=false:=by rw [beq_eq_false_iff_ne];omega
 have k7:(k == 7)=false:=by rw [beq_eq_false_iff_ne];omega
 have n1:¬ k=1:=by omega
 have n2:¬ k=2:=by omega
 have n3:¬ k=3:=by omega
 have n4:¬ k=4:=by omega
 have n5:¬ k=5:=by omega
 have n6:¬ k=6:=by omega
 have n7:¬ k=7:=by omega
 clear hL hg hb1 hg1 hD hk
 go_enter Try.func16,Try.ntmps16
 go_wp2
 go_ret3
 exact actPost_same HD.out HB.out Hands.nil
theorem act2_ (w:World) (F ok:Nat→Prop) (g:Nat) (P0:Option Addr) (rl:List S39) (rs:List Reg) (wh k x m v:Int) (A:Option Addr) (n c:Nat) (bs:List Int) (hD:DeskAt w F ok g P0 rl rs) (hC:Kd.C (Kd.int .u8) w A n bs) (hc:n≤c) (hbs:Small ⟨x,bs⟩) (hA:0<n→∀ ad,A=some ad→¬ F ad.block) (hl:rl.length+1≤1048576) (hm0:-9223372036854775808≤m) (hm1:m<9223372036854775808) (hv0:0≤v) (hv1:v<18446744073709551616) :
  Calls Try.prog 16 #[.pointer (some ⟨g,0,none⟩),.agg #[.int .i64 wh,.int .i64 k,.int .u64 x,.int .i64 m,.int .u64 v,.slice A n c]] w (ActPost F ok w g P0 rl):=by
 obtain rfl:=hC.1
 have hx0:=hbs.1.1
 have hx1:=hbs.1.2.1
 obtain ⟨A1,c1,Sp,X,_,_,hS,_⟩:=hD.parts
 rcases hS with ⟨rfl,_,_⟩|⟨s,rfl,_,_⟩
 ·exact (act_nil w F ok g rl rs wh k x m v A _ c hD).mono fun _ _ h=>h.post
 ·by_cases hk:k=1∨k=2∨k=3∨k=4∨k=5∨k=6∨k=7
  ·rcases hk with rfl|rfl|rfl|rfl|rfl|rfl|rfl
   ·exact act_add w F ok g s rl rs wh x m v A c bs hD hC hc hbs hA hl
   ·exact act_remove w F ok g s rl rs wh x m v A _ c hD hl
   ·exact act_load w F ok g s rl rs wh x m v A _ c hD hx0 hx1 hl
   ·exact act_store w F ok g s rl rs wh x m v A _ c hD hx0 hx1 hv0 hv1 hl
   ·exact (act_bytes w F ok g s rl rs wh x m v A _ c hD hx0 hx1 hm0 hm1 hl).mono fun _ _ h=>h.post
   ·exact act_put w F ok g s rl rs wh x m v A c bs hD hC hc hbs hA hl
   ·exact (act_regions w F ok g s rl rs wh x m v A _ c hD hl).mono fun _ _ h=>h.post
  ·exact act_other w F ok g s rl rs wh k x m v A _ c hD hk
theorem ask_ (w:World) (F ok:Nat→Prop) (g:Nat) (P0:Option Addr) (rl:List S39) (rs:List Reg) (wh k x m v:Int) (A:Option Addr) (n c:Nat) (hD:DeskAt w F ok g P0 rl rs) (hk:k=5∨k=7) (hx0:0≤x) (hx1:x<18446744073709551616) (hl:rl.length+1≤1048576) (hm0:-9223372036854775808≤m) (hm1:m<9223372036854775808) :
  Calls Try.prog 16 #[.pointer (some ⟨g,0,none⟩),.agg #[.int .i64 wh,.int .i64 k,.int .u64 x,.int .i64 m,.int .u64 v,.slice A n c]] w (ActSame F ok w g P0 rl rs):=by
 obtain ⟨A1,c1,Sp,X,_,_,hS,_⟩:=hD.parts
 rcases hS with ⟨rfl,_,_⟩|⟨s,rfl,_,_⟩
 ·exact act_nil w F ok g rl rs wh k x m v A n c hD
 ·rcases hk with rfl|rfl
  ·exact act_bytes w F ok g s rl rs wh x m v A n c hD hx0 hx1 hm0 hm1 hl
  ·exact act_regions w F ok g s rl rs wh x m v A n c hD hl
end Go.Proofs.Ythmeojeehemlaaa.Mem
end
end
section
section
namespace Go.Proofs.Ythmeojeehemlaaa.Mem
open Go.RowKit Go.Proofs.YthmeojeehemlaaaW.PrintWords
open Go.Proofs.Ythmeojeehemlaaa.PM
attribute [local go_sem] isSome_setCell
def OpenPost (w:World) (xs:List S39) (e:Ending) (w':World):Prop:=
 ∃ g F ok P0 rl rs,e=.returned (.tuple #[.pointer (some ⟨g,0,none⟩),.bool true])∧DeskAt w' F ok g P0 rl rs∧Below w.heap.size w w'∧(∀ k,F k→w.heap.size≤k)∧(∀ k,ok k→w.heap.size≤k)∧rl.length≤xs.length
theorem open_fin2 {P0:Option Addr} {B:Nat} {okR:Nat→Prop} (w w5:World) (A1:Option Addr) (c1:Nat) (rl xs:List S39) (k:Nat) (hl:rl.length≤c1) (hK:Kd.V k39 39 w5 0 okR (.slice A1 rl.length c1) rl) (hok:∀ k,okR k→w.heap.size≤k∧k<B) (hwB:w.heap.size≤B) (hB5:B≤w5.heap.size)
  (hb:Below w.heap.size w w5) (hx:∀ y∈xs,Small y) (hr:(∃ s rs,P0=some ⟨s,0,none⟩∧St B w5 s rs∧Adds xs rs∧rl=xs)∨(P0=none∧rl=[])) :
  OpenPost w xs (.returned (.tuple #[.pointer (some ⟨w5.heap.size,0,none⟩),.bool true])) ((w5.alloc (.cells #[.pointer P0,.slice A1 rl.length c1,.slice none 0 0,.int .i64 0] 87)).drewN k):=by
 have hb2:Below w5.heap.size w5 ((w5.alloc (.cells #[.pointer P0,.slice A1 rl.length c1,.slice none 0 0,.int .i64 0] 87)).drewN k):=pw_below_drewN (below_push (Nat.le_refl _) (Below.refl _ _) _) k
 have hsz:((w5.alloc (.cells #[.pointer P0,.slice A1 rl.length c1,.slice none 0 0,.int .i64 0] 87)).drewN k).heap.size=w5.heap.size+1:=size1 _ _
 have hL:Lender ((w5.alloc (.cells #[.pointer P0,.slice A1 rl.length c1,.slice none 0 0,.int .i64 0] 87)).drewN k) w5.heap.size (.pointer P0) (.slice A1 rl.length c1) (fun _=>False):=⟨none,0,0,(Blk.new w5 87 _).drewN k,by decide,.inl ⟨rfl,rfl⟩⟩
 have mkD:∀ rs,((P0=none∧rl=[]∧rs=[])∨∃ s,P0=some ⟨s,0,none⟩∧St B w5 s rs∧Rel rl rs)→(∀ y∈rl,Small y)→DeskAt ((w5.alloc (.cells #[.pointer P0,.slice A1 rl.length c1,.slice none 0 0,.int .i64 0] 87)).drewN k) (fun i=>B≤i∧i<w5.heap.size+1) okR w5.heap.size P0 rl rs:=by
  intro rs h hs
  refine ⟨⟨A1,c1,fun i=>B≤i∧i<w5.heap.size,fun _=>False,hL,Kd.V_below hK hb2,?_,fun i hi=>⟨hi.1,by omega⟩,fun _ h=>h.elim,fun _ _ h=>h,fun h=>Nat.lt_irrefl _ h.2,fun h=>h⟩,⟨hB5,by omega⟩,fun i hi=>by rw [hsz];exact hi.2,fun i hi h2=>by have:=hok i hi;omega,hs,fun i hi=>by rw [hsz];have:=hok i hi;omega⟩
  rcases h with h|⟨s,e,hst,hrel⟩
  ·exact .inl h
  ·exact .inr ⟨s,e,(StF.shrink hst).below hb2,hrel⟩
 rcases hr with ⟨s,rs,rfl,hs,ha,rfl⟩|⟨rfl,rfl⟩
 ·exact ⟨_,_,okR,_,rl,rs,rfl,mkD rs (.inr ⟨s,rfl,hs,ha.rel (fun y hy=>(hx y hy).1)⟩) hx,hb.trans (hb2.mono hb.size),fun i hi=>Nat.le_trans hwB hi.1,fun i hi=>(hok i hi).1,Nat.le_refl _⟩
 ·exact ⟨_,_,okR,_,[],[],rfl,mkD [] (.inl ⟨rfl,rfl,rfl⟩) (fun _ h=>absurd h List.not_mem_nil),hb.trans (hb2.mono hb.size),fun i hi=>Nat.le_trans hwB hi.1,fun i hi=>(hok i hi).1,Nat.zero_le _⟩
theorem rnew2_ (w:World) (A:Option Addr) (n c:Nat) (xs:List S39) (hC:Kd.C k39 w A n xs) (hc:n≤c) (hl:n≤1048576) (hx:∀ y∈xs,Small y) :
  Calls Try.prog 34 #[.slice A n c] w fun e w'=>∃ A1 c1 rl r2,e=.returned (.tuple #[.agg #[.slice A1 rl.length c1],.int .i64 r2])∧rl.length≤c1∧Kd.V k39 39 w' 0 (fun k=>w.heap.size≤k∧k<w'.heap.size) (.slice A1 rl.length c1) rl∧Below w.heap.size w w'∧((r2=0∧rl=xs∧∀ j (h:j<xs.length),Fine (xs.take j) xs[j])∨(r2=201∧rl=[]∧∃ j,∃ h:j<xs.length,¬ Fine (xs.take j) xs[j])):=by
 obtain rfl:=hC.1
 obtain ⟨⟨r1,r2⟩,h1,h2⟩:=rnew_eq xs hl hx
 refine (spindleref20_New.calls (4*xs.length+5) A c xs r1 r2 w hC hc h1).mono ?_
 rintro e w' ⟨v,rfl,hv,hb⟩
 obtain ⟨A1,c1,rfl⟩:=Kd.V_slice hv
 obtain ⟨_,h4,_⟩:=Kd.V_reads' hv
 have h5:=Kd.V_bound hv
 refine ⟨A1,c1,r1,r2,rfl,h4,h5,hb,?_⟩
 rcases h2 with ⟨h2,h3⟩|⟨h2,h3⟩
 ·injection h2 with e1 e2
  exact .inl ⟨e2,e1,h3⟩
 ·injection h2 with e1 e2
  exact .inr ⟨e2,e1,h3⟩
theorem open2_ (w:World) (A:Option Addr) (n c:Nat) (xs:List S39) (hC:Kd.C k39 w A n xs) (hc:n≤c) (hn:n≤1048576) (hx:∀ y∈xs,Small y) :
  Calls Try.prog 14 #[.slice A n c] w fun e w'=>OpenPost w xs e w':=by
 have HC:=Lib.hid hC
 have HX:=Lib.hid hx
 have HLX:=Lib.hid hC.1
 clear hC hx
 go_enter Try.func14,Try.ntmps14
 refine wp_seq_k (fun K hK=>?_)
 have HK:=Lib.hid hK
 clear hK
 go_wp2
 refine HK.out _ _ ?_
 clear HK K
 refine wp_seq_k (fun K hK=>?_)
 have HK:=Lib.hid hK
 clear hK
 go_wp2_with (first|(go_at_call 8;refine (copy2_ _ A n c xs HC.out hc (by rw [HLX.out];omega) (fun x hx=>by have:=(HX.out x hx).2;omega)).mono ?_;rintro e w1 ⟨A2,c2,rfl,hnc2,hk,hb⟩;have HK1:=Lib.hid hk;have HB1:=Lib.hid hb;clear hk hb)|(go_at_call 34;refine (rnew2_ _ A2 n c2 xs HK1.out hnc2 hn HX.out).mono ?_;rintro e w2 ⟨A3,c3,rl,r2,rfl,hl3,hk3,hb3,hr⟩;have HK3:=Lib.hid hk3;have HB3:=Lib.hid hb3;have HR:=Lib.hid hr;clear hk3 hb3 hr))
 refine HK.out _ _ ?_
 clear HK K
 obtain ⟨W1,hW1⟩:∃ W1,W1=w2.alloc (.cells #[.slice A3 rl.length c3] 78):=⟨_,rfl⟩
 have HQ:=Lib.hid (show Blk W1 w2.heap.size 78 #[.slice A3 rl.length c3] from by rw [hW1];exact Blk.new _ _ _)
 have HW:=Lib.hid (show Below w2.heap.size w2 W1 from by rw [hW1];exact below_push (Nat.le_refl _) (Below.refl _ _) _)
 have HWB:=Lib.hid ((HB1.out.trans (HB3.out.mono HB1.out.size)).trans (HW.out.mono (Nat.le_trans HB1.out.size HB3.out.size)))
 have HK3':=Lib.hid (Kd.V_below HK3.out HW.out)
 have HLOW:=Lib.hid (show ∀ k,(w1.heap.size≤k∧k<w2.heap.size)→w.heap.size≤k∧k<W1.heap.size from fun k hk=>⟨Nat.le_trans HB1.out.size hk.1,Nat.lt_of_lt_of_le hk.2 HW.out.size⟩)
 have HCW:=Lib.hid (Kd.C_below HC.out HWB.out)
 obtain ⟨q,hq⟩:∃ q,q=w2.heap.size:=⟨_,rfl⟩
 rw [← hq] at HQ
 rw [← hW1,← hq]
 clear hW1 hq HW HB1 HB3 HK1 HK3
 refine wp_seq_k (fun K hK=>?_)
 have HK:=Lib.hid hK
 clear hK
 go_wp2_with (go_at_call 35;refine (lent_ _ A n c xs HCW.out hc hn (fun x hx=>(HX.out x hx).2)).mono ?_;rintro e w3 ⟨G,V,bs,rfl,hbs,hla,hfu,hb⟩;have HBS:=Lib.hid hbs;have HLA:=Lib.hid hla;have HFU:=Lib.hid hfu;have HB4:=Lib.hid hb;clear hbs hla hfu hb)
 refine HK.out _ _ ?_
 clear HK K
 have hn70:n≤n+70:=by omega
 refine wp_seq_k (fun K hK=>?_)
 have HK:=Lib.hid hK
 clear hK
 go_wp2
 refine HK.out _ _ ?_
 clear HK K
 by_cases hz:n=0
 ·skip
  have hz1:((n:Int) == 0)=true:=by rw [beq_iff_eq];omega
  have hz2:(n == 0)=true:=by rw [beq_iff_eq];exact hz
  have HZ:=Lib.hid hz
  clear hz
  refine wp_seq_k (fun K hK=>?_)
  have HK:=Lib.hid hK
  clear hK
  go_wp2
  refine HK.out _ _ ?_
  clear HK K
  refine wp_seq_k (fun K hK=>?_)
  have HK:=Lib.hid hK
  clear hK
  go_wp2_with (go_at_call 7;refine (new3_ _ none 0 0 xs (by have:=HLX.out;have hz:=HZ.out;exact ⟨by omega,by omega,fun h=>absurd h (by omega)⟩) (by omega) HX.out).mono ?_;rintro e w4 ⟨P0,c0,rfl,hb,hr⟩;have HB5:=Lib.hid hb;have HN:=Lib.hid hr;clear hb hr)
  refine HK.out _ _ ?_
  clear HK K
  have HBK:=Lib.hid (back_ W1 w4 G V A n c xs bs HCW.out hc (HB4.out.trans (HB5.out.mono HB4.out.size)) (HLA.out.below HB5.out) HBS.out (ownsRow_below HFU.out HB5.out) hn (fun x hx=>(HX.out x hx).2))
  refine wp_seq_k (fun K hK=>?_)
  have HK:=Lib.hid hK
  clear hK
  go_wp2_with (go_at_call 36;refine HBK.out.mono ?_;rintro e w5 ⟨rfl,hb,hf⟩;have HB6:=Lib.hid hb;have HFR:=Lib.hid hf;clear hb hf)
  refine HK.out _ _ ?_
  clear HK K
  have HB7:=Lib.hid ((HB4.out.trans (HB5.out.mono HB4.out.size)).trans HB6.out)
  have hq0:=(HQ.out.below HB7.out HQ.out.lt).cell 0
  simp only [List.getElem?_toArray,List.getElem?_cons_zero] at hq0
  have HK8:=Lib.hid (Kd.V_below HK3'.out HB7.out)
  rcases HN.out with ⟨rfl,hfine,s,rs,rfl,hA,hS⟩|⟨rfl,rfl,j,hj,hnf⟩
  ·rcases HR.out with ⟨rfl,hrl,hff⟩|⟨rfl,hrl,j,hj,hnf⟩
   ·have HS:=Lib.hid (hS.frame (fun g t cs h1 h2 hg=>HFR.out g t cs h1 (fun h5 b hb e=>by
     have h6:=h2 h5
     have h7:=(HLA.out.lows b hb).2
     omega) hg))
    have HAD:=Lib.hid (And.intro hA hrl)
    clear hA hS hrl hff hfine HN HR
    refine wp_seq_k (fun K hK=>?_)
    have HK:=Lib.hid hK
    clear hK
    have HS0:=Lib.hid (show (fun W:World=>W.cell? ⟨q,0,none⟩=some (.slice A3 rl.length c3)) w5.drew from hq0)
    go_region_held3 (fun W=>W.cell? ⟨q,0,none⟩=some (.slice A3 rl.length c3)) (first|exact HS0.out|assumption|exact Lib.cell?_alloc_some _ (by assumption)) (first|(go_at_call 37;refine (spindlelaw0_Num.calls _ _ _ rfl).mono ?_;rintro e w6 ⟨rfl,⟨nd,rfl⟩⟩))
    all_goals
     refine HK.out _ _ ?_
     clear HK K
     go_wp2
     go_ret2
     exact open_fin2 (P0:=some ⟨s,0,none⟩) w w5 A3 c3 rl xs (1+nd) hl3 HK8.out (fun k hk=>⟨(HLOW.out k hk).1,Nat.lt_of_lt_of_le (HLOW.out k hk).2 HB4.out.size⟩) (Nat.le_trans HWB.out.size HB4.out.size) (Nat.le_trans HB5.out.size HB6.out.size) (HWB.out.trans (HB7.out.mono HWB.out.size)) HX.out (.inl ⟨s,rs,rfl,HS.out,HAD.out.1,HAD.out.2⟩)
   ·exact absurd (hfine j hj) hnf
  ·rcases HR.out with ⟨rfl,hrl,hff⟩|⟨rfl,hrl,j,hj,hnf⟩
   ·exact absurd (hff j hj) hnf
   ·have HRL:=Lib.hid hrl
    clear hrl HN HR hnf hj
    refine wp_seq_k (fun K hK=>?_)
    have HK:=Lib.hid hK
    clear hK
    have HS0:=Lib.hid (show (fun W:World=>W.cell? ⟨q,0,none⟩=some (.slice A3 rl.length c3)) w5.drew from hq0)
    go_region_held3 (fun W=>W.cell? ⟨q,0,none⟩=some (.slice A3 rl.length c3)) (first|exact HS0.out|assumption|exact Lib.cell?_alloc_some _ (by assumption)) (first|(go_at_call 37;refine (spindlelaw0_Num.calls _ _ _ rfl).mono ?_;rintro e w6 ⟨rfl,⟨nd,rfl⟩⟩))
    all_goals
     refine HK.out _ _ ?_
     clear HK K
     go_wp2
     go_ret2
     exact open_fin2 (P0:=none) w w5 A3 c3 rl xs (1+nd) hl3 HK8.out (fun k hk=>⟨(HLOW.out k hk).1,Nat.lt_of_lt_of_le (HLOW.out k hk).2 HB4.out.size⟩) (Nat.le_trans HWB.out.size HB4.out.size) (Nat.le_trans HB5.out.size HB6.out.size) (HWB.out.trans (HB7.out.mono HWB.out.size)) HX.out (.inr ⟨rfl,HRL.out⟩)
 ·skip
  have hz1:((n:Int) == 0)=false:=by rw [beq_eq_false_iff_ne];omega
  have hz2:(n == 0)=false:=by rw [beq_eq_false_iff_ne];exact hz
  have hz3:¬ (n:Int)=0:=by omega
  refine wp_seq_k (fun K hK=>?_)
  have HK:=Lib.hid hK
  clear hK
  go_wp2
  refine HK.out _ _ ?_
  clear HK K
  refine wp_seq_k (fun K hK=>?_)
  have HK:=Lib.hid hK
  clear hK
  go_wp2_with (go_at_call 7;refine (new3_ _ (some ⟨G,0,none⟩) n (n+70) xs (by have h:=laid_C HLA.out (by rw [HBS.out,HLX.out]) (by rw [HLX.out];exact hn);rw [HLX.out] at h;exact h) hn HX.out).mono ?_;rintro e w4 ⟨P0,c0,rfl,hb,hr⟩;have HB5:=Lib.hid hb;have HN:=Lib.hid hr;clear hb hr)
  refine HK.out _ _ ?_
  clear HK K
  have HBK:=Lib.hid (back_ W1 w4 G V A n c xs bs HCW.out hc (HB4.out.trans (HB5.out.mono HB4.out.size)) (HLA.out.below HB5.out) HBS.out (ownsRow_below HFU.out HB5.out) hn (fun x hx=>(HX.out x hx).2))
  refine wp_seq_k (fun K hK=>?_)
  have HK:=Lib.hid hK
  clear hK
  go_wp2_with (go_at_call 36;refine HBK.out.mono ?_;rintro e w5 ⟨rfl,hb,hf⟩;have HB6:=Lib.hid hb;have HFR:=Lib.hid hf;clear hb hf)
  refine HK.out _ _ ?_
  clear HK K
  have HB7:=Lib.hid ((HB4.out.trans (HB5.out.mono HB4.out.size)).trans HB6.out)
  have hq0:=(HQ.out.below HB7.out HQ.out.lt).cell 0
  simp only [List.getElem?_toArray,List.getElem?_cons_zero] at hq0
  have HK8:=Lib.hid (Kd.V_below HK3'.out HB7.out)
  rcases HN.out with ⟨rfl,hfine,s,rs,rfl,hA,hS⟩|⟨rfl,rfl,j,hj,hnf⟩
  ·rcases HR.out with ⟨rfl,hrl,hff⟩|⟨rfl,hrl,j,hj,hnf⟩
   ·have HS:=Lib.hid (hS.frame (fun g t cs h1 h2 hg=>HFR.out g t cs h1 (fun h5 b hb e=>by
     have h6:=h2 h5
     have h7:=(HLA.out.lows b hb).2
     omega) hg))
    have HAD:=Lib.hid (And.intro hA hrl)
    clear hA hS hrl hff hfine HN HR
    refine wp_seq_k (fun K hK=>?_)
    have HK:=Lib.hid hK
    clear hK
    have HS0:=Lib.hid (show (fun W:World=>W.cell? ⟨q,0,none⟩=some (.slice A3 rl.length c3)) w5.drew from hq0)
    go_region_held3 (fun W=>W.cell? ⟨q,0,none⟩=some (.slice A3 rl.length c3)) (first|exact HS0.out|assumption|exact Lib.cell?_alloc_some _ (by assumption)) (first|(go_at_call 37;refine (spindlelaw0_Num.calls _ _ _ rfl).mono ?_;rintro e w6 ⟨rfl,⟨nd,rfl⟩⟩))
    all_goals
     refine HK.out _ _ ?_
     clear HK K
     go_wp2
     go_ret2
     exact open_fin2 (P0:=some ⟨s,0,none⟩) w w5 A3 c3 rl xs (1+nd) hl3 HK8.out (fun k hk=>⟨(HLOW.out k hk).1,Nat.lt_of_lt_of_le (HLOW.out k hk).2 HB4.out.size⟩) (Nat.le_trans HWB.out.size HB4.out.size) (Nat.le_trans HB5.out.size HB6.out.size) (HWB.out.trans (HB7.out.mono HWB.out.size)) HX.out (.inl ⟨s,rs,rfl,HS.out,HAD.out.1,HAD.out.2⟩)
   ·exact absurd (hfine j hj) hnf
  ·rcases HR.out with ⟨rfl,hrl,hff⟩|⟨rfl,hrl,j,hj,hnf⟩
   ·exact absurd (hff j hj) hnf
   ·have HRL:=Lib.hid hrl
    clear hrl HN HR hnf hj
    refine wp_seq_k (fun K hK=>?_)
    have HK:=Lib.hid hK
    clear hK
    have HS0:=Lib.hid (show (fun W:World=>W.cell? ⟨q,0,none⟩=some (.slice A3 rl.length c3)) w5.drew from hq0)
    go_region_held3 (fun W=>W.cell? ⟨q,0,none⟩=some (.slice A3 rl.length c3)) (first|exact HS0.out|assumption|exact Lib.cell?_alloc_some _ (by assumption)) (first|(go_at_call 37;refine (spindlelaw0_Num.calls _ _ _ rfl).mono ?_;rintro e w6 ⟨rfl,⟨nd,rfl⟩⟩))
    all_goals
     refine HK.out _ _ ?_
     clear HK K
     go_wp2
     go_ret2
     exact open_fin2 (P0:=none) w w5 A3 c3 rl xs (1+nd) hl3 HK8.out (fun k hk=>⟨(HLOW.out k hk).1,Nat.lt_of_lt_of_le (HLOW.out k hk).2 HB4.out.size⟩) (Nat.le_trans HWB.out.size HB4.out.size) (Nat.le_trans HB5.out.size HB6.out.size) (HWB.out.trans (HB7.out.mono HWB.out.size)) HX.out (.inr ⟨rfl,HRL.out⟩)
end Go.Proofs.Ythmeojeehemlaaa.Mem
end
end
