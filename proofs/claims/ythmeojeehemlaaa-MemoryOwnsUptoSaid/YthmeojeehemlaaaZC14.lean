/- Parts of the proof, laid together by a program of this session (pack.py): Ap1, Ap2, Ap3, Sh1, To1, To2. -/
import Derived.Test.YthmeojeehemlaaaZC13
set_option linter.unusedVariables false
set_option linter.unusedSimpArgs false
set_option maxRecDepth 100000
set_option maxHeartbeats 16000000
section
namespace Go.Proofs.Ythmeojeehemlaaa.Bk
open Go.RowKit Go.Proofs.YthmeojeehemlaaaW.PrintWords Go.Proofs.Ythmeojeehemlaaa.Mem Go.Proofs.Ythmeojeehemlaaa.Lnd Go.Proofs.Ythmeojeehemlaaa.PM
attribute [local go_sem] isSome_setCell
def ea (j k:Nat):Int:=(2*(13*(j:Int)+7*(k:Int))) % 256
def oa (j k:Nat):Int:=(2*(13*(j:Int)+7*(k:Int))+1) % 256
def ev (n j:Nat):List Int:=(List.range n).map fun (k:Nat)=>ea j k
def od (n j:Nat):List Int:=(List.range n).map fun (k:Nat)=>oa j k
theorem ev_length (n j:Nat):(ev n j).length=n:=by simp [ev]
theorem od_length (n j:Nat):(od n j).length=n:=by simp [od]
theorem ev_at (n j k:Nat) (h:k<n):(ev n j)[k]?=some (ea j k):=by simp [ev,h]
theorem od_at (n j k:Nat) (h:k<n):(od n j)[k]?=some (oa j k):=by simp [od,h]
theorem od_succ (n j:Nat):od (n+1) j=od n j ++ [oa j n]:=by simp [od,List.range_succ]
structure Lists (w:World) (ls:List Value):Prop where
 row:∀ (j:Nat) (u:Value),ls[j]?=some u→∃ xs,Row w 5 u (bs xs)∧xs.length≤1048576
 apart:∀ (i j:Nat) (u x:Value) (g:Nat),ls[i]?=some u→ls[j]?=some x→i≠j→u.ownBlock=some g→x.ownBlock≠some g
structure Fa (w wr:World) (ls:List Value) (k:Nat):Prop where
 ch:Ch w wr (Fb ls 0)
 all:∀ (j:Nat) (u:Value),ls[j]?=some u→(∃ xs,Row wr 5 u (bs xs)∧xs.length≤1048576)∧(j<k→Row wr 5 u (bs (ev (sl u) j)))
theorem Fa.next {w w1 w2:World} {ls:List Value} {k:Nat} {u:Value} (h:Fa w w1 ls k) (hu:ls[k]?=some u) (hc:Ch w1 w2 (fun g=>u.ownBlock=some g)) (hr:Row w2 5 u (bs (ev (sl u) k))) (hl:sl u≤1048576)
  (hap:∀ (i j:Nat) (u x:Value) (g:Nat),ls[i]?=some u→ls[j]?=some x→i≠j→u.ownBlock=some g→x.ownBlock≠some g):Fa w w2 ls (k+1):=by
 refine ⟨h.ch.trans hc fun g hg=>.inl ⟨k,u,Nat.zero_le _,hu,hg⟩,fun j x hx=>?_⟩
 by_cases hjk:j=k
 ·subst hjk
  rw [hu] at hx
  obtain rfl:=Option.some.inj hx
  exact ⟨⟨_,hr,by rw [ev_length];exact hl⟩,fun _=>hr⟩
 ·have far:∀ g,x.ownBlock=some g→¬ u.ownBlock=some g:=fun g hg e=>hap k j u x g hu hx (fun e=>hjk e.symm) e hg
  obtain ⟨⟨xs,h1,hl1⟩,h2⟩:=h.all j x hx
  exact ⟨⟨xs,h1.ch hc far,hl1⟩,fun hj=>(h2 (by omega)).ch hc far⟩
structure Ga (w wr:World) (ls:List Value) (V:Value) (gs:List Value) (k:Nat):Prop where
 ch:Ch w wr (Fb ls 0)
 len:gs.length=k
 row:Row wr 37 V gs
 new:∀ g,V.ownBlock=some g→w.heap.size≤g
 old:∀ (j:Nat) (u:Value),ls[j]?=some u→Row wr 5 u (bs (ev (sl u) j))∧sl u≤1048576
 gr:∀ (j:Nat) (u x:Value),ls[j]?=some u→gs[j]?=some x→Row wr 5 x (bs (ev (sl u) j ++ od 70 j))∧∀ g,x.ownBlock=some g→u.ownBlock=some g∨w.heap.size≤g
structure Gi (w wr:World) (u x:Value) (j q:Nat):Prop where
 ch:Ch w wr (fun g=>u.ownBlock=some g)
 old:Row wr 5 u (bs (ev (sl u) j))
 row:Row wr 5 x (bs (ev (sl u) j ++ od q j))
 own:∀ g,x.ownBlock=some g→u.ownBlock=some g∨w.heap.size≤g
theorem Gi.app {w wr w2:World} {u x v':Value} {j q:Nat} {o:Obj} (h:Gi w wr u x j q) (hA:App (wr.alloc o) w2 0 5 x v' (bs (ev (sl u) j ++ od q j)) [.int .u8 (oa j q)]):Gi w w2 u v' j (q+1):=by
 have e:bs (ev (sl u) j ++ od q j) ++ [.int .u8 (oa j q)]=bs (ev (sl u) j ++ od (q+1) j):=by rw [od_succ,← List.append_assoc,bs_append (ev (sl u) j ++ od q j)];rfl
 have ha:Ch wr (wr.alloc o) Never:=(Ch.refl wr Never).alloc o
 refine ⟨(h.ch.alloc o).trans hA.ch fun g hg=>h.own g hg,?_,?_,fun g hg=>?_⟩
 ·refine hA.keep 0 u _ _ (h.old.ch ha fun _ _ h=>h) (.inr ?_)
  rw [e,bs_append]
  exact List.prefix_append _ _
 ·have:=hA.row'
  rw [e] at this
  exact this
 ·rcases hA.where_ with e|⟨k,hk,e⟩
  ·exact h.own g (e ▸ hg)
  ·right
   rw [e] at hg
   obtain rfl:=Option.some.inj hg
   exact Nat.le_trans h.ch.size (Nat.le_trans ha.size hk)
theorem Ga.next {w wr w2 w3:World} {ls gs:List Value} {V V' u x:Value} {k:Nat} {o:Obj} (h:Ga w wr ls V gs k) (hl:Lists w ls) (hu:ls[k]?=some u) (hi:Gi wr w2 u x k 70) (hA:App (w2.alloc o) w3 0 37 V V' gs [x]):Ga w w3 ls V' (gs ++ [x]) (k+1):=by
 have ha:Ch w2 (w2.alloc o) Never:=(Ch.refl w2 Never).alloc o
 have far:∀ (j:Nat) (y:Value),ls[j]?=some y→j≠k→∀ g,y.ownBlock=some g→¬ u.ownBlock=some g:=fun j y hy hjk g hg e=>hl.apart k j u y g hu hy (fun e=>hjk e.symm) e hg
 have hul:∀ g,u.ownBlock=some g→g<w.heap.size:=fun g hg=>by
  obtain ⟨xs,hr,_⟩:=hl.row k u hu
  exact hr.lt g hg
 have mv:∀ (y:Value) (ys:List Int),Row w2 5 y (bs ys)→Row w3 5 y (bs ys):=fun y ys hr=>(hr.ch ha fun _ _ h=>h).ch hA.ch fun g hg e=>hr.other (h.row.ch hi.ch fun g hg e=>(hi.old.other (h.row.ch hi.ch fun g hg e=>by have:=hul g e;have:=h.new g hg;omega) (by decide) e hg)) (by decide) hg e
 have hs:=h.ch.size
 refine ⟨((h.ch.trans hi.ch fun g hg=>.inl ⟨k,u,Nat.zero_le _,hu,hg⟩).alloc o).trans hA.ch fun g hg=>.inr (h.new g hg),by simp [h.len],hA.row',fun g hg=>?_,fun j y hy=>?_,fun j y z hy hz=>?_⟩
 ·rcases hA.where_ with e|⟨q,hq,e⟩
  ·exact h.new g (e ▸ hg)
  ·rw [e] at hg
   obtain rfl:=Option.some.inj hg
   exact Nat.le_trans hs (Nat.le_trans hi.ch.size (Nat.le_trans ha.size hq))
 ·by_cases hjk:j=k
  ·subst hjk
   rw [hu] at hy
   obtain rfl:=Option.some.inj hy
   exact ⟨mv _ _ hi.old,(h.old j u hu).2⟩
  ·exact ⟨mv _ _ ((h.old j y hy).1.ch hi.ch (far j y hy hjk)),(h.old j y hy).2⟩
 ·rcases snoc_at hz with ⟨hz1,hj⟩|⟨hj,rfl⟩
  ·have hjk:j≠k:=by rw [h.len] at hj;omega
   obtain ⟨h1,h2⟩:=h.gr j y z hy hz1
   refine ⟨mv _ _ (h1.ch hi.ch fun g hg e=>?_),h2⟩
   rcases h2 g hg with e2|e2
   ·exact far j y hy hjk g e2 e
   ·have:=hul g e;omega
  ·rw [h.len] at hj
   subst hj
   rw [hu] at hy
   obtain rfl:=Option.some.inj hy
   exact ⟨mv _ _ hi.row,fun g hg=>(hi.own g hg).imp id fun h2=>Nat.le_trans hs h2⟩
end Go.Proofs.Ythmeojeehemlaaa.Bk
end
section
namespace Go.Proofs.Ythmeojeehemlaaa.Bk
open Go.RowKit Go.Proofs.YthmeojeehemlaaaW.PrintWords Go.Proofs.Ythmeojeehemlaaa.Mem Go.Proofs.Ythmeojeehemlaaa.Lnd Go.Proofs.Ythmeojeehemlaaa.PM
attribute [local go_sem] isSome_setCell
theorem Row.byte {w:World} {v:Value} {xs:List Int} (h:Row w 5 v (bs xs)) {k:Nat} {x:Int} (hx:xs[k]?=some x):∃ g cap,v=.slice (some ⟨g,0,none⟩) xs.length cap∧xs.length≤cap∧w.cell? ⟨g,k,none⟩=some (.int .u8 x)∧w.frozen? ⟨g,k,none⟩=false:=by
 have hk:k<xs.length:=(List.getElem?_eq_some_iff.1 hx).1
 obtain ⟨g,cap,hv,hl,_,hc⟩:=h.at (by rw [bs_length];omega)
 obtain ⟨h1,h2⟩:=hc k (by rw [bs_length];exact hk)
 rw [bs_length] at hv hl
 refine ⟨g,cap,hv,hl,?_,h2⟩
 rw [h1]
 have:xs[k]=x:=(List.getElem?_eq_some_iff.1 hx).2
 simp [bs,this]
theorem Row.list {w:World} {v:Value} {ls:List Value} (h:Row w 37 v ls) {j:Nat} {u:Value} (hu:ls[j]?=some u):∃ g cap,v=.slice (some ⟨g,0,none⟩) ls.length cap∧ls.length≤cap∧w.cell? ⟨g,j,none⟩=some u:=by
 have hk:j<ls.length:=(List.getElem?_eq_some_iff.1 hu).1
 obtain ⟨g,cap,hv,hl,_,hc⟩:=h.at (by omega)
 refine ⟨g,cap,hv,hl,?_⟩
 rw [(hc j hk).1,(List.getElem?_eq_some_iff.1 hu).2]
theorem V3 (w w1:World) (A B:Option Addr) (n c cB:Nat) (ls gs:List Value) (hls:ls.length=n) (hn:n≤1048576) (hrow:Row w1 37 (.slice A n c) ls) (h:Ga w w1 ls (.slice B n cB) gs n) {y1 y2 y3 y4 y6 y7 y8 y9 y10 y11 y12 y13 y14 y15 y16 y17 y18 y19 y20 y21 y22 y23 y24 y25 y26 y27 y28 y29 y30 y31 y32 y33 y34 y35 y36 y37 y38 y39 y40 y41 y42 y43 y44 y45 y46 y47 y48 y49 y50 y51 y52 y53 y54 y55 y56 y57 y58 y59 y60 y61 y62 y63 y64 y65 y66 y67 y68 y69 y70 y71 y72 y73 y74 y75 y76 y77 y78 y79 y80 y81 y82 y83 y84 y85 y86 y87 y88 y89 y90 y91 y92 y93 y94 y95 y96 y97 y98 y99 y100 y101 y102 y103 y104 y105 y106 y107 y108 y109 y110 y111 y112 y113 y114 y115 y116 y117 y118 y119 y120 y121 y122 y123 y124 y125 y126 y127 y128 y129 y130 y131 y132 y133 y134 y135 y136 y137 y138 y139 y140 y141 y142 y143 y144 y145 y146 y147 y148:Value} :
  Code.wp Try.prog (postC 4 (Try.f56.body.getD .skip)) (bodyPost Try.prog Try.f56 (fun e w'=>e=.returned (.bool true)∧Ch w w' (Fb ls 0))) { tmps:=#[(.slice A n c),y1,y2,y3,y4,(.slice B n cB),y6,y7,y8,y9,y10,y11,y12,y13,y14,y15,y16,y17,y18,y19,y20,y21,y22,y23,y24,y25,y26,y27,y28,y29,y30,y31,y32,y33,y34,y35,y36,y37,y38,y39,y40,y41,y42,y43,y44,y45,y46,y47,y48,y49,y50,y51,y52,y53,y54,y55,y56,y57,y58,y59,y60,y61,y62,y63,y64,y65,y66,y67,y68,y69,y70,y71,y72,y73,y74,y75,y76,y77,y78,y79,y80,y81,y82,y83,y84,y85,y86,y87,y88,y89,y90,y91,y92,y93,y94,y95,y96,y97,y98,y99,y100,y101,y102,y103,y104,y105,y106,y107,y108,y109,y110,y111,y112,y113,y114,y115,y116,y117,y118,y119,y120,y121,y122,y123,y124,y125,y126,y127,y128,y129,y130,y131,y132,y133,y134,y135,y136,y137,y138,y139,y140,y141,y142,y143,y144,y145,y146,y147,y148],defers:=[] } w1:=by
 have HROW:=Lib.hid hrow
 have HG:=Lib.hid h
 have HLS:=Lib.hid hls
 have HGL:=Lib.hid h.len
 clear hrow h hls
 unfold Try.f56
 dsimp only [Option.getD,postC]
 refine wp_seq_k (fun K1 hK=>?_)
 have HK1:=Lib.hid hK
 clear hK
 go_wp2
 go_loopw [9] (fun i wr=>∃ (k:Nat),k≤n∧i=.int .i64 (k:Int)∧Hid (Ch w1 wr Never)) (fun i _=>n - (RowKit.intOf i).toNat)
 case atStart=>exact ⟨0,Nat.zero_le _,rfl,Lib.hid (Ch.refl _ _)⟩
 case round =>
  obtain ⟨i,hi,rfl,hC⟩:=hrel
  by_cases hlt:i<n
  ·have hl0:i<ls.length:=by rw [HLS.out];exact hlt
   have hg0:i<gs.length:=by rw [HGL.out];exact hlt
   obtain ⟨u,hu⟩:∃ x,x=ls[i]'hl0:=⟨_,rfl⟩
   obtain ⟨x,hx⟩:∃ x,x=gs[i]'hg0:=⟨_,rfl⟩
   have HU:=Lib.hid (show ls[i]?=some u from by rw [hu];exact List.getElem?_eq_getElem hl0)
   have HX:=Lib.hid (show gs[i]?=some x from by rw [hx];exact List.getElem?_eq_getElem hg0)
   obtain ⟨nu,hnu⟩:∃ z,z=sl u:=⟨_,rfl⟩
   obtain ⟨ru,hru⟩:=HG.out.old i u HU.out
   obtain ⟨rx,_⟩:=HG.out.gr i u x HU.out HX.out
   rw [← hnu] at ru hru rx
   obtain ⟨Au,cu,hvu,hcu⟩:=ru.form
   obtain ⟨Ax,cx,hvx,hcx⟩:=rx.form
   rw [bs_length,ev_length] at hvu hcu
   rw [bs_length,List.length_append,ev_length,od_length] at hvx hcx
   subst hvu
   subst hvx
   have HRU:=Lib.hid ru
   have HRX:=Lib.hid rx
   obtain ⟨ga,ca,hva,hca,a0w⟩:=HROW.out.list HU.out
   obtain ⟨gb,cb,hvb,hcb,b0w⟩:=HG.out.row.list HX.out
   have a0:=hC.out.cell a0w (fun h=>h)
   have b0:=hC.out.cell b0w (fun h=>h)
   have HA0:=Lib.hid a0w
   have HB0:=Lib.hid b0w
   clear a0w b0w
   injection hva with q1 q2 q3
   subst q1;subst q3
   injection hvb with q1 q4 q3
   subst q1;subst q3
   rw [HLS.out] at hca
   rw [HGL.out] at hcb
   clear ru rx hnu hu hx q2 q4 hl0 hg0
   go_wp2
   go_loopw [10] (fun i' wr=>∃ (k:Nat),k≤nu+70∧i'=.int .i64 (k:Int)∧Hid (Ch w1 wr Never)) (fun i' _=>nu+70 - (RowKit.intOf i').toNat)
   case atStart=>exact ⟨0,Nat.zero_le _,rfl,hC⟩
   case round =>
    obtain ⟨k,hk,rfl,hC'⟩:=hrel
    clear a0 b0
    have a0:=hC'.out.cell HA0.out (fun h=>h)
    have b0:=hC'.out.cell HB0.out (fun h=>h)
    by_cases hk2:k<nu+70
    ·by_cases hkn:k<nu
     ·obtain ⟨gu,cu',hv1,hl1,d0,_⟩:=HRU.out.byte (ev_at nu i k hkn)
      obtain ⟨gx,cx',hv2,hl2,d1,_⟩:=HRX.out.byte (k:=k) (x:=ea i k) (by rw [List.getElem?_append_left (by rw [ev_length];exact hkn)];exact ev_at nu i k hkn)
      injection hv1 with r1 r2 r3
      injection hv2 with r4 r5 r6
      subst r1;subst r3;subst r4;subst r6
      have d0:=hC'.out.cell d0 (fun h=>h)
      have d1:=hC'.out.cell d1 (fun h=>h)
      clear hl1 hl2 r2 r5
      have hkc:k≤1048576+70:=by omega
      refine wp_seq_k (fun Kc hK=>?_)
      have HKc:=Lib.hid hK
      clear hK
      go_wp2
      refine HKc.out _ _ ?_
      clear HKc
      refine wp_seq_k (fun Kb hK=>?_)
      have HKb:=Lib.hid hK
      clear hK
      refine wp_block ?_
      refine wp_seq_k (fun K24 hK=>?_)
      have HK24:=Lib.hid hK
      clear hK
      go_wp2
      refine HK24.out _ _ ?_
      clear HK24
      have hlk:k<nu+70:=hk2
      obtain ⟨dd,hdd⟩:∃ d:Int,d=(k:Int) - (nu:Int):=⟨_,rfl⟩
      rw [← hdd]
      have n1:dd<0:=by omega
      have n2:¬ 0≤dd:=by omega
      have n3:decide (dd<0)=true:=decide_eq_true n1
      have n4:decide (dd≥0)=false:=decide_eq_false n2
      have he:IntKind.i64.wrap (13*(i:Int))=13*i∧IntKind.i64.wrap (7*(k:Int))=7*k∧IntKind.i64.wrap (13*(i:Int)+7*(k:Int))=13*i+7*k∧IntKind.i64.wrap (2*(13*(i:Int)+7*(k:Int)))=2*(13*i+7*k)∧IntKind.u8.wrap (2*(13*(i:Int)+7*(k:Int)))=ea i k:=
       ⟨Go.IntWalk.i64_in _ (by omega),Go.IntWalk.i64_in _ (by omega),Go.IntWalk.i64_in _ (by omega),Go.IntWalk.i64_in _ (by omega),by rw [IntKind.wrap_u8];rfl⟩
      obtain ⟨e1,e2,e3,e4,e5⟩:=he
      have HDD:=Lib.hid hdd
      clear hdd
      refine wp_seq_k (fun K25 hK=>?_)
      have HK25:=Lib.hid hK
      clear hK
      go_quiet (fail)
      clear e1 e2 e3 e4 e5
      refine HK25.out _ _ ?_
      clear HK25
      go_wp2
      refine HKb.out _ _ ?_
      clear HKb
      go_wp2
      go_roundw
      case rel=>exact ⟨k+1,by omega,by go_num,Lib.hid (hC'.out.drewN nq)⟩
      case measure=>simp [RowKit.intOf];omega
     ·obtain ⟨j,hj⟩:∃ j:Nat,k=nu+j:=⟨k - nu,by omega⟩
      obtain ⟨gx,cx',hv2,hl2,d1,_⟩:=HRX.out.byte (k:=k) (x:=oa i j) (by rw [List.getElem?_append_right (by rw [ev_length];omega),ev_length,show k - nu=j from by omega];exact od_at 70 i j (by omega))
      injection hv2 with r4 r5 r6
      subst r4;subst r6
      have d1:=hC'.out.cell d1 (fun h=>h)
      clear hl2 r5
      have hkc:k≤1048576+70:=by omega
      have hj70:j<70:=by omega
      have HJ:=Lib.hid hj
      clear hj
      refine wp_seq_k (fun Kc hK=>?_)
      have HKc:=Lib.hid hK
      clear hK
      go_wp2
      refine HKc.out _ _ ?_
      clear HKc
      refine wp_seq_k (fun Kb hK=>?_)
      have HKb:=Lib.hid hK
      clear hK
      refine wp_block ?_
      refine wp_seq_k (fun K24 hK=>?_)
      have HK24:=Lib.hid hK
      clear hK
      go_wp2
      refine HK24.out _ _ ?_
      clear HK24
      have n0:(k:Int) - (nu:Int)=(j:Int):=by have:=HJ.out;omega
      rw [n0]
      have n1:¬ ((j:Int)<0):=by omega
      have n2:(0:Int)≤(j:Int):=by omega
      have n3:decide ((j:Int)<0)=false:=decide_eq_false n1
      have n4:decide ((j:Int)≥0)=true:=decide_eq_true n2
      have he:IntKind.i64.wrap (13*(i:Int))=13*i∧IntKind.i64.wrap (7*(j:Int))=7*j∧IntKind.i64.wrap (13*(i:Int)+7*(j:Int))=13*i+7*j∧IntKind.i64.wrap (2*(13*(i:Int)+7*(j:Int)))=2*(13*i+7*j)∧IntKind.i64.wrap (2*(13*(i:Int)+7*(j:Int))+1)=2*(13*i+7*j)+1∧IntKind.u8.wrap (2*(13*(i:Int)+7*(j:Int))+1)=oa i j:=
       ⟨Go.IntWalk.i64_in _ (by omega),Go.IntWalk.i64_in _ (by omega),Go.IntWalk.i64_in _ (by omega),Go.IntWalk.i64_in _ (by omega),Go.IntWalk.i64_in _ (by omega),by rw [IntKind.wrap_u8];rfl⟩
      obtain ⟨e1,e2,e3,e4,e5,e6⟩:=he
      clear n0
      refine wp_seq_k (fun K25 hK=>?_)
      have HK25:=Lib.hid hK
      clear hK
      go_quiet (fail)
      clear e1 e2 e3 e4 e5 e6
      refine HK25.out _ _ ?_
      clear HK25
      go_wp2
      refine HKb.out _ _ ?_
      clear HKb
      go_wp2
      go_roundw
      case rel=>exact ⟨k+1,by omega,by go_num,Lib.hid (hC'.out.drewN nq)⟩
      case measure=>simp [RowKit.intOf];omega
    ·obtain rfl:k=nu+70:=by omega
     go_wp2
     go_roundw
     case rel=>exact ⟨i+1,by omega,by go_num,hC'⟩
     case measure=>simp [RowKit.intOf];omega
  ·obtain rfl:i=n:=by omega
   go_wp2
   refine HK1.out _ _ ?_
   go_wp2
   go_ret
   exact ⟨rfl,HG.out.ch.trans hC.out fun _ h=>h.elim⟩
end Go.Proofs.Ythmeojeehemlaaa.Bk
end
section
namespace Go.Proofs.Ythmeojeehemlaaa.Bk
open Go.RowKit Go.Proofs.YthmeojeehemlaaaW.PrintWords Go.Proofs.Ythmeojeehemlaaa.Mem Go.Proofs.Ythmeojeehemlaaa.Lnd Go.Proofs.Ythmeojeehemlaaa.PM
attribute [local go_sem] isSome_setCell
theorem V2 (w w0:World) (A:Option Addr) (n c:Nat) (ls:List Value) (hls:ls.length=n) (hn:n≤1048576) (hL:Lists w ls) (hrow:Row w 37 (.slice A n c) ls) (h:Fa w w0 ls n) {y1 y2 y3 y4 y5 y6 y7 y8 y9 y10 y11 y12 y13 y14 y15 y16 y17 y18 y19 y20 y21 y22 y23 y24 y25 y26 y27 y28 y29 y30 y31 y32 y33 y34 y35 y36 y37 y38 y39 y40 y41 y42 y43 y44 y45 y46 y47 y48 y49 y50 y51 y52 y53 y54 y55 y56 y57 y58 y59 y60 y61 y62 y63 y64 y65 y66 y67 y68 y69 y70 y71 y72 y73 y74 y75 y76 y77 y78 y79 y80 y81 y82 y83 y84 y85 y86 y87 y88 y89 y90 y91 y92 y93 y94 y95 y96 y97 y98 y99 y100 y101 y102 y103 y104 y105 y106 y107 y108 y109 y110 y111 y112 y113 y114 y115 y116 y117 y118 y119 y120 y121 y122 y123 y124 y125 y126 y127 y128 y129 y130 y131 y132 y133 y134 y135 y136 y137 y138 y139 y140 y141 y142 y143 y144 y145 y146 y147 y148:Value} :
  Code.wp Try.prog (postC 2 (Try.f56.body.getD .skip)) (bodyPost Try.prog Try.f56 (fun e w'=>e=.returned (.bool true)∧Ch w w' (Fb ls 0))) { tmps:=#[(.slice A n c),y1,y2,y3,y4,y5,y6,y7,y8,y9,y10,y11,y12,y13,y14,y15,y16,y17,y18,y19,y20,y21,y22,y23,y24,y25,y26,y27,y28,y29,y30,y31,y32,y33,y34,y35,y36,y37,y38,y39,y40,y41,y42,y43,y44,y45,y46,y47,y48,y49,y50,y51,y52,y53,y54,y55,y56,y57,y58,y59,y60,y61,y62,y63,y64,y65,y66,y67,y68,y69,y70,y71,y72,y73,y74,y75,y76,y77,y78,y79,y80,y81,y82,y83,y84,y85,y86,y87,y88,y89,y90,y91,y92,y93,y94,y95,y96,y97,y98,y99,y100,y101,y102,y103,y104,y105,y106,y107,y108,y109,y110,y111,y112,y113,y114,y115,y116,y117,y118,y119,y120,y121,y122,y123,y124,y125,y126,y127,y128,y129,y130,y131,y132,y133,y134,y135,y136,y137,y138,y139,y140,y141,y142,y143,y144,y145,y146,y147,y148],defers:=[] } w0:=by
 obtain ⟨i,hi,hz0,hz1,hz2⟩:=info30
 obtain ⟨i5,hj5,hy0,hy1,hy2⟩:=info5
 have hfar:∀ g,(Value.slice A n c).ownBlock=some g→¬ Fb ls 0 g:=fun g hg ⟨j,u,_,hu,hgu⟩=>by
  obtain ⟨xs,hr,_⟩:=hL.row j u hu
  exact hr.other hrow (by decide) hgu hg
 have hold:∀ (j:Nat) (u:Value),ls[j]?=some u→Row w0 5 u (bs (ev (sl u) j))∧sl u≤1048576:=fun j u hu=>by
  have h1:=(h.all j u hu).2 (by rw [← hls];exact (List.getElem?_eq_some_iff.1 hu).1)
  obtain ⟨xs,hr,hx⟩:=hL.row j u hu
  obtain ⟨A',c',hv,_⟩:=hr.form
  refine ⟨h1,?_⟩
  rw [hv]
  show (bs xs).length≤_
  rw [bs_length];exact hx
 have HG0:=Lib.hid (show Ga w w0 ls (.slice none 0 0) [] 0 from ⟨h.ch,rfl,Row.nil _ _,fun g hg=>by simp [Value.ownBlock] at hg,hold,fun j u x hu hx=>by simp at hx⟩)
 have HL:=Lib.hid hL
 have HROW:=Lib.hid hrow
 have HFAR:=Lib.hid hfar
 have HLS:=Lib.hid hls
 clear hrow h hls hL hfar hold
 unfold Try.f56
 dsimp only [Option.getD,postC]
 refine wp_seq_k (fun K0 hK=>?_)
 have HK0:=Lib.hid hK
 clear hK
 go_wp2
 refine HK0.out _ _ ?_
 clear HK0
 refine wp_seq_k (fun K1 hK=>?_)
 have HK1:=Lib.hid hK
 clear hK
 go_wp2
 go_loopw [5,6] (fun V i wr=>∃ (k cV:Nat) (B:Option Addr) (gs:List Value),k≤n∧i=.int .i64 (k:Int)∧V=.slice B k cV∧Hid (Ga w wr ls V gs k)) (fun _ i _=>n - (RowKit.intOf i).toNat)
 case atStart=>exact ⟨0,0,none,[],Nat.zero_le _,rfl,rfl,HG0⟩
 case round =>
  obtain ⟨k,cV,B,gs,hk,rfl,rfl,hG⟩:=hrel
  by_cases hlt:k<n
  ·have hl0:k<ls.length:=by rw [HLS.out];exact hlt
   obtain ⟨u,hu⟩:∃ x,x=ls[k]'hl0:=⟨_,rfl⟩
   have HU:=Lib.hid (show ls[k]?=some u from by rw [hu];exact List.getElem?_eq_getElem hl0)
   obtain ⟨ru,hru⟩:=hG.out.old k u HU.out
   obtain ⟨nu,hnu⟩:∃ z,z=sl u:=⟨_,rfl⟩
   obtain ⟨Au,cu,hvu,hcu⟩:=ru.form
   rw [bs_length,ev_length,← hnu] at hvu
   rw [← hnu] at hru
   have HI0:=Lib.hid (show Gi wr wr u u k 0 from ⟨Ch.refl _ _,ru,by rw [show od 0 k=[] from rfl,List.append_nil];exact ru,fun g hg=>.inl hg⟩)
   obtain ⟨ga,ca,hva,hca,a0⟩:=(HROW.out.ch hG.out.ch HFAR.out).list HU.out
   injection hva with q1 q2 q3
   subst q1;subst q3
   rw [HLS.out] at hca
   subst hvu
   have HFV:=Lib.hid (show ∀ g,(Value.slice B k cV).ownBlock=some g→¬ (Value.slice Au nu cu).ownBlock=some g from fun g hg e=>ru.other hG.out.row (by decide) e hg)
   clear ru hcu hu hnu q2 hl0
   refine wp_seq_k (fun Kc hK=>?_)
   have HKc:=Lib.hid hK
   clear hK
   go_wp2
   refine HKc.out _ _ ?_
   clear HKc
   refine wp_seq_k (fun Kb hK=>?_)
   have HKb:=Lib.hid hK
   clear hK
   refine wp_block ?_
   refine wp_seq_k (fun K12 hK=>?_)
   have HK12:=Lib.hid hK
   clear hK
   go_wp2
   refine HK12.out _ _ ?_
   clear HK12 a0
   refine wp_seq_k (fun K13 hK=>?_)
   have HK13:=Lib.hid hK
   clear hK
   go_wp2
   go_loopw [7,8] (fun x i w'=>∃ (q cx:Nat) (X:Option Addr),q≤70∧i=.int .i64 (q:Int)∧x=.slice X (nu+q) cx∧Hid (Gi wr w' (.slice Au nu cu) x k q)) (fun _ i _=>70 - (RowKit.intOf i).toNat)
   case atStart=>exact ⟨0,cu,Au,by decide,rfl,rfl,HI0⟩
   case round =>
    obtain ⟨q,cx,X,hq,rfl,rfl,hI⟩:=hrel
    by_cases hq2:q<70
    ·go_wp2_with (at_builtin;refine wpList_app _ rfl _ _ 37 rfl 0 5 i5 (.int .u8 0) 1 Try.underlying37 hj5 hy0 hy1 hy2 rfl (.slice X (nu+q) cx) (bs (ev nu k ++ od q k)) rfl ?q1 ⟨wr.heap.size,0,none⟩ 1 1 [.int .u8 (oa k q)] rfl rfl (by decide) ?q2 ?q3 ?q4 ?q5 ?q6 ?_)
     case q1=>exact hI.out.row.alloc _
     case q2=>exact new_at wr [.int .u8 (oa k q)] 5
     case q3=>intro u hu;rw [List.mem_singleton.1 hu];rfl
     case q4=>rw [bs_length,List.length_append,ev_length,od_length];unfold maxLen;omega
     case q5=>rw [bs_length,List.length_append,ev_length,od_length];omega
     case q6=>exact Nat.zero_le _
     intro v' w2 hA
     obtain ⟨X2,c2,hv2,_⟩:=hA.row'.form
     have hlen:(bs (ev nu k ++ od q k) ++ [Value.int .u8 (oa k q)]).length=nu+(q+1):=by rw [List.length_append,bs_length,List.length_append,ev_length,od_length];rfl
     rw [hlen] at hv2
     subst hv2
     have HNX:=Lib.hid (hI.out.app hA)
     clear hA hlen
     go_wp2
     go_roundw
     case rel=>exact ⟨q+1,c2,X2,by omega,by go_num,rfl,HNX⟩
     case measure=>simp [RowKit.intOf];omega
    ·obtain rfl:q=70:=by omega
     go_wp2
     refine HK13.out _ _ ?_
     go_wp2_with (at_builtin;refine wpList_app _ rfl _ _ 52 rfl 0 37 i (.slice none 0 0) 24 Try.underlying52 hi hz0 hz1 hz2 rfl (.slice B k cV) gs rfl ?s1 ⟨wr.heap.size,0,none⟩ 1 1 [.slice X (nu+70) cx] rfl rfl (by decide) ?s2 ?s3 ?s4 ?s5 ?s6 ?_)
     case s1=>exact (hG.out.row.ch hI.out.ch (HFV.out)).alloc _
     case s2=>exact one_new _ _ _
     case s3=>intro u hu;rw [List.mem_singleton.1 hu];rfl
     case s4=>rw [hG.out.len];unfold maxLen;omega
     case s5=>rw [hG.out.len];omega
     case s6=>exact Nat.zero_le _
     intro v' w3 hA
     obtain ⟨B2,c2,hv2,_⟩:=hA.row'.form
     have hlen:(gs ++ [Value.slice X (nu+70) cx]).length=k+1:=by rw [List.length_append,hG.out.len];rfl
     rw [hlen] at hv2
     subst hv2
     have HNX:=Lib.hid (hG.out.next HL.out HU.out hI.out hA)
     clear hA hlen
     go_wp2
     refine HKb.out _ _ ?_
     go_wp2
     go_roundw
     case rel=>exact ⟨k+1,c2,B2,_,by omega,by go_num,rfl,HNX⟩
     case measure=>simp [RowKit.intOf];omega
  ·obtain rfl:k=n:=by omega
   go_wp2
   refine HK1.out _ _ ?_
   exact V3 w _ A B k c cV ls gs HLS.out hn (HROW.out.ch hG.out.ch HFAR.out) hG.out
theorem apart_ (w:World) (A:Option Addr) (n c:Nat) (ls:List Value) (hls:ls.length=n) (hn:n≤1048576) (hL:Lists w ls) (hrow:Row w 37 (.slice A n c) ls) :
  Calls Try.prog 56 #[.slice A n c] w fun e w'=>e=.returned (.bool true)∧Ch w w' (Fb ls 0):=by
 have hfar:∀ g,(Value.slice A n c).ownBlock=some g→¬ Fb ls 0 g:=fun g hg ⟨j,u,_,hu,hgu⟩=>by
  obtain ⟨xs,hr,_⟩:=hL.row j u hu
  exact hr.other hrow (by decide) hgu hg
 have HF0:=Lib.hid (show Fa w w ls 0 from ⟨Ch.refl _ _,fun j u hu=>⟨hL.row j u hu,fun h=>absurd h (Nat.not_lt_zero _)⟩⟩)
 have HL:=Lib.hid hL
 have HROW:=Lib.hid hrow
 have HFAR:=Lib.hid hfar
 have HLS:=Lib.hid hls
 clear hrow hls hL hfar
 go_enter Try.func56,Try.ntmps56
 refine wp_seq_k (fun K0 hK=>?_)
 have HK0:=Lib.hid hK
 clear hK
 go_wp2
 refine HK0.out _ _ ?_
 clear HK0
 refine wp_seq_k (fun K1 hK=>?_)
 have HK1:=Lib.hid hK
 clear hK
 go_wp2
 go_loopw [3] (fun i wr=>∃ (k:Nat),k≤n∧i=.int .i64 (k:Int)∧Hid (Fa w wr ls k)) (fun i _=>n - (RowKit.intOf i).toNat)
 case atStart=>exact ⟨0,Nat.zero_le _,rfl,HF0⟩
 case round =>
  obtain ⟨k,hk,rfl,hF⟩:=hrel
  by_cases hlt:k<n
  ·have hl0:k<ls.length:=by rw [HLS.out];exact hlt
   obtain ⟨u,hu⟩:∃ x,x=ls[k]'hl0:=⟨_,rfl⟩
   have HU:=Lib.hid (show ls[k]?=some u from by rw [hu];exact List.getElem?_eq_getElem hl0)
   obtain ⟨⟨xs,ru,hxl⟩,_⟩:=hF.out.all k u HU.out
   obtain ⟨Au,cu,hvu,hcu⟩:=ru.form
   obtain ⟨nu,hnu⟩:∃ z,z=xs.length:=⟨_,rfl⟩
   rw [bs_length,← hnu] at hvu
   rw [← hnu] at hxl
   obtain ⟨ga,ca,hva,hca,a0⟩:=HROW.out.list HU.out
   injection hva with q1 q2 q3
   subst q1;subst q3
   rw [HLS.out] at hca
   have HA0:=Lib.hid a0
   have HRU:=Lib.hid ru
   have HNU:=Lib.hid hnu
   subst hvu
   have a0:=hF.out.ch.cell a0 (HFAR.out _ rfl)
   clear ru hcu hu hnu q2 hl0
   refine wp_seq_k (fun Kc hK=>?_)
   have HKc:=Lib.hid hK
   clear hK
   go_wp2
   refine HKc.out _ _ ?_
   clear HKc
   refine wp_seq_k (fun Kb hK=>?_)
   have HKb:=Lib.hid hK
   clear hK
   refine wp_block ?_
   go_wp2
   go_loopw [4] (fun i w'=>∃ (q:Nat) (zs:List Int),q≤nu∧i=.int .i64 (q:Int)∧Hid (zs.length=nu)∧Hid (zs.take q=(ev nu k).take q)∧Hid (Row w' 5 (.slice Au nu cu) (bs zs))∧Hid (Ch wr w' (fun g=>Value.ownBlock (.slice Au nu cu)=some g))) (fun i _=>nu - (RowKit.intOf i).toNat)
   case atStart=>exact ⟨0,xs,Nat.zero_le _,rfl,Lib.hid HNU.out.symm,Lib.hid rfl,HRU,Lib.hid (Ch.refl _ _)⟩
   case round =>
    obtain ⟨q,zs,hq,rfl,hzl,hzt,hzr,hzc⟩:=hrel
    clear a0
    have a0:=(hF.out.ch.trans hzc.out fun g hg=>.inl ⟨k,_,Nat.zero_le _,HU.out,hg⟩).cell HA0.out (HFAR.out _ rfl)
    by_cases hqn:q<nu
    ·have hqz:q<zs.length:=by rw [hzl.out];exact hqn
     obtain ⟨gl,cl,hv,hl1,b0,b1⟩:=hzr.out.byte (List.getElem?_eq_getElem hqz)
     injection hv with v1 v2 v3
     subst v1;subst v3
     have HS2:=Lib.hid (show Row (wr.setCell ⟨gl,q,none⟩ (.int .u8 (ea k q))) 5 (.slice (some ⟨gl,0,none⟩) nu cu) (bs (zs.set q (ea k q))) from by rw [← bs_set];exact hzr.out.set_ q _ (by rw [bs_length];exact hqz))
     have HC2:=Lib.hid (hzc.out.set_ ⟨gl,q,none⟩ (.int .u8 (ea k q)) (.inl rfl))
     rw [hzl.out] at hl1
     clear v2
     go_wp2
     go_roundw
     case rel=>exact ⟨q+1,zs.set q (ea k q),by omega,by go_num,Lib.hid (by rw [List.length_set];exact hzl.out),Lib.hid (take_set zs (ev nu k) q _ (by rw [hzl.out];exact hqn) hzt.out (ev_at nu k q hqn)),HS2,HC2⟩
     case measure=>simp [RowKit.intOf];omega
    ·obtain rfl:q=nu:=by omega
     have hz:zs=ev q k:=by
      have h:=hzt.out
      rw [List.take_of_length_le (Nat.le_of_eq hzl.out),List.take_of_length_le (Nat.le_of_eq (ev_length _ _))] at h
      exact h
     have HN2:=Lib.hid (hF.out.next HU.out hzc.out (by have h:=hzr.out;rw [hz] at h;exact h) hxl HL.out.apart)
     clear hz
     go_wp2
     refine HKb.out _ _ ?_
     go_wp2
     go_roundw
     case rel=>exact ⟨k+1,by omega,by go_num,HN2⟩
     case measure=>simp [RowKit.intOf];omega
  ·obtain rfl:k=n:=by omega
   go_wp2
   refine HK1.out _ _ ?_
   exact V2 w wr A k c ls HLS.out hn HL.out HROW.out hF.out
#print axioms apart_
end Go.Proofs.Ythmeojeehemlaaa.Bk
end
section
namespace Go.Proofs.Ythmeojeehemlaaa.Bk
open Go.RowKit Go.Proofs.YthmeojeehemlaaaW.PrintWords Go.Proofs.Ythmeojeehemlaaa.Mem Go.Proofs.Ythmeojeehemlaaa.Lnd
structure AppS (w w':World) (base:Nat) (e:TypeId) (s:Nat) (v v':Value) (n m:Nat) (xs news:List Value):Prop where
 row:w'.ownsRow base e s v' (n+m) (xs ++ news)
 grown:w.grownBy w' v.ownBlock
 where_:v'.ownBlock=v.ownBlock∨∃ k,w.heap.size≤k∧v'.ownBlock=some k
 keep:∀ b2 u k zs,w.ownsRow b2 e s u k zs→(u.ownBlock≠v.ownBlock∨zs <+: xs ++ news∨xs ++ news <+: zs)→w'.ownsRow b2 e s u k zs
theorem run_appS {P:Program} (w:World) (base:Nat) (t ty e:TypeId) (i:TypeInfo) (z:Value) (s bytes:Nat) (ht:P.underlying t=some (.slice e)) (hi:P.info? e=some i) (hz:i.zero=some z)
  (hsize:i.size=s) (hby:i.bytes=bytes) (hzs:z.cells.size=s) (hs0:0<s)
  (v:Value) (n:Nat) (xs:List Value) (hown:w.ownsRow base e s v n xs)
  (a:Addr) (m c:Nat) (news:List Value) (hl:news.length=m*s) (hm:0<m) (hnews:∀ j u,news[j]?=some u→w.cell? (a.add j)=some u) (h1:∀ u∈news,u.oneCell'=true)
  (h63:n+m≤maxLen) (hbytes:(n+m)*bytes≤140737488355328) (hbase:base≤w.heap.size) :
  ∃ v' w',(Builtin.append_ #[t,t] ty #[v,.slice (some a) m c]).run P w=.ok v' w'∧AppS w w' base e s v v' n m xs news:=by
 have hxl:=hown.1
 have hsmall:n+m≤9223372036854775807:=by simp only [maxLen] at h63;omega
 have hlen:(xs ++ news).length=(n+m)*s:=by rw [List.length_append,hxl,hl,Nat.add_mul]
 have grown:∀ (old:Nat),old<n+m→∀ w',w'=(w.drew.alloc (.cells (xs.toArray ++ news.toArray ++ Builtin.zeroCells z.cells (grownCap w (n+m) old e - (n+m))) e)) →
   AppS w w' base e s v (.slice (some ⟨w.heap.size,0,none⟩) (n+m) (grownCap w (n+m) old e)) n m xs news:=by
  intro old ho w' hw'
  have hge:=grownCap_ge w (n+m) old e
  have hcm:grownCap w (n+m) old e≤maxLen:=grownCap_le_maxLen w (n+m) old e h63
  have hg:w.grownBy w' none:=by
   rw [hw']
   exact ⟨rfl,rfl,rfl,by simp,fun k hk _=>heap_alloc_old w.drew _ hk⟩
  refine ⟨⟨by rw [hlen],.inr ⟨w.heap.size,_,_,rfl,hbase,by rw [hw'];exact heap_alloc_new w.drew _,by omega,hcm,?_,?_⟩⟩,⟨hg.os,hg.tape,hg.output,hg.size,fun k hk _=>hg.block k hk (by simp)⟩,.inr ⟨_,Nat.le_refl _,rfl⟩,fun b2 u k zs hu _=>hu.kept hg (by cases h:u.ownBlock <;> simp)⟩
  ·have e1:n+m+(grownCap w (n+m) old e - (n+m))=grownCap w (n+m) old e:=by omega
   simp only [Array.size_append,List.size_toArray,size_zeroCells,hzs,hl,hxl]
   rw [← Nat.add_mul,← Nat.add_mul,e1]
  ·simp only [Array.toList_append,List.append_assoc]
   rw [← List.append_assoc,← hlen]
   exact List.take_left
 rcases hown.2 with ⟨rfl,h0⟩|⟨g,cap,cur,rfl,hbg,hg,hnc,hcm,hcs,htake⟩
 ·subst h0
  have hx:xs=[]:=List.eq_nil_of_length_eq_zero (by rw [hxl];omega)
  subst hx
  have hr:=run_append_nil (P:=P) w t ty e i z ht hi hz a m c news (by rw [hsize];exact hl) hnews (by omega) (by omega) (by have hb:=hbytes;rw [hby];simp only [Nat.zero_add] at hb;omega)
  refine ⟨_,_,hr,?_⟩
  have hgr:=grown 0 (by omega) _ rfl
  simp only [Nat.zero_add,List.nil_append,Array.empty_append] at hgr ⊢
  simpa using hgr
 ·by_cases hroom:n+m≤cap
  ·have hmul:(n+m)*s≤cap*s:=Nat.mul_le_mul_right s hroom
   have hsum:n*s+m*s≤cap*s:=by rw [← Nat.add_mul];exact hmul
   have hfit:n*i.size+news.length≤cur.size:=by rw [hsize,hl,hcs];exact hsum
   have hr:=run_append_room (P:=P) w t ty e i ht hi g n cap cur hg a m c news (by rw [hsize];exact hl) hnews h1 hroom hfit
   rw [hsize] at hr
   have hnew:(w.setRow g (cur.toList.take (n*s) ++ news ++ cur.toList.drop (n*s+news.length)).toArray).heap[g]?=some (.cells (cur.toList.take (n*s) ++ news ++ cur.toList.drop (n*s+news.length)).toArray e (0,0)):=setRow_heap w g cur _ e _ hg
   have hoth:∀ k,k≠g→(w.setRow g (cur.toList.take (n*s) ++ news ++ cur.toList.drop (n*s+news.length)).toArray).heap[k]?=w.heap[k]?:=fun k hk=>setRow_other w g k _ (fun e=>hk e)
   have hcn:n*s+news.length≤cur.size:=by rw [hl,hcs];exact hsum
   have hszn:(cur.toList.take (n*s) ++ news ++ cur.toList.drop (n*s+news.length)).length=cur.size:=by
    simp only [List.length_append,List.length_take,List.length_drop,Array.length_toList]
    omega
   rw [htake] at hr hnew hoth hszn
   have hgrown:w.grownBy (w.setRow g (xs ++ news ++ cur.toList.drop (n*s+news.length)).toArray) (Value.ownBlock (.slice (some ⟨g,0,none⟩) n cap)):=
    ⟨rfl,rfl,rfl,by simp,fun k _ hk=>hoth k (fun e=>hk (by simp [Value.ownBlock,e]))⟩
   refine ⟨_,_,hr,⟨⟨by rw [hlen],.inr ⟨g,cap,_,rfl,hbg,hnew,by omega,hcm,by rw [List.size_toArray,hszn];exact hcs,?_⟩⟩,hgrown,.inl rfl,?_⟩⟩
   ·rw [← hlen]
    exact List.take_left
   ·intro b2 u k zs hu hor
    by_cases hne:u.ownBlock=Value.ownBlock (.slice (some ⟨g,0,none⟩) n cap)
    ·have hpre:zs <+: xs ++ news∨xs ++ news <+: zs:=by rcases hor with h|h;exact absurd hne h;exact h
     refine ⟨hu.1,?_⟩
     rcases hu.2 with h|⟨g2,cap2,cur2,rfl,hb2,hg2,hn2,hc2,hs2,ht2⟩
     ·exact .inl h
     ·have e2:g2=g:=by simpa [Value.ownBlock] using hne
      subst e2
      rw [hg] at hg2
      obtain ⟨rfl⟩:cur=cur2:=by simpa using hg2
      refine .inr ⟨g2,cap2,_,rfl,hb2,hnew,hn2,hc2,by rw [List.size_toArray,hszn];exact hs2,?_⟩
      have hk:zs.length=k*s:=hu.1
      rcases hpre with ⟨r,hr2⟩|⟨r,hr2⟩
      ·rw [← hk,← hr2,List.append_assoc]
       exact List.take_left
      ·have hdrop:cur.toList.drop (n*s+news.length)=r ++ (cur.toList.drop (k*s)):=by
        have hcat:cur.toList=(xs ++ news ++ r) ++ cur.toList.drop (k*s):=by
         rw [hr2,← ht2];exact (List.take_append_drop _ _).symm
        have e3:n*s+news.length=(xs ++ news).length:=by rw [List.length_append,hxl]
        rw [e3]
        conv=>lhs;rw [hcat]
        rw [List.append_assoc,List.drop_left]
       rw [List.toList_toArray,hdrop,← List.append_assoc,hr2,← hk]
       exact List.take_left
    ·exact hu.kept hgrown (.inr hne)
  ·have holds:∀ j u,xs[j]?=some u→w.cell? ((⟨g,0,none⟩:Addr).add j)=some u:=hown.cells (g:=g) rfl
   have hr:=run_append_grow (P:=P) w t ty e i z ht hi hz ⟨g,0,none⟩ n cap xs (by rw [hsize];exact hxl) holds a m c news (by rw [hsize];exact hl) hnews (by omega) (by omega) (growslice_fits (by omega) (by rw [hby];exact hbytes))
   exact ⟨_,_,hr,grown cap (by omega) _ rfl⟩
theorem wp_appS {P:Program} (w:World) {o:Oper} {a:Act} {K:Act→World→Prop} {Q:Exit→Act→World→Prop} (sl x:Operand) (t:TypeId)
  (ho:o.op=.call { callee:=.builtin .append,args:=#[sl,x],argTypes:=#[t,t] })
  (base:Nat) (e:TypeId) (i:TypeInfo) (z:Value) (s bytes:Nat) (ht:P.underlying t=some (.slice e)) (hi:P.info? e=some i) (hz:i.zero=some z)
  (hsize:i.size=s) (hby:i.bytes=bytes) (hzs:z.cells.size=s) (hs0:0<s)
  (v:Value) (n:Nat) (xs:List Value) (hs:a.eval sl=v) (hown:w.ownsRow base e s v n xs)
  (ad:Addr) (m c:Nat) (news:List Value) (hx:a.eval x=.slice (some ad) m c) (hl:news.length=m*s) (hm:0<m) (hnews:∀ j u,news[j]?=some u→w.cell? (ad.add j)=some u) (h1:∀ u∈news,u.oneCell'=true)
  (h63:n+m≤maxLen) (hbytes:(n+m)*bytes≤140737488355328) (hbase:base≤w.heap.size)
  (h:∀ v' w',AppS w w' base e s v v' n m xs news→K (a.put o.dst v') w'):o.wp P a w K Q:=by
 obtain ⟨v',w',hr,h2⟩:=run_appS (P:=P) w base t o.type e i z s bytes ht hi hz hsize hby hzs hs0 v n xs hown ad m c news hl hm hnews h1 h63 hbytes hbase
 unfold Oper.wp execOp
 simp only [ho,resolve,invoke,builtin,Sem.run_bind,Sem.run_pure,Result.andThen_ok,List.map_toArray,List.map_cons,List.map_nil,hs,hx,hr]
 exact h v' w' h2
theorem wpList_appS {P:Program} (w:World) {ops:Array Oper} {rest:List Oper} {o:Oper} {a:Act} {Q:Exit→Act→World→Prop} (hgd:o.guard=none) (sl x:Operand) (t:TypeId)
  (ho:o.op=.call { callee:=.builtin .append,args:=#[sl,x],argTypes:=#[t,t] })
  (base:Nat) (e:TypeId) (i:TypeInfo) (z:Value) (s bytes:Nat) (ht:P.underlying t=some (.slice e)) (hi:P.info? e=some i) (hz:i.zero=some z)
  (hsize:i.size=s) (hby:i.bytes=bytes) (hzs:z.cells.size=s) (hs0:0<s)
  (v:Value) (n:Nat) (xs:List Value) (hs:a.eval sl=v) (hown:w.ownsRow base e s v n xs)
  (ad:Addr) (m c:Nat) (news:List Value) (hx:a.eval x=.slice (some ad) m c) (hl:news.length=m*s) (hm:0<m) (hnews:∀ j u,news[j]?=some u→w.cell? (ad.add j)=some u) (h1:∀ u∈news,u.oneCell'=true)
  (h63:n+m≤maxLen) (hbytes:(n+m)*bytes≤140737488355328) (hbase:base≤w.heap.size)
  (h:∀ v' w',AppS w w' base e s v v' n m xs news→wpList P ops Q rest (a.put o.dst v') w'):wpList P ops Q (o :: rest) a w:=
 wpList_plain hgd fun _ hK=>wp_appS w sl x t ho base e i z s bytes ht hi hz hsize hby hzs hs0 v n xs hs hown ad m c news hx hl hm hnews h1 h63 hbytes hbase fun v' w' h2=>hK _ _ (h v' w' h2)
theorem step_appS {P:Program} {ops:Array Oper} {o:Oper} {a:Act} {w:World} {K:Act→World→Prop} {Q:Exit→Act→World→Prop} {E:Prop}
  (hg:o.guard=none) (sl x:Operand) (t:TypeId) (ho:o.op=.call { callee:=.builtin .append,args:=#[sl,x],argTypes:=#[t,t] })
  (base:Nat) (e:TypeId) (i:TypeInfo) (z:Value) (s bytes:Nat) (ht:P.underlying t=some (.slice e)) (hi:P.info? e=some i) (hz:i.zero=some z)
  (hsize:i.size=s) (hby:i.bytes=bytes) (hzs:z.cells.size=s) (hs0:0<s)
  (v:Value) (n:Nat) (xs:List Value) (hs:a.eval sl=v) (hown:w.ownsRow base e s v n xs)
  (ad:Addr) (m c:Nat) (news:List Value) (hx:a.eval x=.slice (some ad) m c) (hl:news.length=m*s) (hm:0<m) (hnews:∀ j u,news[j]?=some u→w.cell? (ad.add j)=some u) (h1:∀ u∈news,u.oneCell'=true)
  (h63:n+m≤maxLen) (hbytes:(n+m)*bytes≤140737488355328) (hbase:base≤w.heap.size)
  (h:∀ v' w',AppS w w' base e s v v' n m xs news→K (a.put o.dst v') w') :
  if Region.wanted o (yielded ops a.tmps)=true then Oper.wp P o a w K Q else E:=by
 have hw:Region.wanted o (yielded ops a.tmps)=true:=by simp [Region.wanted,hg]
 rw [if_pos hw]
 exact wp_appS w sl x t ho base e i z s bytes ht hi hz hsize hby hzs hs0 v n xs hs hown ad m c news hx hl hm hnews h1 h63 hbytes hbase h
end Go.Proofs.Ythmeojeehemlaaa.Bk
end
section
namespace Go.Proofs.Ythmeojeehemlaaa.Bk
open Go.RowKit Go.Proofs.YthmeojeehemlaaaW.PrintWords Go.Proofs.Ythmeojeehemlaaa.Mem Go.Proofs.Ythmeojeehemlaaa.Lnd Go.Proofs.Ythmeojeehemlaaa.PM
attribute [local go_sem] isSome_setCell
def cells2:List (Int × Value)→List Value
 | []=>[]
 | p :: r=>.int .u64 p.1 :: p.2 :: cells2 r
theorem cells2_length:∀ ps:List (Int × Value),(cells2 ps).length=2*ps.length
 | []=>rfl
 | p :: r=>by simp only [cells2,List.length_cons,cells2_length r];omega
theorem cells2_append:∀ ps qs:List (Int × Value),cells2 (ps ++ qs)=cells2 ps ++ cells2 qs
 | [],_=>rfl
 | p :: r,qs=>by simp only [List.cons_append,cells2,cells2_append r qs]
theorem cells2_at:∀ (ps:List (Int × Value)) (i:Nat) (h:i<ps.length),(cells2 ps)[2*i]?=some (.int .u64 ps[i].1)∧(cells2 ps)[2*i+1]?=some ps[i].2
 | p :: r,0,_=>⟨rfl,rfl⟩
 | p :: r,i+1,h=>by
  have ih:=cells2_at r i (by simpa using h)
  rw [show 2*(i+1)=2*i+1+1 from by omega]
  simp only [cells2,List.getElem?_cons_succ,List.getElem_cons_succ]
  exact ih
theorem cells2_set:∀ (ps:List (Int × Value)) (i:Nat) (y:Int × Value),(((cells2 ps).set (2*i) (.int .u64 y.1)).set (2*i+1) y.2)=cells2 (ps.set i y)
 | [],i,y=>by simp [cells2]
 | p :: r,0,y=>rfl
 | p :: r,i+1,y=>by
  have ih:=cells2_set r i y
  rw [show 2*(i+1)=2*i+1+1 from by omega]
  simp only [cells2,List.set_cons_succ]
  rw [ih]
theorem outCells_cells2:∀ os:List Out,outCells os=cells2 (os.map fun o=>(o.first,oval o))
 | []=>rfl
 | o :: r=>by
  have ih:=outCells_cells2 r
  simp only [outCells,List.flatMap_cons,List.map_cons,cells2] at ih ⊢
  rw [ih];rfl
abbrev Row2 (w:World) (v:Value) (ps:List (Int × Value)):Prop:=w.ownsRow 0 39 2 v ps.length (cells2 ps)
theorem Row2.ch {w w':World} {S:Nat→Prop} {v:Value} {ps:List (Int × Value)} (h:Row2 w v ps) (hc:Ch w w' S) (hn:∀ g,v.ownBlock=some g→¬ S g):Row2 w' v ps:=by
 refine ⟨h.1,?_⟩
 rcases h.2 with hn'|⟨g,cap,cur,rfl,hb,hg,rest⟩
 ·exact .inl hn'
 ·exact .inr ⟨g,cap,cur,rfl,hb,(hc.block g (Array.getElem?_eq_some_iff.1 hg).1 (hn g rfl)).trans hg,rest⟩
theorem Row2.at {w:World} {v:Value} {ps:List (Int × Value)} (h:Row2 w v ps) {j:Nat} {p:Int × Value} (hp:ps[j]?=some p):∃ g cap,v=.slice (some ⟨g,0,none⟩) ps.length cap∧ps.length≤cap∧w.cell? ⟨g,j*2,none⟩=some (.int .u64 p.1)∧w.cell? ⟨g,j*2+1,none⟩=some p.2∧w.frozen? ⟨g,j*2,none⟩=false∧w.frozen? ⟨g,j*2+1,none⟩=false:=by
 have hj:j<ps.length:=(List.getElem?_eq_some_iff.1 hp).1
 have he:ps[j]=p:=(List.getElem?_eq_some_iff.1 hp).2
 rcases h.2 with ⟨_,h0⟩|⟨g,cap,cur,hv,hb,hg,hn,hc,hs,ht⟩
 ·omega
 ·have hB:Blk w g 39 cur:=hg
  have hfa:=cells2_at ps j hj
  rw [he] at hfa
  have hfl:=cells2_length ps
  have key:∀ q v,q<2→(cells2 ps)[2*j+q]?=some v→w.cell? ⟨g,j*2+q,none⟩=some v:=by
   intro q v hq hv
   rw [hB.cell,Nat.mul_comm j 2,← Array.getElem?_toList]
   have h1:(cur.toList.take (ps.length*2))[2*j+q]?=(cells2 ps)[2*j+q]?:=by rw [ht]
   rw [List.getElem?_take,if_pos (by omega)] at h1
   rw [h1];exact hv
  exact ⟨g,cap,hv,hn,key 0 _ (by decide) hfa.1,key 1 _ (by decide) hfa.2,hB.frozen _,hB.frozen _⟩
theorem Row2.set_ {w:World} {g n cap:Nat} {ps:List (Int × Value)} (h:w.ownsRow 0 39 2 (.slice (some ⟨g,0,none⟩) n cap) n (cells2 ps)) (j:Nat) (y:Int × Value) :
  ((w.setCell ⟨g,j*2,none⟩ (.int .u64 y.1)).setCell ⟨g,j*2+1,none⟩ y.2).ownsRow 0 39 2 (.slice (some ⟨g,0,none⟩) n cap) n (cells2 (ps.set j y)):=by
 have hlen:(cells2 ps).length=n*2:=h.1
 refine ⟨by rw [cells2_length,List.length_set,← cells2_length];exact hlen,?_⟩
 rcases h.2 with ⟨e,_⟩|⟨g',cap',cur,e,hb,hg,hn,hc,hs,ht⟩
 ·cases e
 ·injection e with a1 a2 a3
  injection a1 with a1
  injection a1 with a1 _ _
  subst a1
  subst a3
  have hB:Blk w g 39 cur:=hg
  have h3:=(hB.set_ (j*2) (.int .u64 y.1)).set_ (j*2+1) y.2
  refine .inr ⟨g,cap,_,rfl,hb,h3,hn,hc,by simpa using hs,?_⟩
  rw [← cells2_set,← ht,Nat.mul_comm j 2]
  simp only [Array.toList_setIfInBounds,List.take_set]
theorem outsR_row2 {w:World} {base:Nat} {v:Value} {os:List Out} (h:OutsR w base v os):Row2 w v (os.map fun o=>(o.first,oval o)):=by
 show w.ownsRow 0 39 2 v (os.map _).length _
 rw [List.length_map,← outCells_cells2]
 refine ⟨h.row.1,?_⟩
 rcases h.row.2 with hn|⟨g,cap,cur,hv,hb,rest⟩
 ·exact .inl hn
 ·exact .inr ⟨g,cap,cur,hv,Nat.zero_le _,rest⟩
theorem outsR_dat_row {w:World} {base:Nat} {v:Value} {os:List Out} (h:OutsR w base v os) {o:Out} (ho:o∈os):Row w 5 (oval o) (bs o.data)∧∀ g,(oval o).ownBlock=some g→base≤g:=by
 have h1:=h.dat o ho
 refine ⟨?_,fun g hg=>(World.ownsRow.lt h1 g hg).1⟩
 have h2:w.ownsRow base 5 1 (oval o) (bs o.data).length (bs o.data):=by rw [bs_length];exact h1
 exact (Row.of_own h2).1
theorem outsR_v_new {w:World} {base:Nat} {v:Value} {os:List Out} (h:OutsR w base v os):∀ g,v.ownBlock=some g→base≤g:=fun g hg=>(World.ownsRow.lt h.row g hg).1
theorem outsR_lists {w:World} {base:Nat} {v:Value} {os:List Out} (h:OutsR w base v os) (hs:∀ o∈os,o.data.length≤1048576):Lists w (os.map oval):=by
 refine ⟨fun j u hu=>?_,fun i j u x g hu hx hij hg hxg=>?_⟩
 ·rw [List.getElem?_map] at hu
  obtain ⟨o,ho,rfl⟩:=Option.map_eq_some_iff.1 hu
  exact ⟨o.data,(outsR_dat_row h (List.mem_of_getElem? ho)).1,hs o (List.mem_of_getElem? ho)⟩
 ·rw [List.getElem?_map] at hu hx
  obtain ⟨o,ho,rfl⟩:=Option.map_eq_some_iff.1 hu
  obtain ⟨o2,ho2,rfl⟩:=Option.map_eq_some_iff.1 hx
  have hi:=List.getElem?_eq_some_iff.1 ho
  have hj:=List.getElem?_eq_some_iff.1 ho2
  obtain ⟨hi1,hi2⟩:=hi
  obtain ⟨hj1,hj2⟩:=hj
  have hp:=List.pairwise_iff_getElem.1 h.sep
  rcases Nat.lt_or_gt_of_ne hij with hlt|hlt
  ·have:=hp i j hi1 hj1 hlt g
   rw [hi2,hj2] at this
   exact this hg hxg
  ·have:=hp j i hj1 hi1 hlt g
   rw [hi2,hj2] at this
   exact this hxg hg
end Go.Proofs.Ythmeojeehemlaaa.Bk
end
section
namespace Go.Proofs.Ythmeojeehemlaaa.Bk
open Go.RowKit Go.Proofs.YthmeojeehemlaaaW.PrintWords Go.Proofs.Ythmeojeehemlaaa.Mem Go.Proofs.Ythmeojeehemlaaa.Lnd Go.Proofs.Ythmeojeehemlaaa.PM
attribute [local go_sem] isSome_setCell
theorem own_form {w:World} {b e s n:Nat} {v:Value} {xs:List Value} (h:w.ownsRow b e s v n xs):∃ A cap,v=.slice A n cap∧n≤cap:=by
 rcases h.2 with ⟨rfl,h0⟩|⟨g,cap,cur,hv,hb,hg,hn,hc,hs,ht⟩
 ·exact ⟨none,0,by rw [h0],by omega⟩
 ·exact ⟨_,cap,hv,hn⟩
theorem Lists.ch {w w':World} {ls:List Value} (h:Lists w ls) (hc:Ch w w' Never):Lists w' ls:=
 ⟨fun j u hu=>(h.row j u hu).imp fun xs hx=>⟨hx.1.ch hc fun _ _ h=>h,hx.2⟩,h.apart⟩
theorem ch2 {w w1 w2:World} (h:Ch w w1 Never) (h2:Ch w1 w2 Never):Ch w w2 Never:=h.trans h2 fun _ h=>h.elim
theorem together_ (w:World) (F ok:Nat→Prop) (g:Nat) (P0:Option Addr) (rl:List S39) (rs:List Reg) (hD:DeskAt w F ok g P0 rl rs) (hl:rl.length≤1048576) :
  Calls Try.prog 19 #[.pointer (some ⟨g,0,none⟩)] w fun e w'=>e=.returned (.bool true)∧Ch w w' Never:=by
 obtain ⟨A1,c1,S,X,hL,hV,hS,q1,q2,q3,q4,q5⟩:=hD.parts
 obtain ⟨a,b,hg⟩:=hL.blk
 have g0:=hg.cell 0
 simp only [List.getElem?_toArray,List.getElem?_cons_zero] at g0
 rcases hS with ⟨rfl,_⟩|⟨s,rfl,hst,hrel⟩
 ·clear hL hV q1 q2 q3 q4 q5 hg hD
  go_enter Try.func19,Try.ntmps19
  go_wp2
  go_ret
  exact ⟨rfl,Ch.refl _ _⟩
 ·have hsm:∀ r∈rs,r.data.length≤1048576:=fun r hr=>by
   have h:=(hD.small _ ((rel_mem hrel).1 r hr)).2
   simp only [s39] at h;omega
  have hlen:=hrel.len
  have HR:=Lib.hid (regionsR_ 0 w s rs (hst.mono (fun _ _ _=>Nat.zero_le _)) (fun r hr=>by have:=hsm r hr;omega))
  have HSM:=Lib.hid hsm
  have HLEN:=Lib.hid hlen
  obtain ⟨i,hi,hz0,hz1,hz2⟩:=info30
  clear hL hV q1 q2 q3 q4 q5 hg hD hst hrel hsm
  go_enter Try.func19,Try.ntmps19
  refine wp_seq_k (fun K0 hK=>?_)
  have HK0:=Lib.hid hK
  clear hK
  go_wp2
  refine HK0.out _ _ ?_
  clear HK0
  refine wp_seq_k (fun K0 hK=>?_)
  have HK0:=Lib.hid hK
  clear hK
  go_wp2
  refine HK0.out _ _ ?_
  clear HK0
  go_wp2_with (go_at_call 22;refine HR.out.mono ?_;rintro e w1 ⟨v,os,rfl,ho,he,hb⟩;obtain ⟨A3,c3,hv,hc3⟩:=own_form ho.row;obtain ⟨n,hn⟩:∃ n,n=os.length:=⟨_,rfl⟩;rw [← hn] at hv hc3;subst hv;have HN:=Lib.hid hn;clear hn;have HO:=Lib.hid ho;have HE:=Lib.hid he;have HB:=Lib.hid (Ch.of_below hb);clear ho he hb)
  have hn2:n≤1048576:=by
   have h1:=(outs_rs HE.out).1
   have h2:=HLEN.out
   have h3:=HN.out
   omega
  go_loopw [5,6] (fun V i wr=>∃ (k cV:Nat) (B:Option Addr),k≤n∧i=.int .i64 (k:Int)∧V=.slice B k cV∧Hid (Row wr 37 V ((os.map oval).take k))∧Hid (∀ g,V.ownBlock=some g→w1.heap.size≤g)∧Hid (Ch w1 wr Never)) (fun _ i _=>n - (RowKit.intOf i).toNat)
  case atStart=>exact ⟨0,0,none,Nat.zero_le _,rfl,rfl,Lib.hid (Row.nil _ _),Lib.hid (fun g hg=>by simp [Value.ownBlock] at hg),Lib.hid (Ch.refl _ _)⟩
  case round =>
   obtain ⟨k,cV,B,hk,rfl,rfl,hR,hN,hC⟩:=hrel
   by_cases hlt:k<n
   ·have hl0:k<os.length:=by rw [← HN.out];exact hlt
    obtain ⟨o,ho⟩:∃ x,x=os[k]'hl0:=⟨_,rfl⟩
    have HU:=Lib.hid (show os[k]?=some o from by rw [ho];exact List.getElem?_eq_getElem hl0)
    obtain ⟨ga,ca,hva,hca,_,a1,_⟩:=Row2.at (Row2.ch (outsR_row2 HO.out) hC.out fun _ _ h=>h) (j:=k) (p:=(o.first,oval o)) (by rw [List.getElem?_map,HU.out];rfl)
    rw [List.length_map,← HN.out] at hva hca
    injection hva with v1 v2 v3
    subst v1;subst v3
    have a2:wr.cell? ⟨ga,k*2+1,none⟩=some (.slice o.A o.data.length o.cap):=a1
    clear v2 ho hl0 a1
    have HTK:=Lib.hid (show ((os.map oval).take k).length=k from by rw [List.length_take,List.length_map,← HN.out];omega)
    obtain ⟨gs,hgs⟩:∃ gs,gs=(os.map oval).take k:=⟨_,rfl⟩
    have HGS:=Lib.hid hgs
    have HTK:=Lib.hid (show gs.length=k from by rw [hgs];exact HTK.out)
    rw [← hgs] at hR
    clear hgs
    go_wp2_with (at_builtin;refine wpList_app _ rfl _ _ 52 rfl 0 37 i (.slice none 0 0) 24 Try.underlying52 hi hz0 hz1 hz2 rfl (.slice B k cV) gs rfl ?q1 ⟨wr.heap.size,0,none⟩ 1 1 [.slice o.A o.data.length o.cap] rfl rfl (by decide) ?q2 ?q3 ?q4 ?q5 ?q6 ?_)
    case q1=>exact hR.out.alloc _
    all_goals try (first|exact Nat.zero_le _|rfl|exact one_new _ _ _|(intro u hu;rw [List.mem_singleton.1 hu];rfl)|(rw [HTK.out];unfold maxLen;omega)|(rw [HTK.out];omega))
    intro v' w3 hA
    obtain ⟨B2,c2,hv2,_⟩:=hA.row'.form
    have hlen:(gs ++ [Value.slice o.A o.data.length o.cap]).length=k+1:=by rw [List.length_append,HTK.out];rfl
    rw [hlen] at hv2
    subst hv2
    have he:(os.map oval).take (k+1)=gs ++ [oval o]:=by
     rw [HGS.out,List.take_add_one,List.getElem?_map,HU.out];rfl
    have HRX:=Lib.hid (show Row w3 37 (.slice B2 (k+1) c2) ((os.map oval).take (k+1)) from by rw [he];exact hA.row')
    have HCX:=Lib.hid (show Ch w1 w3 Never from (hC.out.alloc _).trans hA.ch fun g hg=>.inr (hN.out g hg))
    have HNX:=Lib.hid (show ∀ g,(Value.slice B2 (k+1) c2).ownBlock=some g→w1.heap.size≤g from fun g hg=>by
     rcases hA.where_ with e|⟨q,hq,e⟩
     ·exact hN.out g (e ▸ hg)
     ·rw [e] at hg
      obtain rfl:=Option.some.inj hg
      exact Nat.le_trans hC.out.size (Nat.le_trans ((Ch.refl wr Never).alloc _).size hq))
    clear hA hlen he
    go_wp2
    go_roundw
    case rel=>exact ⟨k+1,c2,B2,by omega,by go_num,rfl,HRX,HNX,HCX⟩
    case measure=>simp [RowKit.intOf];omega
   ·obtain rfl:k=n:=by omega
    have hall:(os.map oval).take k=os.map oval:=List.take_of_length_le (by rw [List.length_map,← HN.out];exact Nat.le_refl _)
    have HAP:=Lib.hid (apart_ wr B k cV (os.map oval) (by rw [List.length_map,← HN.out]) hn2 ((outsR_lists HO.out (outs_small HE.out HSM.out)).ch hC.out) (by have h:=hR.out;rw [hall] at h;exact h))
    clear hall
    go_wp2_with (go_at_call 56;refine HAP.out.mono ?_;rintro e w4 ⟨rfl,hc⟩;have HX:=Lib.hid hc;clear hc)
    go_ret
    refine ⟨rfl,(ch2 HB.out hC.out).trans HX.out fun g hg=>?_⟩
    obtain ⟨j,u,_,hu,hgu⟩:=hg
    rw [List.getElem?_map] at hu
    obtain ⟨o,ho,rfl⟩:=Option.map_eq_some_iff.1 hu
    exact .inr ((outsR_dat_row HO.out (List.mem_of_getElem? ho)).2 g hgu)
end Go.Proofs.Ythmeojeehemlaaa.Bk
end
