/- Parts of the proof, laid together by a program of this session (pack.py): Bk9, BkR, BkA, BkB, BkS, BkC, BkD, BkE, BkF, BkG. -/
import Derived.Test.YthmeojeehemlaaaZC12
set_option linter.unusedVariables false
set_option linter.unusedSimpArgs false
set_option maxRecDepth 100000
set_option maxHeartbeats 16000000
section
namespace Go.Proofs.Ythmeojeehemlaaa.Bk
open Go.RowKit Go.Proofs.YthmeojeehemlaaaW.PrintWords Go.Proofs.Ythmeojeehemlaaa.Mem Go.Proofs.Ythmeojeehemlaaa.Lnd Go.Proofs.Ythmeojeehemlaaa.PM
attribute [local go_sem] isSome_setCell
def left:Code→Code
 | .seq a _=>a
 | c=>c
def right:Code→Code
 | .seq _ b=>b
 | c=>c
def inner:Code→Code
 | .block _ c=>c
 | .loop c=>c
 | c=>c
def blockB (b:Code):Code:=inner (left (right (inner (inner (right (left (postC 3 b)))))))
theorem new_at (w:World) (xs:List Value) (t:TypeId):∀ (j:Nat) (u:Value),xs[j]?=some u→(w.alloc (.cells xs.toArray t)).cell? ((⟨w.heap.size,0,none⟩:Addr).add j)=some u:=by
 intro j u hj
 have e:(⟨w.heap.size,0,none⟩:Addr).add j=⟨w.heap.size,j,none⟩:=by unfold Addr.add;split <;> simp_all
 rw [e,(Blk.new w t xs.toArray).cell j]
 simpa using hj
structure Set_ (w0 w:World) (p:Nat) (v:Fin 5→Value) (ct:Fin 5→List Value) (k:Nat) (x:Value):Prop where
 row:∃ xs,Row w 5 x (bs xs)
 small:sl x≤4398046511104
 sep:∀ g,x.ownBlock=some g→¬ Fb (ct 0) k g∧(Foot p v ct g∨w0.heap.size≤g)
section
variable {w0 wr w w1 w2 w3:World} {p:Nat} {c t:Int} {v:Fin 5→Value} {ct ct':Fin 5→List Value} {v' v3:Fin 5→Value} {V V':Value} {gs ks ws news:List Value} {k:Nat}
theorem Gr.app (h:Gr w0 w p v ct v' V gs k) (hb:Bk w p c t v' ct') {o:Obj} (hA:App (w.alloc o) w1 0 37 V V' gs news) (hn:∀ x∈news,Set_ w0 w p v ct k x) (hs:w0.heap.size≤w.heap.size):Gr w0 w1 p v ct v' V' (gs ++ news) k:=by
 have far:∀ x,(∃ xs,Row w 5 x (bs xs))→∃ xs,Row w1 5 x (bs xs):=fun x ⟨xs,hr⟩=>⟨xs,(hr.alloc o).ch hA.ch fun g hg e=>hr.other h.row (by decide) hg e⟩
 refine ⟨hA.row',fun g hg=>?_,fun x hx=>?_⟩
 ·rcases hA.where_ with e|⟨q,hq,e⟩
  ·exact h.apart g (e ▸ hg)
  ·rw [e] at hg
   obtain rfl:=Option.some.inj hg
   simp at hq
   exact ⟨fun ho=>by have:=hb.lt ho;omega,by omega⟩
 ·rcases List.mem_append.1 hx with hx|hx
  ·exact ⟨far x (h.each x hx).1,(h.each x hx).2⟩
  ·exact ⟨far x (hn x hx).row,(hn x hx).small,(hn x hx).sep⟩
theorem Mid.marks_cell (h:Mid w0 w p c t v ct v' ks ws k) {j:Nat} {m:Int} (hm:(ct 2)[j]?=some (.int .i64 m)):∃ g2 N k2,w.cell? ⟨p,5,none⟩=some (.slice (some ⟨g2,0,none⟩) N k2)∧w.cell? ⟨g2,j,none⟩=some (.int .i64 m)∧j<N∧N≤k2:=by
 obtain ⟨hj,he⟩:=List.getElem?_eq_some_iff.1 hm
 obtain ⟨g2,k2,e2,l2,m2,a2⟩:=(h.bk.row 2).at (by rw [tw_2];omega)
 obtain ⟨a2,_⟩:=a2 j (by rw [tw_2];exact hj)
 simp only [tw_2] at e2 l2 a2
 rw [he] at a2
 have c5':=h.bk.hd.cell 5
 simp only [hdr,List.getElem?_toArray,List.getElem?_cons_zero,List.getElem?_cons_succ] at c5'
 rw [e2] at c5'
 exact ⟨g2,_,k2,c5',a2,hj,l2⟩
theorem Mid.app (h:Mid w0 w p c t v ct v' ks ws k) (hm:(ct 2).length=(ct 0).length) (hi:∀ u∈ct 2,∃ m,u=.int .i64 m) (hg:Gr w0 w p v ct v' V gs k) {o:Obj} (hA:App (w.alloc o) w1 0 37 V V' gs news):Mid w0 w1 p c t v ct v' ks ws k:=
 (h.never ((Ch.refl w Never).alloc o)).move hA.ch (fun g e=>.inr (hg.apart g e).2) (fun g ho e=>(hg.apart g e).1 ho)
  (fun u hu g hgu e=>by obtain ⟨xs,hr⟩:=h.kw.rows hu;exact hr.other hg.row (by decide) hgu e)
  (fun g ⟨j,u,hj,hu,hgu⟩ e=>by obtain ⟨xs,hr⟩:=h.frows hm hi hj hu;exact hr.other hg.row (by decide) hgu e)
theorem Mid.fresh (h:Mid w0 w p c t v ct v' ks ws k) {S:Nat→Prop} (hc:Ch w w1 S) (hS:∀ g,S g→w.heap.size≤g) (hm:(ct 2).length=(ct 0).length) (hi:∀ u∈ct 2,∃ m,u=.int .i64 m):Mid w0 w1 p c t v ct v' ks ws k:=
 h.move hc (fun g e=>.inr (Nat.le_trans h.ch.size (hS g e))) (fun g ho e=>by have:=h.bk.lt ho;have:=hS g e;omega)
  (fun u hu g hgu e=>by obtain ⟨xs,hr⟩:=h.kw.rows hu;have:=hr.lt g hgu;have:=hS g e;omega)
  (fun g ⟨j,u,hj,hu,hgu⟩ e=>by obtain ⟨xs,hr⟩:=h.frows hm hi hj hu;have:=hr.lt g hgu;have:=hS g e;omega)
end
theorem ints_marks {w:World} {g n:Nat} {m:Int} (h:Blk w g 5 (ints (marks n m))) (hn:n≤4398046511104):Row w 5 (.slice (some ⟨g,0,none⟩) n n) (bs (marks n m)):=ints_row h n (marks_length n m).symm hn
theorem B2 {Q:Exit→Act→World→Prop} (w0 wA:World) (p:Nat) (c t:Int) (v:Fin 5→Value) (ct:Fin 5→List Value) (v2:Fin 5→Value) (ks ws:List Value) (V:Value) (gs:List Value) (j nu cu n1 c1 n2 c2 n3 c3 n4 c4 n5 c5 bm K:Nat) (m:Int) (A A1 A2 A3 A4 A5:Option Addr) (more:List Int)
  (h:Mid w0 wA p c t v ct v2 ks ws (j+1)) (hg:Gr w0 wA p v ct v2 V gs (j+1)) (hm:(ct 2).length=(ct 0).length) (hi:∀ u∈ct 2,∃ m,u=.int .i64 m) (hj:j<(ct 0).length) (hmj:(ct 2)[j]?=some (.int .i64 m))
  (hu:Row wA 5 (.slice A nu cu) (bs (marks nu m))) (hus:nu≤549755813888) (hK:K≤3070) (hKp:0<K) (hmore:Row wA 5 (.slice (some ⟨bm,0,none⟩) K K) (bs more)) (h4:Row wA 5 (.slice A4 n4 c4) (bs (marks nu m ++ more)))
  (su:Set_ w0 wA p v ct (j+1) (.slice A nu cu)) (s4:Set_ w0 wA p v ct (j+1) (.slice A4 n4 c4)) (s1:Set_ w0 wA p v ct (j+1) (.slice A1 n1 c1)) (s2:Set_ w0 wA p v ct (j+1) (.slice A2 n2 c2)) (s3:Set_ w0 wA p v ct (j+1) (.slice A3 n3 c3)) (s5:Set_ w0 wA p v ct (j+1) (.slice A5 n5 c5))
  (hks:ks.length≤5700000000000) (hgs:gs.length≤4000000) (hfl:(ct 0).length≤1000000) (hfb:∀ g,Fb (ct 0) 0 g→g<w0.heap.size)
  {y1 y2 y3 y4 y8 y14 y16 y17 y18 y19 y20 y21 y22 y23 y24 y25 y26 y27 y28 y29 y30 y31 y32 y33 y34 y35 y36 y37 y38 y39 y40 y41 y42 y43 y44 y45 y46 y47 y48 y49 y50 y51 y52 y53 y54 y55 y56 y57 y58 y59 y60 y61 y62 y63 y64 y65 y66 y67 y68 y69 y70 y71 y72 y73 y74 y75 y76 y77 y78 y79 y80 y81 y82 y83 y84 y85 y86 y87 y88 y89 y90 y91 y92 y93 y94 y95 y96 y97 y98 y99 y100 y101 y102 y103 y104 y105 y106 y107 y108 y109 y110 y111 y112 y113 y114 y115 y116 y117 y118 y119 y120 y121 y122 y123 y124 y125 y126 y127 y128 y129 y130 y131 y132 y133 y134 y135 y136 y137 y138 y139 y140 y141 y142 y143 y144 y145 y146 y147 y148 y149 y150 y151 y152 y153 y154 y155 y156 y157 y158 y159 y160 y161 y162 y163 y164 y165 y166 y167 y168 y169 y170 y171 y172 y173 y174 y175 y176 y177 y178 y179 y180 y181 y182 y183 y184 y185 y186 y187 y188 y189 y190 y191 y192 y193 y194 y195 y196 y197 y198 y199 y200 y201 y202 y203 y204 y205 y206 y207 y208 y209 y210 y211 y212:Value}
  (HQ:Hid (∀ {z7 z8 z9 z10 z11 z12 z13 z14 z15 z72 z73 z74 z75 z76 z77 z78 z79 z80 z81 z82 z83 z84 z85 z86 z87 z88 z89 z90 z91 z92 z93 z94 z95 z96 z97 z98 z99 z100 z101 z102 z103 z104 z105 z106 z107 z108 z109 z110 z111 z112 z113 z114 z115 z116 z117 z118 z119 z120 z121 z122 z123 z124 z125 z126 z127 z128 z129 z130 z131 z132 z133 z134 z135 z136 z137 z138 z139 z140 z141 z142 z143 z144 z145 z146 z147 z148 z149 z150 z151 z152 z153 z154 z155 z156 z157 z158 z159 z160 z161 z162 z163 z164 z165 z166 z167 z168 z169 z170 z171 z172 z173 z174:Value} (wD:World) (v3:Fin 5→Value) (k1 k2 d1 d2:Value) (V':Value) (gs':List Value),Mid w0 wD p c t v ct v3 (ks ++ [k1] ++ [k2]) (ws ++ [d1] ++ [d2]) (j+1)→Gr w0 wD p v ct v3 V' gs' (j+1)→gs'.length=gs.length+4→Q .normal { tmps:=#[(.pointer (some ⟨p,0,none⟩)),y1,y2,y3,y4,V',(.int .i64 (j:Int)),z7,z8,z9,z10,z11,z12,z13,z14,z15,y16,y17,y18,y19,y20,y21,y22,y23,y24,y25,y26,y27,y28,y29,y30,y31,y32,y33,y34,y35,y36,y37,y38,y39,y40,y41,y42,y43,y44,y45,y46,y47,y48,y49,y50,y51,y52,y53,y54,y55,y56,y57,y58,y59,y60,y61,y62,y63,y64,y65,y66,y67,y68,y69,y70,y71,z72,z73,z74,z75,z76,z77,z78,z79,z80,z81,z82,z83,z84,z85,z86,z87,z88,z89,z90,z91,z92,z93,z94,z95,z96,z97,z98,z99,z100,z101,z102,z103,z104,z105,z106,z107,z108,z109,z110,z111,z112,z113,z114,z115,z116,z117,z118,z119,z120,z121,z122,z123,z124,z125,z126,z127,z128,z129,z130,z131,z132,z133,z134,z135,z136,z137,z138,z139,z140,z141,z142,z143,z144,z145,z146,z147,z148,z149,z150,z151,z152,z153,z154,z155,z156,z157,z158,z159,z160,z161,z162,z163,z164,z165,z166,z167,z168,z169,z170,z171,z172,z173,z174,y175,y176,y177,y178,y179,y180,y181,y182,y183,y184,y185,y186,y187,y188,y189,y190,y191,y192,y193,y194,y195,y196,y197,y198,y199,y200,y201,y202,y203,y204,y205,y206,y207,y208,y209,y210,y211,y212],defers:=[] } wD)) :
  Code.wp Try.prog (postC 9 (blockB (Try.f53.body.getD .skip))) Q { tmps:=#[(.pointer (some ⟨p,0,none⟩)),y1,y2,y3,y4,V,(.int .i64 (j:Int)),(.slice A nu cu),y8,(.slice A1 n1 c1),(.slice A2 n2 c2),(.slice A3 n3 c3),(.slice (some ⟨bm,0,none⟩) K K),(.slice A4 n4 c4),y14,(.slice A5 n5 c5),y16,y17,y18,y19,y20,y21,y22,y23,y24,y25,y26,y27,y28,y29,y30,y31,y32,y33,y34,y35,y36,y37,y38,y39,y40,y41,y42,y43,y44,y45,y46,y47,y48,y49,y50,y51,y52,y53,y54,y55,y56,y57,y58,y59,y60,y61,y62,y63,y64,y65,y66,y67,y68,y69,y70,y71,y72,y73,y74,y75,y76,y77,y78,y79,y80,y81,y82,y83,y84,y85,y86,y87,y88,y89,y90,y91,y92,y93,y94,y95,y96,y97,y98,y99,y100,y101,y102,y103,y104,y105,y106,y107,y108,y109,y110,y111,y112,y113,y114,y115,y116,y117,y118,y119,y120,y121,y122,y123,y124,y125,y126,y127,y128,y129,y130,y131,y132,y133,y134,y135,y136,y137,y138,y139,y140,y141,y142,y143,y144,y145,y146,y147,y148,y149,y150,y151,y152,y153,y154,y155,y156,y157,y158,y159,y160,y161,y162,y163,y164,y165,y166,y167,y168,y169,y170,y171,y172,y173,y174,y175,y176,y177,y178,y179,y180,y181,y182,y183,y184,y185,y186,y187,y188,y189,y190,y191,y192,y193,y194,y195,y196,y197,y198,y199,y200,y201,y202,y203,y204,y205,y206,y207,y208,y209,y210,y211,y212],defers:=[] } wA:=by
 have H:=Lib.hid h
 have HG:=Lib.hid hg
 have HM:=Lib.hid hm
 have HI:=Lib.hid hi
 have HU:=Lib.hid hu
 have HMO:=Lib.hid hmore
 have H4:=Lib.hid h4
 have SU:=Lib.hid su
 have S4:=Lib.hid s4
 have SN:=Lib.hid (show ∀ x∈([.slice A1 n1 c1,.slice A2 n2 c2,.slice A3 n3 c3,.slice A5 n5 c5]:List Value),Set_ w0 wA p v ct (j+1) x from fun x hx=>by
  simp at hx
  rcases hx with rfl|rfl|rfl|rfl
  ·exact s1
  ·exact s2
  ·exact s3
  ·exact s5)
 have HFB:=Lib.hid hfb
 have HMJ:=Lib.hid hmj
 have HKS:=Lib.hid hks
 have HWS:=Lib.hid (show ws.length≤5700000000000 from by rw [← h.kw.1];exact hks)
 have HGS:=Lib.hid hgs
 obtain ⟨i,hi',hz0,hz1,hz2⟩:=info30
 obtain ⟨i5,hj5,hy0,hy1,hy2⟩:=info5
 have hj2:j<(ct 2).length:=by rw [hm];exact hj
 clear h hg hi hu hmore h4 su s4 s1 s2 s3 s5 hmj hks hgs hfb
 unfold Try.f53
 dsimp only [Option.getD,postC,blockB,left,right,inner]
 go_wp2_with (at_builtin;refine wpList_app _ rfl _ _ 52 rfl 0 37 i (.slice none 0 0) 24 Try.underlying52 hi' hz0 hz1 hz2 rfl V gs rfl ?q1 ⟨wA.heap.size,0,none⟩ 4 4 [.slice A1 n1 c1,.slice A2 n2 c2,.slice A3 n3 c3,.slice A5 n5 c5] rfl rfl (by decide) ?q2 ?q3 ?q4 ?q5 ?q6 ?_)
 case q1=>exact HG.out.row.alloc _
 case q3=>exact ⟨rfl,rfl,rfl,rfl⟩
 case q4=>have:=HGS.out;unfold maxLen;omega
 case q5=>have:=HGS.out;omega
 intro V' wB hA
 have HB:=Lib.hid (H.out.app HM.out HI.out HG.out hA)
 have HGB:=Lib.hid (HG.out.app H.out.bk hA SN.out H.out.ch.size)
 have mv:∀ x xs,Row wA 5 x (bs xs)→Row wB 5 x (bs xs):=fun x xs hr=>(hr.alloc _).ch hA.ch fun g hg e=>hr.other HG.out.row (by decide) hg e
 have HU2:=Lib.hid (mv _ _ HU.out)
 have HMO2:=Lib.hid (mv _ _ HMO.out)
 have H42:=Lib.hid (mv _ _ H4.out)
 clear mv hA
 obtain ⟨g2,N2,k2,c5',a2,hj2',l2⟩:=HB.out.marks_cell HMJ.out
 go_wp2_with (go_at_call 78;refine (marked_ _ nu m (by omega)).mono ?_;rintro e wC ⟨rfl,hb,hc⟩;have HMB:=Lib.hid hb;have HMC:=Lib.hid hc;clear hb hc)
 have HM2:=Lib.hid (HB.out.never HMC.out)
 have HG2:=Lib.hid (HGB.out.never HMC.out)
 have HU3:=Lib.hid (HU2.out.ch HMC.out fun _ _ h=>h)
 have HMO3:=Lib.hid (HMO2.out.ch HMC.out fun _ _ h=>h)
 have H43:=Lib.hid (H42.out.ch HMC.out fun _ _ h=>h)
 have HMR:=Lib.hid (ints_marks HMB.out (by omega))
 have HFN:=Lib.hid (show ∀ g,w0.heap.size≤g→¬ Fb (ct 0) (j+1) g∧(Foot p v ct g∨w0.heap.size≤g) from fun g hg=>⟨fun ⟨q,u,_,h1,h2⟩=>by have:=HFB.out g ⟨q,u,Nat.zero_le _,h1,h2⟩;omega,.inr hg⟩)
 clear HU2 HMO2 H42 HU HMO H4 HMB
 go_wp2_with (go_at_call 79;refine (keep2_ _ p c t v2 ct ks ws A (some ⟨wB.heap.size,0,none⟩) nu nu cu nu HM2.out.bk (by have:=HKS.out;omega) (by have:=HWS.out;omega)).mono ?_;rintro e wD ⟨rfl,v3,hb,hc,ho⟩;have HM3:=Lib.hid (HM2.out.keep HM.out HI.out hb hc ho HU3.out HMR.out SU.out.sep fun g hg=>HFN.out g (by simp [Value.ownBlock] at hg;rw [← hg];exact HB.out.ch.size));have HG3:=Lib.hid (HG2.out.keep HM2.out.bk hc ho);have HMO4:=Lib.hid (HMO3.out.ch hc fun g hg=>HM2.out.bk.sep HMO3.out hg);have H44:=Lib.hid (H43.out.ch hc fun g hg=>HM2.out.bk.sep H43.out hg);clear hb hc ho;clear a2 c5' hj2' l2;obtain ⟨g3,N3,k3,c5',a2,hj3',l3⟩:=HM3.out.marks_cell HMJ.out)
 clear HU3 HMO3 H43 HMR
 go_wp2_with (first|(go_at_call 78;refine (marked_ _ nu m (by omega)).mono ?_;rintro e wE ⟨rfl,hb,hc⟩;have HMB:=Lib.hid hb;have HMC2:=Lib.hid hc;clear hb hc)|(at_builtin;refine wpList_app _ rfl _ _ 37 rfl 0 5 i5 (.int .u8 0) 1 Try.underlying37 hj5 hy0 hy1 hy2 rfl (.slice (some ⟨wD.heap.size,0,none⟩) nu nu) (bs (marks nu m)) rfl ?r1 ⟨bm,0,none⟩ K K (bs more) rfl ?r7 hKp ?r2 ?r3 ?r4 ?r5 ?r6 ?_))
 case r1=>exact ints_marks HMB.out (by omega)
 case r7=>rw [bs_length];exact (C_of_row HMO4.out).1.symm
 case r2=>exact World.ownsRow.cells (HMO4.out.ch HMC2.out fun _ _ h=>h) rfl
 case r3=>intro u hu;obtain ⟨q,rfl⟩:=int_mem hu;rfl
 case r4=>rw [bs_length,marks_length];unfold maxLen;omega
 case r5=>rw [bs_length,marks_length];omega
 case r6=>exact Nat.zero_le _
 intro v6 wF hA
 obtain ⟨B6,c6,hv6,hc6⟩:=hA.row'.form
 obtain ⟨n6,hn6⟩:∃ N,N=(bs (marks nu m) ++ bs more).length:=⟨_,rfl⟩
 rw [← hn6] at hv6
 subst hv6
 clear hn6 hc6
 have HCF:=Lib.hid ((HMC2.out.mono (S':=fun g=>Value.ownBlock (.slice (some ⟨wD.heap.size,0,none⟩) nu nu)=some g) fun _ h=>h.elim).trans hA.ch fun g hg=>.inl hg)
 have HSF:=Lib.hid (show ∀ g,Value.ownBlock (.slice (some ⟨wD.heap.size,0,none⟩) nu nu)=some g→wD.heap.size≤g from fun g hg=>by simp [Value.ownBlock] at hg;omega)
 have HMF:=Lib.hid (HM3.out.fresh HCF.out HSF.out HM.out HI.out)
 have HGF:=Lib.hid (HG3.out.move HCF.out (fun g hg e=>by have:=HG3.out.row.lt g hg;have:=HSF.out g e;omega) fun x hx g hg e=>by obtain ⟨ys,hr⟩:=(HG3.out.each x hx).1;have:=hr.lt g hg;have:=HSF.out g e;omega)
 have H4F:=Lib.hid (H44.out.ch HCF.out fun g hg e=>by have:=H44.out.lt g hg;have:=HSF.out g e;omega)
 have HR6:=Lib.hid (show Row wF 5 (.slice B6 n6 c6) (bs (marks nu m ++ more)) from by rw [bs_append];exact hA.row')
 have HS6:=Lib.hid (show ∀ g,Value.ownBlock (.slice B6 n6 c6)=some g→w0.heap.size≤g from fun g hg=>by
  have h1:=HM3.out.ch.size
  have h2:=HMC2.out.size
  rcases hA.where_ with e|⟨q,hq,e⟩
  ·rw [e] at hg;have:=HSF.out g hg;omega
  ·rw [e] at hg;have:=Option.some.inj hg;omega)
 clear hA
 go_wp2_with (go_at_call 79;refine (keep2_ _ p c t v3 ct _ _ A4 B6 n4 n6 c4 c6 HMF.out.bk (by have:=HKS.out;simp;omega) (by have:=HWS.out;simp;omega)).mono ?_;rintro e wG ⟨rfl,v4,hb,hc,ho⟩;have HM5:=Lib.hid (HMF.out.keep HM.out HI.out hb hc ho H4F.out HR6.out S4.out.sep fun g hg=>HFN.out g (HS6.out g hg));have HG5:=Lib.hid (HGF.out.keep HMF.out.bk hc ho);clear hb hc ho)
 exact HQ.out wG v4 _ _ _ _ _ _ HM5.out HG5.out (by simp)
end Go.Proofs.Ythmeojeehemlaaa.Bk
end
section
namespace Go.Proofs.Ythmeojeehemlaaa.Bk
open Go.RowKit Go.Proofs.YthmeojeehemlaaaW.PrintWords Go.Proofs.Ythmeojeehemlaaa.Mem Go.Proofs.Ythmeojeehemlaaa.Lnd Go.Proofs.Ythmeojeehemlaaa.PM
attribute [local go_sem] isSome_setCell
def Norm (R:Act→World→Prop):Exit→Act→World→Prop
 | .normal,a,w=>R a w
 | _,_,_=>False
theorem Norm.mk {R:Act→World→Prop} {a:Act} {w:World} (h:R a w):Norm R .normal a w:=h
theorem Norm.elim {R:Act→World→Prop} {Q:Exit→Act→World→Prop} (h:∀ a w,R a w→Q .normal a w):∀ e a w,Norm R e a w→Q e a w:=by
 intro e a w hn
 cases e <;> first|exact h a w hn|exact False.elim hn
theorem R18 (w3:World) (p:Nat) (t m:Int) (g2 N2 k2 j K:Nat) (hK0:0<K) (hK:K≤3070) (ht0:0≤t) (ht:t≤4398046511104) (hKe:IntKind.i64.wrap ((if 3000<t then 3000 else t)+70)=(K:Int))
  (c1':w3.cell? ⟨p,1,none⟩=some (.int .i64 t)) (c5':w3.cell? ⟨p,5,none⟩=some (.slice (some ⟨g2,0,none⟩) N2 k2)) (a2:w3.cell? ⟨g2,j,none⟩=some (.int .i64 m)) (hj2':j<N2) (l2:N2≤k2) {y1 y2 y3 y4 y5 y7 y8 y9 y10 y11 y12 y13 y14 y15 y16 y17 y18 y19 y20 y21 y22 y23 y24 y25 y26 y27 y28 y29 y30 y31 y32 y33 y34 y35 y36 y37 y38 y39 y40 y41 y42 y43 y44 y45 y46 y47 y48 y49 y50 y51 y52 y53 y54 y55 y56 y57 y58 y59 y60 y61 y62 y63 y64 y65 y66 y67 y68 y69 y70 y71 y72 y73 y74 y75 y76 y77 y78 y79 y80 y81 y82 y83 y84 y85 y86 y87 y88 y89 y90 y91 y92 y93 y94 y95 y96 y97 y98 y99 y100 y101 y102 y103 y104 y105 y106 y107 y108 y109 y110 y111 y112 y113 y114 y115 y116 y117 y118 y119 y120 y121 y122 y123 y124 y125 y126 y127 y128 y129 y130 y131 y132 y133 y134 y135 y136 y137 y138 y139 y140 y141 y142 y143 y144 y145 y146 y147 y148 y149 y150 y151 y152 y153 y154 y155 y156 y157 y158 y159 y160 y161 y162 y163 y164 y165 y166 y167 y168 y169 y170 y171 y172 y173 y174 y175 y176 y177 y178 y179 y180 y181 y182 y183 y184 y185 y186 y187 y188 y189 y190 y191 y192 y193 y194 y195 y196 y197 y198 y199 y200 y201 y202 y203 y204 y205 y206 y207 y208 y209 y210 y211 y212:Value} :
  Code.wp Try.prog (left (postC 5 (blockB (Try.f53.body.getD .skip)))) (Norm fun a W=>∃ (bm:Nat) (e108 e109 e110 e111 e112 e113 e114 e115 e116 e117 e118 e119 e120 e121 e122:Value),a={ tmps:=#[(.pointer (some ⟨p,0,none⟩)),y1,y2,y3,y4,y5,(.int .i64 (j:Int)),y7,y8,y9,y10,y11,(.slice (some ⟨bm,0,none⟩) K K),y13,y14,y15,y16,y17,y18,y19,y20,y21,y22,y23,y24,y25,y26,y27,y28,y29,y30,y31,y32,y33,y34,y35,y36,y37,y38,y39,y40,y41,y42,y43,y44,y45,y46,y47,y48,y49,y50,y51,y52,y53,y54,y55,y56,y57,y58,y59,y60,y61,y62,y63,y64,y65,y66,y67,y68,y69,y70,y71,y72,y73,y74,y75,y76,y77,y78,y79,y80,y81,y82,y83,y84,y85,y86,y87,y88,y89,y90,y91,y92,y93,y94,y95,y96,y97,y98,y99,y100,y101,y102,y103,y104,y105,y106,y107,e108,e109,e110,e111,e112,e113,e114,e115,e116,e117,e118,e119,e120,e121,e122,y123,y124,y125,y126,y127,y128,y129,y130,y131,y132,y133,y134,y135,y136,y137,y138,y139,y140,y141,y142,y143,y144,y145,y146,y147,y148,y149,y150,y151,y152,y153,y154,y155,y156,y157,y158,y159,y160,y161,y162,y163,y164,y165,y166,y167,y168,y169,y170,y171,y172,y173,y174,y175,y176,y177,y178,y179,y180,y181,y182,y183,y184,y185,y186,y187,y188,y189,y190,y191,y192,y193,y194,y195,y196,y197,y198,y199,y200,y201,y202,y203,y204,y205,y206,y207,y208,y209,y210,y211,y212],defers:=[] }∧Hid (Row W 5 (.slice (some ⟨bm,0,none⟩) K K) (bs (marks K (IntKind.i64.wrap (m+107)))))∧Hid (Ch w3 W Never)∧Hid (bm=w3.heap.size)) { tmps:=#[(.pointer (some ⟨p,0,none⟩)),y1,y2,y3,y4,y5,(.int .i64 (j:Int)),y7,y8,y9,y10,y11,y12,y13,y14,y15,y16,y17,y18,y19,y20,y21,y22,y23,y24,y25,y26,y27,y28,y29,y30,y31,y32,y33,y34,y35,y36,y37,y38,y39,y40,y41,y42,y43,y44,y45,y46,y47,y48,y49,y50,y51,y52,y53,y54,y55,y56,y57,y58,y59,y60,y61,y62,y63,y64,y65,y66,y67,y68,y69,y70,y71,y72,y73,y74,y75,y76,y77,y78,y79,y80,y81,y82,y83,y84,y85,y86,y87,y88,y89,y90,y91,y92,y93,y94,y95,y96,y97,y98,y99,y100,y101,y102,y103,y104,y105,y106,y107,y108,y109,y110,y111,y112,y113,y114,y115,y116,y117,y118,y119,y120,y121,y122,y123,y124,y125,y126,y127,y128,y129,y130,y131,y132,y133,y134,y135,y136,y137,y138,y139,y140,y141,y142,y143,y144,y145,y146,y147,y148,y149,y150,y151,y152,y153,y154,y155,y156,y157,y158,y159,y160,y161,y162,y163,y164,y165,y166,y167,y168,y169,y170,y171,y172,y173,y174,y175,y176,y177,y178,y179,y180,y181,y182,y183,y184,y185,y186,y187,y188,y189,y190,y191,y192,y193,y194,y195,y196,y197,y198,y199,y200,y201,y202,y203,y204,y205,y206,y207,y208,y209,y210,y211,y212],defers:=[] } w3:=by
 have hK40:K≤4398046511104:=by omega
 unfold Try.f53
 dsimp only [Option.getD,postC,blockB,left,right,inner]
 have hm:min t 3000=if 3000<t then 3000 else t:=by split <;> omega
 have hX:IntKind.i64.wrap (min t 3000+70)=(K:Int):=by rw [hm];exact hKe
 clear hKe hm
 go_region_with (go_at_call 78;refine (marked_ _ K _ hK40).mono ?_;rintro e w4 ⟨rfl,hb,hc⟩;have HMO:=Lib.hid (ints_marks hb hK40);have HC4:=Lib.hid (((Ch.refl w3 Never).drew).trans hc fun _ h=>h.elim);clear hb hc)
 all_goals
  refine Norm.mk ?_
  exact ⟨_,_,_,_,_,_,_,_,_,_,_,_,_,_,_,_,rfl,HMO,HC4,Lib.hid rfl⟩
end Go.Proofs.Ythmeojeehemlaaa.Bk
end
section
namespace Go.Proofs.Ythmeojeehemlaaa.Bk
open Go.RowKit Go.Proofs.YthmeojeehemlaaaW.PrintWords Go.Proofs.Ythmeojeehemlaaa.Mem Go.Proofs.Ythmeojeehemlaaa.Lnd Go.Proofs.Ythmeojeehemlaaa.PM
attribute [local go_sem] isSome_setCell
section
variable {w0 wr w w1:World} {p:Nat} {c t:Int} {v:Fin 5→Value} {ct ct':Fin 5→List Value} {v' v3:Fin 5→Value} {V V':Value} {gs ks ws news:List Value} {k:Nat}
theorem Mid.fresh_cell (h:Mid w0 w p c t v ct v' ks ws k) {j:Nat} {u:Value} (hm:(ct 0)[j]?=some u):∃ g2 N k2,w.cell? ⟨p,3,none⟩=some (.slice (some ⟨g2,0,none⟩) N k2)∧w.cell? ⟨g2,j,none⟩=some u∧j<N∧N≤k2:=by
 obtain ⟨hj,he⟩:=List.getElem?_eq_some_iff.1 hm
 obtain ⟨g2,k2,e2,l2,m2,a2⟩:=(h.bk.row 0).at (by rw [tw_0];omega)
 obtain ⟨a2,_⟩:=a2 j (by rw [tw_0];exact hj)
 simp only [tw_0] at e2 l2 a2
 rw [he] at a2
 have c5':=h.bk.hd.cell 3
 simp only [hdr,List.getElem?_toArray,List.getElem?_cons_zero,List.getElem?_cons_succ] at c5'
 rw [e2] at c5'
 exact ⟨g2,_,k2,c5',a2,hj,l2⟩
theorem Mid.total_cell (h:Mid w0 w p c t v ct v' ks ws k):w.cell? ⟨p,1,none⟩=some (.int .i64 t):=by
 have c5':=h.bk.hd.cell 1
 simpa only [hdr,List.getElem?_toArray,List.getElem?_cons_zero,List.getElem?_cons_succ] using c5'
theorem It.mid {s0 wr:World} {u g4:Value} {mu ys:List Int} {xs:List Value} (hI:It s0 wr u mu xs g4 ys) (h:Mid w0 s0 p c t v ct v' ks ws k) (hg:Gr w0 s0 p v ct v' V gs k) (hm:(ct 2).length=(ct 0).length) (hi:∀ u∈ct 2,∃ m,u=.int .i64 m) (hu:(ct 0)[k]?=some u)
  (hap:∀ (i j:Nat) (u x:Value) (g:Nat),(ct 0)[i]?=some u→(ct 0)[j]?=some x→i≠j→u.ownBlock=some g→x.ownBlock≠some g) :
  Mid w0 wr p c t v ct v' ks ws (k+1)∧Gr w0 wr p v ct v' V gs (k+1):=by
 have hlen:k<(ct 2).length:=by rw [hm];exact (List.getElem?_eq_some_iff.1 hu).1
 obtain ⟨xs,hr⟩:=h.frows hm hi (Nat.le_refl k) hu
 have up:∀ g,Fb (ct 0) (k+1) g→Fb (ct 0) k g:=fun g ⟨j,x,hj,h1,h2⟩=>⟨j,x,by omega,h1,h2⟩
 refine ⟨?_,?_⟩
 ·have h1:Mid w0 s0 p c t v ct v' ks ws (k+1):=⟨h.ch,h.bk,h.own,h.kw,fun u hu g hg=>⟨fun e=>(h.sep u hu g hg).1 (up g e),(h.sep u hu g hg).2⟩,fun j u m hj=>h.fr j u m (by omega)⟩
  refine h1.move hI.ch (fun g e=>.inl (.inr ⟨k,u,Nat.zero_le _,hu,e⟩)) (fun g ho e=>h.bk.sep hr e ho) (fun x hx g hgx e=>(h.sep x hx g hgx).1 ⟨k,u,Nat.le_refl _,hu,e⟩) ?_
  rintro g ⟨j,x,hj,h1,h2⟩ e
  exact hap j k x u g h1 hu (by omega) h2 e
 ·have h1:Gr w0 s0 p v ct v' V gs (k+1):=⟨hg.row,hg.apart,fun x hx=>⟨(hg.each x hx).1,(hg.each x hx).2.1,fun g hgx=>⟨fun e=>((hg.each x hx).2.2 g hgx).1 (up g e),((hg.each x hx).2.2 g hgx).2⟩⟩⟩
  exact h1.move hI.ch (fun g hgv e=>hr.other hg.row (by decide) e hgv) fun x hx g hgx e=>((hg.each x hx).2.2 g hgx).1 ⟨k,u,Nat.le_refl _,hu,e⟩
theorem It.set_ {s0 wr:World} {u g4 x:Value} {mu ys:List Int} {xs:List Value} (hI:It s0 wr u mu xs g4 ys) (h:Mid w0 s0 p c t v ct v' ks ws k) (hu:(ct 0)[k]?=some u)
  (hap:∀ (i j:Nat) (u x:Value) (g:Nat),(ct 0)[i]?=some u→(ct 0)[j]?=some x→i≠j→u.ownBlock=some g→x.ownBlock≠some g) (hfb:∀ g,Fb (ct 0) 0 g→g<w0.heap.size)
  (hr:∃ xs,Row wr 5 x (bs xs)) (hs:sl x≤4398046511104) (hb:∀ g,x.ownBlock=some g→u.ownBlock=some g∨s0.heap.size≤g):Set_ w0 wr p v ct (k+1) x:=by
 refine ⟨hr,hs,fun g hg=>?_⟩
 rcases hb g hg with e|e
 ·exact ⟨fun ⟨j,y,hj,h1,h2⟩=>hap j k y u g h1 hu (by omega) h2 e,.inl (.inr (.inl ⟨k,u,Nat.zero_le _,hu,e⟩))⟩
 ·have:=h.ch.size
  exact ⟨fun ⟨j,y,hj,h1,h2⟩=>by have:=hfb g ⟨j,y,Nat.zero_le _,h1,h2⟩;omega,.inr (by omega)⟩
end
theorem B1 {Q:Exit→Act→World→Prop} (w0 wS:World) (p:Nat) (c t:Int) (v:Fin 5→Value) (ct:Fin 5→List Value) (v2:Fin 5→Value) (ks ws:List Value) (V:Value) (gs:List Value) (j:Nat)
  (h:Mid w0 wS p c t v ct v2 ks ws j) (hg:Gr w0 wS p v ct v2 V gs j) (hm:(ct 2).length=(ct 0).length) (hi:∀ u∈ct 2,∃ m,u=.int .i64 m) (hj:j<(ct 0).length)
  (hap:∀ (i j:Nat) (u x:Value) (g:Nat),(ct 0)[i]?=some u→(ct 0)[j]?=some x→i≠j→u.ownBlock=some g→x.ownBlock≠some g) (hsm:∀ u∈ct 0,sl u≤549755813888) (ht0:0≤t) (ht:t≤4398046511104)
  (hks:ks.length≤5700000000000) (hgs:gs.length≤4000000) (hfl:(ct 0).length≤1000000) (hfb:∀ g,Fb (ct 0) 0 g→g<w0.heap.size)
  {y1 y2 y3 y4 y7 y8 y9 y10 y11 y12 y13 y14 y15 y16 y17 y18 y19 y20 y21 y22 y23 y24 y25 y26 y27 y28 y29 y30 y31 y32 y33 y34 y35 y36 y37 y38 y39 y40 y41 y42 y43 y44 y45 y46 y47 y48 y49 y50 y51 y52 y53 y54 y55 y56 y57 y58 y59 y60 y61 y62 y63 y64 y65 y66 y67 y68 y69 y70 y71 y72 y73 y74 y75 y76 y77 y78 y79 y80 y81 y82 y83 y84 y85 y86 y87 y88 y89 y90 y91 y92 y93 y94 y95 y96 y97 y98 y99 y100 y101 y102 y103 y104 y105 y106 y107 y108 y109 y110 y111 y112 y113 y114 y115 y116 y117 y118 y119 y120 y121 y122 y123 y124 y125 y126 y127 y128 y129 y130 y131 y132 y133 y134 y135 y136 y137 y138 y139 y140 y141 y142 y143 y144 y145 y146 y147 y148 y149 y150 y151 y152 y153 y154 y155 y156 y157 y158 y159 y160 y161 y162 y163 y164 y165 y166 y167 y168 y169 y170 y171 y172 y173 y174 y175 y176 y177 y178 y179 y180 y181 y182 y183 y184 y185 y186 y187 y188 y189 y190 y191 y192 y193 y194 y195 y196 y197 y198 y199 y200 y201 y202 y203 y204 y205 y206 y207 y208 y209 y210 y211 y212:Value}
  (HQ:Hid (∀ {z7 z8 z9 z10 z11 z12 z13 z14 z15 z72 z73 z74 z75 z76 z77 z78 z79 z80 z81 z82 z83 z84 z85 z86 z87 z88 z89 z90 z91 z92 z93 z94 z95 z96 z97 z98 z99 z100 z101 z102 z103 z104 z105 z106 z107 z108 z109 z110 z111 z112 z113 z114 z115 z116 z117 z118 z119 z120 z121 z122 z123 z124 z125 z126 z127 z128 z129 z130 z131 z132 z133 z134 z135 z136 z137 z138 z139 z140 z141 z142 z143 z144 z145 z146 z147 z148 z149 z150 z151 z152 z153 z154 z155 z156 z157 z158 z159 z160 z161 z162 z163 z164 z165 z166 z167 z168 z169 z170 z171 z172 z173 z174:Value} (wD:World) (v3:Fin 5→Value) (k1 k2 d1 d2:Value) (V':Value) (gs':List Value),Mid w0 wD p c t v ct v3 (ks ++ [k1] ++ [k2]) (ws ++ [d1] ++ [d2]) (j+1)→Gr w0 wD p v ct v3 V' gs' (j+1)→gs'.length=gs.length+4→Q .normal { tmps:=#[(.pointer (some ⟨p,0,none⟩)),y1,y2,y3,y4,V',(.int .i64 (j:Int)),z7,z8,z9,z10,z11,z12,z13,z14,z15,y16,y17,y18,y19,y20,y21,y22,y23,y24,y25,y26,y27,y28,y29,y30,y31,y32,y33,y34,y35,y36,y37,y38,y39,y40,y41,y42,y43,y44,y45,y46,y47,y48,y49,y50,y51,y52,y53,y54,y55,y56,y57,y58,y59,y60,y61,y62,y63,y64,y65,y66,y67,y68,y69,y70,y71,z72,z73,z74,z75,z76,z77,z78,z79,z80,z81,z82,z83,z84,z85,z86,z87,z88,z89,z90,z91,z92,z93,z94,z95,z96,z97,z98,z99,z100,z101,z102,z103,z104,z105,z106,z107,z108,z109,z110,z111,z112,z113,z114,z115,z116,z117,z118,z119,z120,z121,z122,z123,z124,z125,z126,z127,z128,z129,z130,z131,z132,z133,z134,z135,z136,z137,z138,z139,z140,z141,z142,z143,z144,z145,z146,z147,z148,z149,z150,z151,z152,z153,z154,z155,z156,z157,z158,z159,z160,z161,z162,z163,z164,z165,z166,z167,z168,z169,z170,z171,z172,z173,z174,y175,y176,y177,y178,y179,y180,y181,y182,y183,y184,y185,y186,y187,y188,y189,y190,y191,y192,y193,y194,y195,y196,y197,y198,y199,y200,y201,y202,y203,y204,y205,y206,y207,y208,y209,y210,y211,y212],defers:=[] } wD)) :
  Code.wp Try.prog (blockB (Try.f53.body.getD .skip)) Q { tmps:=#[(.pointer (some ⟨p,0,none⟩)),y1,y2,y3,y4,V,(.int .i64 (j:Int)),y7,y8,y9,y10,y11,y12,y13,y14,y15,y16,y17,y18,y19,y20,y21,y22,y23,y24,y25,y26,y27,y28,y29,y30,y31,y32,y33,y34,y35,y36,y37,y38,y39,y40,y41,y42,y43,y44,y45,y46,y47,y48,y49,y50,y51,y52,y53,y54,y55,y56,y57,y58,y59,y60,y61,y62,y63,y64,y65,y66,y67,y68,y69,y70,y71,y72,y73,y74,y75,y76,y77,y78,y79,y80,y81,y82,y83,y84,y85,y86,y87,y88,y89,y90,y91,y92,y93,y94,y95,y96,y97,y98,y99,y100,y101,y102,y103,y104,y105,y106,y107,y108,y109,y110,y111,y112,y113,y114,y115,y116,y117,y118,y119,y120,y121,y122,y123,y124,y125,y126,y127,y128,y129,y130,y131,y132,y133,y134,y135,y136,y137,y138,y139,y140,y141,y142,y143,y144,y145,y146,y147,y148,y149,y150,y151,y152,y153,y154,y155,y156,y157,y158,y159,y160,y161,y162,y163,y164,y165,y166,y167,y168,y169,y170,y171,y172,y173,y174,y175,y176,y177,y178,y179,y180,y181,y182,y183,y184,y185,y186,y187,y188,y189,y190,y191,y192,y193,y194,y195,y196,y197,y198,y199,y200,y201,y202,y203,y204,y205,y206,y207,y208,y209,y210,y211,y212],defers:=[] } wS:=by
 have hj2:j<(ct 2).length:=by rw [hm];exact hj
 obtain ⟨m,hmv⟩:=hi _ (List.getElem_mem hj2)
 have hmj:(ct 2)[j]?=some (.int .i64 m):=by rw [← hmv];exact List.getElem?_eq_getElem hj2
 obtain ⟨u,huv⟩:∃ u,u=(ct 0)[j]'hj:=⟨_,rfl⟩
 have huj:(ct 0)[j]?=some u:=by rw [huv];exact List.getElem?_eq_getElem hj
 have hus:=hsm u (List.mem_of_getElem? huj)
 have hrow:=h.fr j u m (Nat.le_refl _) huj hmj
 obtain ⟨A,cu,huf,_⟩:=hrow.form
 rw [bs_length,marks_length] at huf
 obtain ⟨nu,hnu⟩:∃ n,n=sl u:=⟨_,rfl⟩
 rw [← hnu] at huf hrow hus
 clear hnu huv hmv
 subst huf
 obtain ⟨g0,N0,k0,c3',a0,hj0,l0⟩:=h.fresh_cell huj
 obtain ⟨g2,N2,k2,c5',a2,hj2',l2⟩:=h.marks_cell hmj
 have H:=Lib.hid h
 have HG:=Lib.hid hg
 have HM:=Lib.hid hm
 have HI:=Lib.hid hi
 have HAP:=Lib.hid hap
 have HFB:=Lib.hid hfb
 have HUJ:=Lib.hid huj
 have HMJ:=Lib.hid hmj
 have HKS:=Lib.hid hks
 have HGS:=Lib.hid hgs
 obtain ⟨i5,hj5,hy0,hy1,hy2⟩:=info5
 have I0:=Lib.hid (It.start (Ch.refl wS _) hrow)
 clear h hg hi hap huj hmj hks hgs hfb hsm hrow
 unfold Try.f53
 dsimp only [Option.getD,postC,blockB,left,right,inner]
 refine wp_seq_k (fun K13 hK=>?_)
 have HK13:=Lib.hid hK
 clear hK
 go_wp2
 refine HK13.out _ _ ?_
 clear HK13
 refine wp_seq_k (fun K14 hK=>?_)
 have HK14:=Lib.hid hK
 clear hK
 go_wp2
 refine HK14.out _ _ ?_
 clear HK14
 refine wp_seq_k (fun K15 hK=>?_)
 have HK15:=Lib.hid hK
 clear hK
 go_wp2_with (at_builtin;refine wpList_app _ rfl _ _ 37 rfl 0 5 i5 (.int .u8 0) 1 Try.underlying37 hj5 hy0 hy1 hy2 rfl (.slice A nu cu) (bs (marks nu m)) rfl ?q1 ⟨wS.heap.size,0,none⟩ 1 1 [.int .u8 ((m+101) % 256)] rfl rfl (by decide) ?q2 ?q3 ?q4 ?q5 ?q6 ?_)
 case q1=>exact (I0.out.alloc _).row
 case q4=>rw [bs_length,marks_length];unfold maxLen;omega
 case q5=>rw [bs_length,marks_length];omega
 all_goals try (first|exact Nat.zero_le _|exact new_at wS [.int .u8 ((m+101) % 256)] 5|(intro u hu;simp at hu;rcases hu with rfl|rfl|rfl <;> rfl)|(intro u hu;simp at hu;rcases hu with rfl|rfl <;> rfl)|rfl|exact ⟨rfl,rfl⟩|exact ⟨rfl,rfl,rfl⟩)
 intro v1 w1 hA
 obtain ⟨A1,c1,hv,_⟩:=hA.row'.form
 obtain ⟨n1,hn⟩:∃ N,N=(bs (marks nu m) ++ [Value.int .u8 ((m+101) % 256)]).length:=⟨_,rfl⟩
 rw [← hn] at hv
 subst hv
 clear hn
 have I1:=Lib.hid ((I0.out.alloc _).app_u (news:=[(m+101) % 256]) hA (.inl rfl) (by simp))
 clear hA
 go_wp2
 refine HK15.out _ _ ?_
 clear HK15
 refine wp_seq_k (fun K16 hK=>?_)
 have HK16:=Lib.hid hK
 clear hK
 go_wp2_with (at_builtin;refine wpList_app _ rfl _ _ 37 rfl 0 5 i5 (.int .u8 0) 1 Try.underlying37 hj5 hy0 hy1 hy2 rfl (.slice A nu cu) (bs (marks nu m)) rfl ?r1 ⟨w1.heap.size,0,none⟩ 2 2 [.int .u8 ((m+102) % 256),.int .u8 ((m+103) % 256)] rfl rfl (by decide) ?r2 ?r3 ?r4 ?r5 ?r6 ?_)
 case r1=>exact (I1.out.alloc _).row
 case r4=>rw [bs_length,marks_length];unfold maxLen;omega
 case r5=>rw [bs_length,marks_length];omega
 all_goals try (first|exact Nat.zero_le _|exact new_at w1 [.int .u8 ((m+102) % 256),.int .u8 ((m+103) % 256)] 5|(intro u hu;simp at hu;rcases hu with rfl|rfl|rfl <;> rfl)|(intro u hu;simp at hu;rcases hu with rfl|rfl <;> rfl)|rfl|exact ⟨rfl,rfl⟩|exact ⟨rfl,rfl,rfl⟩)
 intro v2 w2 hA
 obtain ⟨A2,c2,hv,_⟩:=hA.row'.form
 obtain ⟨n2,hn⟩:∃ N,N=(bs (marks nu m) ++ [Value.int .u8 ((m+102) % 256),Value.int .u8 ((m+103) % 256)]).length:=⟨_,rfl⟩
 rw [← hn] at hv
 subst hv
 clear hn
 have I2:=Lib.hid ((I1.out.alloc _).app_u (news:=[(m+102) % 256,(m+103) % 256]) hA (.inl rfl) (by simp))
 clear hA
 go_wp2
 refine HK16.out _ _ ?_
 clear HK16
 refine wp_seq_k (fun K17 hK=>?_)
 have HK17:=Lib.hid hK
 clear hK
 go_wp2_with (at_builtin;refine wpList_app _ rfl _ _ 37 rfl 0 5 i5 (.int .u8 0) 1 Try.underlying37 hj5 hy0 hy1 hy2 rfl (.slice A nu cu) (bs (marks nu m)) rfl ?s1 ⟨w2.heap.size,0,none⟩ 3 3 [.int .u8 ((m+104) % 256),.int .u8 ((m+105) % 256),.int .u8 ((m+106) % 256)] rfl rfl (by decide) ?s2 ?s3 ?s4 ?s5 ?s6 ?_)
 case s1=>exact (I2.out.alloc _).row
 case s4=>rw [bs_length,marks_length];unfold maxLen;omega
 case s5=>rw [bs_length,marks_length];omega
 all_goals try (first|exact Nat.zero_le _|exact new_at w2 [.int .u8 ((m+104) % 256),.int .u8 ((m+105) % 256),.int .u8 ((m+106) % 256)] 5|(intro u hu;simp at hu;rcases hu with rfl|rfl|rfl <;> rfl)|(intro u hu;simp at hu;rcases hu with rfl|rfl <;> rfl)|rfl|exact ⟨rfl,rfl⟩|exact ⟨rfl,rfl,rfl⟩)
 intro v3 w3 hA
 obtain ⟨A3,c3,hv,_⟩:=hA.row'.form
 obtain ⟨n3,hn⟩:∃ N,N=(bs (marks nu m) ++ [Value.int .u8 ((m+104) % 256),Value.int .u8 ((m+105) % 256),Value.int .u8 ((m+106) % 256)]).length:=⟨_,rfl⟩
 rw [← hn] at hv
 subst hv
 clear hn
 have I3:=Lib.hid ((I2.out.alloc _).app_u (news:=[(m+104) % 256,(m+105) % 256,(m+106) % 256]) hA (.inl rfl) (by simp))
 clear hA
 go_wp2
 refine HK17.out _ _ ?_
 clear HK17 c3' a0 hj0 l0 c5' a2 hj2' l2
 have HMG:=Lib.hid (I3.out.mid H.out HG.out HM.out HI.out HUJ.out HAP.out)
 obtain ⟨g2,N2,k2,c5',a2,hj2',l2⟩:=HMG.out.1.marks_cell HMJ.out
 have c1':=HMG.out.1.total_cell
 obtain ⟨K,hK0,hK,hKe⟩:∃ K:Nat,0<K∧K≤3070∧IntKind.i64.wrap ((if 3000<t then 3000 else t)+70)=(K:Int):=by
  refine ⟨((if 3000<t then 3000 else t)+70).toNat,?_,?_,?_⟩
  ·split <;> omega
  ·split <;> omega
  ·have e:IntKind.i64.wrap ((if 3000<t then 3000 else t)+70)=(if 3000<t then 3000 else t)+70:=by
    split <;> exact IntWalk.i64_in _ (by omega)
   rw [e];split <;> omega
 have hK40:K≤4398046511104:=by omega
 refine wp_seq_k (fun K18 hK=>?_)
 have HK18:=Lib.hid hK
 clear hK
 refine Code.wp_mono (Norm.elim ?_) (R18 w3 p t m g2 N2 k2 j K hK0 hK ht0 ht hKe c1' c5' a2 hj2' l2)
 rintro a w4 ⟨bm,e108,e109,e110,e111,e112,e113,e114,e115,e116,e117,e118,e119,e120,e121,e122,rfl,HMO,HC4,HBM⟩
 refine HK18.out _ _ ?_
 clear HK18 c5' a2 hj2' l2 c1' HMG
 have I4:=Lib.hid (I3.out.never HC4.out)
 obtain ⟨more,hmore⟩:∃ l,l=marks K (IntKind.i64.wrap (m+107)):=⟨_,rfl⟩
 have hml:more.length=K:=by rw [hmore,marks_length]
 rw [← hmore] at HMO
 have HML:=Lib.hid hml
 clear hmore hml
 have HB0:=Lib.hid (show ∀ g,Value.ownBlock (.slice A nu cu)=some g→g≠bm from fun g hg e=>by have:=I3.out.row.lt g hg;have:=HBM.out;omega)
 have HBL:=Lib.hid (show bm<w4.heap.size from HMO.out.lt bm rfl)
 clear HBM HC4 I3 I2 I1 I0
 refine wp_seq_k (fun K19 hK=>?_)
 have HK19:=Lib.hid hK
 clear hK
 go_wp2
 refine HK19.out _ _ ?_
 clear HK19
 refine wp_seq_k (fun K20 hK=>?_)
 have HK20:=Lib.hid hK
 clear hK
 go_wp2
 go_loopw [13,14] (fun gV i w5=>∃ (q:Nat) (A4:Option Addr) (n4 c4:Nat),q≤K∧gV=.slice A4 n4 c4∧i=.int .i64 (q:Int)∧Hid (It wS w5 (.slice A nu cu) (marks nu m) ([] ++ [Value.slice A1 n1 c1] ++ [Value.slice A2 n2 c2] ++ [Value.slice A3 n3 c3]) (.slice A4 n4 c4) (more.take q))∧Hid (Row w5 5 (.slice (some ⟨bm,0,none⟩) K K) (bs more))∧Hid (∀ g,Value.ownBlock (.slice A4 n4 c4)=some g→g≠bm)) (fun _ i _=>K - (RowKit.intOf i).toNat)
 case atStart=>exact ⟨0,A,nu,cu,Nat.zero_le _,rfl,rfl,I4,HMO,HB0⟩
 case round =>
  obtain ⟨q,A4,n4,c4,hq,rfl,rfl,hI,hR,hN⟩:=hrel
  by_cases hlt:q<K
  ·have hqm:q<more.length:=by rw [HML.out];exact hlt
   obtain ⟨g',k',e',_,_,at'⟩:=hR.out.at (by rw [bs_length];omega)
   injection e' with e1 e2 e3
   injection e1 with e1
   injection e1 with e1 _
   subst e1
   have cm:=(at' q (by rw [bs_length];exact hqm)).1
   obtain ⟨x,hx⟩:∃ x,x=more[q]'hqm:=⟨_,rfl⟩
   have hbx:(bs more)[q]'(by rw [bs_length];exact hqm)=.int .u8 x:=by simp [bs,hx]
   rw [hbx] at cm
   have HX:=Lib.hid (show more.take (q+1)=more.take q ++ [x] from by rw [List.take_succ_eq_append_getElem hqm,hx])
   clear at' e2 e3 hbx hx hqm
   refine wp_seq_k (fun Kc hK=>?_)
   have HKc:=Lib.hid hK
   clear hK
   go_wp2
   refine HKc.out _ _ ?_
   clear HKc
   go_wp2_with (at_builtin;refine wpList_app _ rfl _ _ 37 rfl 0 5 i5 (.int .u8 0) 1 Try.underlying37 hj5 hy0 hy1 hy2 rfl (.slice A4 n4 c4) (bs (marks nu m ++ more.take q)) rfl ?t1 ⟨wr.heap.size,0,none⟩ 1 1 [.int .u8 x] rfl rfl (by decide) ?t2 ?t3 ?t4 ?t5 ?t6 ?_)
   case t1=>exact (hI.out.alloc _).r4
   case t4=>rw [bs_length,List.length_append,marks_length,List.length_take];unfold maxLen;omega
   case t5=>rw [bs_length,List.length_append,marks_length,List.length_take];omega
   all_goals try (first|exact Nat.zero_le _|exact new_at wr [.int .u8 x] 5|(intro u hu;rw [List.mem_singleton.1 hu];rfl)|rfl)
   intro v5 w6 hA
   obtain ⟨A5,c5,hv,_⟩:=hA.row'.form
   obtain ⟨n5,hn⟩:∃ N,N=(bs (marks nu m ++ more.take q) ++ [Value.int .u8 x]).length:=⟨_,rfl⟩
   rw [← hn] at hv
   subst hv
   clear hn
   have I5:=(hI.out.alloc _).app_4 (news:=[x]) hA
   rw [← HX.out] at I5
   have J5:=Lib.hid I5.1
   have J6:=Lib.hid ((hR.out.alloc (.cells #[.int .u8 x] 5)).ch hA.ch fun g hg e=>by
    simp [Value.ownBlock] at hg
    exact hN.out g e hg.symm)
   have J7:=Lib.hid (show ∀ g,Value.ownBlock (.slice A5 n5 c5)=some g→g≠bm from fun g hg e=>by
    rcases I5.2 g hg with e2|e2
    ·exact hN.out g e2 e
    ·have:=(hR.out.alloc (.cells #[.int .u8 x] 5)).lt bm rfl;omega)
   clear I5 hA
   go_wp2
   go_roundw
   case rel=>exact ⟨q+1,A5,n5,c5,by omega,rfl,by go_num,J5,J6,J7⟩
   case measure=>simp [RowKit.intOf];omega
  ·obtain rfl:q=K:=by omega
   go_wp2
   refine HK20.out _ _ ?_
   clear HK20
   have htk:more.take q=more:=List.take_of_length_le (Nat.le_of_eq HML.out)
   rw [htk] at hI
   clear htk I4 HMO
   refine wp_seq_k (fun K24 hK=>?_)
   have HK24:=Lib.hid hK
   clear hK
   go_wp2_with (at_builtin;refine wpList_app _ rfl _ _ 37 rfl 0 5 i5 (.int .u8 0) 1 Try.underlying37 hj5 hy0 hy1 hy2 rfl (.slice A nu cu) (bs (marks nu m)) rfl ?x1 ⟨bm,0,none⟩ q q (bs more) rfl ?x7 hK0 ?x2 ?x3 ?x4 ?x5 ?x6 ?_)
   case x1=>exact hI.out.row
   case x7=>rw [bs_length];exact HML.out
   case x2=>exact World.ownsRow.cells hR.out rfl
   case x3=>intro u hu;obtain ⟨y,rfl⟩:=int_mem hu;rfl
   case x4=>rw [bs_length,marks_length];unfold maxLen;omega
   case x5=>rw [bs_length,marks_length];omega
   case x6=>exact Nat.zero_le _
   intro v5 w6 hA
   obtain ⟨A5,c5,hv,_⟩:=hA.row'.form
   obtain ⟨n5,hn⟩:∃ N,N=(bs (marks nu m) ++ bs more).length:=⟨_,rfl⟩
   rw [← hn] at hv
   subst hv
   clear hn
   have I7:=Lib.hid (hI.out.app_u (news:=more) hA (.inr rfl) (by rw [HML.out];exact hK))
   have J6:=Lib.hid (hR.out.ch hA.ch fun g hg e=>by
    simp [Value.ownBlock] at hg
    exact HB0.out g e hg.symm)
   clear hA
   go_wp2
   refine HK24.out _ _ ?_
   clear HK24
   have HMG:=I7.out.mid H.out HG.out HM.out HI.out HUJ.out HAP.out
   have st:∀ x,x∈([] ++ [Value.slice A1 n1 c1] ++ [Value.slice A2 n2 c2] ++ [Value.slice A3 n3 c3] ++ [Value.slice A5 n5 c5]:List Value)→Set_ w0 w6 p v ct (j+1) x:=fun x hx =>
    I7.out.set_ H.out HUJ.out HAP.out HFB.out (I7.out.oth x hx).1 (by have:=I7.out.len x hx;rw [marks_length] at this;omega) (I7.out.oth x hx).2
   have s4:Set_ w0 w6 p v ct (j+1) (.slice A4 n4 c4):=I7.out.set_ H.out HUJ.out HAP.out HFB.out ⟨_,I7.out.r4⟩ (by rw [I7.out.r4.sl_,bs_length,List.length_append,marks_length,HML.out];omega) I7.out.b4
   have su:Set_ w0 w6 p v ct (j+1) (.slice A nu cu):=I7.out.set_ H.out HUJ.out HAP.out HFB.out ⟨_,I7.out.row⟩ (by show nu≤_;omega) fun g hg=>.inl hg
   exact B2 w0 w6 p c t v ct v2 ks ws V gs j nu cu n1 c1 n2 c2 n3 c3 n4 c4 n5 c5 bm q m A A1 A2 A3 A4 A5 more HMG.1 HMG.2 HM.out HI.out hj HMJ.out I7.out.row hus hK hK0 J6.out I7.out.r4 su s4 (st _ (by simp)) (st _ (by simp)) (st _ (by simp)) (st _ (by simp)) HKS.out HGS.out hfl HFB.out HQ
end Go.Proofs.Ythmeojeehemlaaa.Bk
end
section
namespace Go.Proofs.Ythmeojeehemlaaa.Bk
open Go.RowKit Go.Proofs.YthmeojeehemlaaaW.PrintWords Go.Proofs.Ythmeojeehemlaaa.Mem Go.Proofs.Ythmeojeehemlaaa.Lnd Go.Proofs.Ythmeojeehemlaaa.PM
attribute [local go_sem] isSome_setCell
theorem T2 (w0 wS:World) (p:Nat) (c t:Int) (v:Fin 5→Value) (ct:Fin 5→List Value) (v':Fin 5→Value) (h:Mid w0 wS p c t v ct v' (ct 3) (ct 4) 0) (hm:(ct 2).length=(ct 0).length) (hi:∀ u∈ct 2,∃ m,u=.int .i64 m)
  (hap:∀ (i j:Nat) (u x:Value) (g:Nat),(ct 0)[i]?=some u→(ct 0)[j]?=some x→i≠j→u.ownBlock=some g→x.ownBlock≠some g) (hsm:∀ u∈ct 0,sl u≤549755813888) (ht0:0≤t) (ht:t≤4398046511104)
  (hks:(ct 3).length≤5600000000000) (hfl:(ct 0).length≤900000) (hfb:∀ g,Fb (ct 0) 0 g→g<w0.heap.size) {y1 y2 y3 y4 y5 y6 y7 y8 y9 y10 y11 y12 y13 y14 y15 y16 y17 y18 y19 y20 y21 y22 y23 y24 y25 y26 y27 y28 y29 y30 y31 y32 y33 y34 y35 y36 y37 y38 y39 y40 y41 y42 y43 y44 y45 y46 y47 y48 y49 y50 y51 y52 y53 y54 y55 y56 y57 y58 y59 y60 y61 y62 y63 y64 y65 y66 y67 y68 y69 y70 y71 y72 y73 y74 y75 y76 y77 y78 y79 y80 y81 y82 y83 y84 y85 y86 y87 y88 y89 y90 y91 y92 y93 y94 y95 y96 y97 y98 y99 y100 y101 y102 y103 y104 y105 y106 y107 y108 y109 y110 y111 y112 y113 y114 y115 y116 y117 y118 y119 y120 y121 y122 y123 y124 y125 y126 y127 y128 y129 y130 y131 y132 y133 y134 y135 y136 y137 y138 y139 y140 y141 y142 y143 y144 y145 y146 y147 y148 y149 y150 y151 y152 y153 y154 y155 y156 y157 y158 y159 y160 y161 y162 y163 y164 y165 y166 y167 y168 y169 y170 y171 y172 y173 y174 y175 y176 y177 y178 y179 y180 y181 y182 y183 y184 y185 y186 y187 y188 y189 y190 y191 y192 y193 y194 y195 y196 y197 y198 y199 y200 y201 y202 y203 y204 y205 y206 y207 y208 y209 y210 y211 y212:Value} :
  Code.wp Try.prog (postC 2 (Try.f53.body.getD .skip)) (bodyPost Try.prog Try.f53 (Done34 w0 p c t v ct)) { tmps:=#[(.pointer (some ⟨p,0,none⟩)),y1,y2,y3,y4,y5,y6,y7,y8,y9,y10,y11,y12,y13,y14,y15,y16,y17,y18,y19,y20,y21,y22,y23,y24,y25,y26,y27,y28,y29,y30,y31,y32,y33,y34,y35,y36,y37,y38,y39,y40,y41,y42,y43,y44,y45,y46,y47,y48,y49,y50,y51,y52,y53,y54,y55,y56,y57,y58,y59,y60,y61,y62,y63,y64,y65,y66,y67,y68,y69,y70,y71,y72,y73,y74,y75,y76,y77,y78,y79,y80,y81,y82,y83,y84,y85,y86,y87,y88,y89,y90,y91,y92,y93,y94,y95,y96,y97,y98,y99,y100,y101,y102,y103,y104,y105,y106,y107,y108,y109,y110,y111,y112,y113,y114,y115,y116,y117,y118,y119,y120,y121,y122,y123,y124,y125,y126,y127,y128,y129,y130,y131,y132,y133,y134,y135,y136,y137,y138,y139,y140,y141,y142,y143,y144,y145,y146,y147,y148,y149,y150,y151,y152,y153,y154,y155,y156,y157,y158,y159,y160,y161,y162,y163,y164,y165,y166,y167,y168,y169,y170,y171,y172,y173,y174,y175,y176,y177,y178,y179,y180,y181,y182,y183,y184,y185,y186,y187,y188,y189,y190,y191,y192,y193,y194,y195,y196,y197,y198,y199,y200,y201,y202,y203,y204,y205,y206,y207,y208,y209,y210,y211,y212],defers:=[] } wS:=by
 obtain ⟨n,hn⟩:∃ n,n=(ct 0).length:=⟨_,rfl⟩
 have HN:=Lib.hid hn
 have H:=Lib.hid h
 have HM:=Lib.hid hm
 have HI:=Lib.hid hi
 have HAP:=Lib.hid hap
 have HSM:=Lib.hid hsm
 have HFB:=Lib.hid hfb
 have HKS:=Lib.hid hks
 have HFL:=Lib.hid hfl
 have HT:=Lib.hid (And.intro ht0 ht)
 have hnl:n≤900000:=by omega
 clear h hm hi hap hsm hfb hn hks hfl ht0 ht
 unfold Try.f53
 dsimp only [Option.getD,postC]
 refine wp_seq_k (fun K9 hK=>?_)
 have HK9:=Lib.hid hK
 clear hK
 go_wp2
 refine HK9.out _ _ ?_
 clear HK9
 refine wp_seq_k (fun K10 hK=>?_)
 have HK10:=Lib.hid hK
 clear hK
 go_wp2
 go_loopw [5,6] (fun V i wr=>∃ (j:Nat) (v2:Fin 5→Value) (ks2 ws2 gs:List Value),j≤n∧i=.int .i64 (j:Int)∧Hid (Mid w0 wr p c t v ct v2 ks2 ws2 j)∧Hid (Gr w0 wr p v ct v2 V gs j)∧Hid (gs.length=4*j∧ks2.length=(ct 3).length+2*j)) (fun _ i _=>n - (RowKit.intOf i).toNat)
 case atStart=>exact ⟨0,v',ct 3,ct 4,[],Nat.zero_le _,rfl,H,Lib.hid ⟨Row.nil _ _,fun g hg=>by simp [Value.ownBlock] at hg,fun x hx=>absurd hx List.not_mem_nil⟩,Lib.hid ⟨rfl,rfl⟩⟩
 case round =>
  obtain ⟨j,v2,ks2,ws2,gs,hj,rfl,hM,hG,hL⟩:=hrel
  obtain ⟨A3,k3,e3,l3⟩:=(hM.out.bk.row 0).form
  have c3':=hM.out.bk.hd.cell 3
  simp only [hdr,List.getElem?_toArray,List.getElem?_cons_zero,List.getElem?_cons_succ] at c3'
  simp only [tw_0] at e3 l3
  rw [← HN.out] at e3 l3
  rw [e3] at c3'
  clear e3
  by_cases hlt:j<n
  ·refine wp_seq_k (fun Kc hK=>?_)
   have HKc:=Lib.hid hK
   clear hK
   go_wp2
   refine HKc.out _ _ ?_
   clear HKc
   refine wp_seq_k (fun Kb hK=>?_)
   have HKb:=Lib.hid hK
   clear hK
   refine wp_block ?_
   refine B1 w0 wr p c t v ct v2 ks2 ws2 _ gs j hM.out hG.out HM.out HI.out (by rw [← HN.out];exact hlt) HAP.out HSM.out HT.out.1 HT.out.2 (by have:=hL.out.2;have:=HKS.out;omega) (by have:=hL.out.1;omega) (by have:=HFL.out;omega) HFB.out (Lib.hid ?_)
   intro wD v3 k1 k2 d1 d2 V' gs' hM2 hG2 hgl
   refine HKb.out _ _ ?_
   have HM2:=Lib.hid hM2
   have HG2:=Lib.hid hG2
   have HGL:=Lib.hid hgl
   clear hM2 hG2 hgl HKb
   go_wp2
   go_roundw
   case rel =>
    exact ⟨j+1,v3,_,_,gs',by omega,by go_num,HM2,HG2,Lib.hid ⟨by have:=HGL.out;have:=hL.out.1;omega,by have:=hL.out.2;simp;omega⟩⟩
   case measure=>simp [RowKit.intOf];omega
  ·obtain rfl:j=n:=by omega
   go_wp2
   refine HK10.out _ _ ?_
   exact T4 w0 wr p c t v ct v2 ks2 ws2 _ gs (HN.out ▸ hM.out) (HN.out ▸ hG.out) HM.out HI.out (by have:=hL.out.1;have:=HN.out;omega) (by have:=hL.out.2;have:=HN.out;omega) (by have:=hL.out.2;have:=HKS.out;omega) (by have:=hL.out.1;omega)
end Go.Proofs.Ythmeojeehemlaaa.Bk
end
section
namespace Go.Proofs.Ythmeojeehemlaaa.Bk
open Go.RowKit Go.Proofs.YthmeojeehemlaaaW.PrintWords Go.Proofs.Ythmeojeehemlaaa.Mem Go.Proofs.Ythmeojeehemlaaa.Lnd Go.Proofs.Ythmeojeehemlaaa.PM
attribute [local go_sem] isSome_setCell
def blockA (b:Code):Code:=inner (left (right (inner (inner (right (left (postC 1 b)))))))
theorem R4 (wr:World) (p:Nat) (m:Int) (A0:Option Addr) (g0 g2 n N2 k0 k2 k nu n0:Nat) (hsm2:nu≤4398046511104)
  (c3:wr.cell? ⟨p,3,none⟩=some (.slice (some ⟨g0,0,none⟩) n k0)) (a0:wr.cell? ⟨g0,k,none⟩=some (.slice A0 nu n0)) (hlt:k<n) (l0:n≤k0)
  (c5:wr.cell? ⟨p,5,none⟩=some (.slice (some ⟨g2,0,none⟩) N2 k2)) (a2:wr.cell? ⟨g2,k,none⟩=some (.int .i64 m)) (hj2:k<N2) (l2:N2≤k2) {y1 y3 y4 y5 y6 y7 y8 y9 y10 y11 y12 y13 y14 y15 y16 y17 y18 y19 y20 y21 y22 y23 y24 y25 y26 y27 y28 y29 y30 y31 y32 y33 y34 y35 y36 y37 y38 y39 y40 y41 y42 y43 y44 y45 y46 y47 y48 y49 y50 y51 y52 y53 y54 y55 y56 y57 y58 y59 y60 y61 y62 y63 y64 y65 y66 y67 y68 y69 y70 y71 y72 y73 y74 y75 y76 y77 y78 y79 y80 y81 y82 y83 y84 y85 y86 y87 y88 y89 y90 y91 y92 y93 y94 y95 y96 y97 y98 y99 y100 y101 y102 y103 y104 y105 y106 y107 y108 y109 y110 y111 y112 y113 y114 y115 y116 y117 y118 y119 y120 y121 y122 y123 y124 y125 y126 y127 y128 y129 y130 y131 y132 y133 y134 y135 y136 y137 y138 y139 y140 y141 y142 y143 y144 y145 y146 y147 y148 y149 y150 y151 y152 y153 y154 y155 y156 y157 y158 y159 y160 y161 y162 y163 y164 y165 y166 y167 y168 y169 y170 y171 y172 y173 y174 y175 y176 y177 y178 y179 y180 y181 y182 y183 y184 y185 y186 y187 y188 y189 y190 y191 y192 y193 y194 y195 y196 y197 y198 y199 y200 y201 y202 y203 y204 y205 y206 y207 y208 y209 y210 y211 y212:Value} :
  Code.wp Try.prog (left (blockA (Try.f53.body.getD .skip))) (Norm fun a W=>∃ (bm:Nat) (e28 e29 e30 e31 e32 e33 e34 e35 e36 e37 e38 e39 e40 e41 e42 e43:Value),a={ tmps:=#[(.pointer (some ⟨p,0,none⟩)),y1,(.int .i64 (k:Int)),(.slice (some ⟨bm,0,none⟩) nu nu),y4,y5,y6,y7,y8,y9,y10,y11,y12,y13,y14,y15,y16,y17,y18,y19,y20,y21,y22,y23,y24,y25,y26,y27,e28,e29,e30,e31,e32,e33,e34,e35,e36,e37,e38,e39,e40,e41,e42,e43,y44,y45,y46,y47,y48,y49,y50,y51,y52,y53,y54,y55,y56,y57,y58,y59,y60,y61,y62,y63,y64,y65,y66,y67,y68,y69,y70,y71,y72,y73,y74,y75,y76,y77,y78,y79,y80,y81,y82,y83,y84,y85,y86,y87,y88,y89,y90,y91,y92,y93,y94,y95,y96,y97,y98,y99,y100,y101,y102,y103,y104,y105,y106,y107,y108,y109,y110,y111,y112,y113,y114,y115,y116,y117,y118,y119,y120,y121,y122,y123,y124,y125,y126,y127,y128,y129,y130,y131,y132,y133,y134,y135,y136,y137,y138,y139,y140,y141,y142,y143,y144,y145,y146,y147,y148,y149,y150,y151,y152,y153,y154,y155,y156,y157,y158,y159,y160,y161,y162,y163,y164,y165,y166,y167,y168,y169,y170,y171,y172,y173,y174,y175,y176,y177,y178,y179,y180,y181,y182,y183,y184,y185,y186,y187,y188,y189,y190,y191,y192,y193,y194,y195,y196,y197,y198,y199,y200,y201,y202,y203,y204,y205,y206,y207,y208,y209,y210,y211,y212],defers:=[] }∧Hid (Blk W bm 5 (ints (marks nu m)))∧Hid (Ch wr W Never)∧Hid (bm=wr.heap.size)) { tmps:=#[(.pointer (some ⟨p,0,none⟩)),y1,(.int .i64 (k:Int)),y3,y4,y5,y6,y7,y8,y9,y10,y11,y12,y13,y14,y15,y16,y17,y18,y19,y20,y21,y22,y23,y24,y25,y26,y27,y28,y29,y30,y31,y32,y33,y34,y35,y36,y37,y38,y39,y40,y41,y42,y43,y44,y45,y46,y47,y48,y49,y50,y51,y52,y53,y54,y55,y56,y57,y58,y59,y60,y61,y62,y63,y64,y65,y66,y67,y68,y69,y70,y71,y72,y73,y74,y75,y76,y77,y78,y79,y80,y81,y82,y83,y84,y85,y86,y87,y88,y89,y90,y91,y92,y93,y94,y95,y96,y97,y98,y99,y100,y101,y102,y103,y104,y105,y106,y107,y108,y109,y110,y111,y112,y113,y114,y115,y116,y117,y118,y119,y120,y121,y122,y123,y124,y125,y126,y127,y128,y129,y130,y131,y132,y133,y134,y135,y136,y137,y138,y139,y140,y141,y142,y143,y144,y145,y146,y147,y148,y149,y150,y151,y152,y153,y154,y155,y156,y157,y158,y159,y160,y161,y162,y163,y164,y165,y166,y167,y168,y169,y170,y171,y172,y173,y174,y175,y176,y177,y178,y179,y180,y181,y182,y183,y184,y185,y186,y187,y188,y189,y190,y191,y192,y193,y194,y195,y196,y197,y198,y199,y200,y201,y202,y203,y204,y205,y206,y207,y208,y209,y210,y211,y212],defers:=[] } wr:=by
 unfold Try.f53
 dsimp only [Option.getD,postC,blockA,left,right,inner]
 go_region_with (go_at_call 78;refine (marked_ _ nu m hsm2).mono ?_;rintro e w2 ⟨rfl,hb,hc⟩;have HMB:=Lib.hid hb;have HMC:=Lib.hid (((Ch.refl wr Never).drew).trans hc fun _ h=>h.elim);clear hb hc)
 all_goals
  refine Norm.mk ?_
  exact ⟨_,_,_,_,_,_,_,_,_,_,_,_,_,_,_,_,_,rfl,HMB,HMC,Lib.hid rfl⟩
end Go.Proofs.Ythmeojeehemlaaa.Bk
end
section
namespace Go.Proofs.Ythmeojeehemlaaa.Bk
open Go.RowKit Go.Proofs.YthmeojeehemlaaaW.PrintWords Go.Proofs.Ythmeojeehemlaaa.Mem Go.Proofs.Ythmeojeehemlaaa.Lnd Go.Proofs.Ythmeojeehemlaaa.PM
attribute [local go_sem] isSome_setCell
structure Fill (w0 wr:World) (ct:Fin 5→List Value) (k:Nat):Prop where
 ch:Ch w0 wr (Fb (ct 0) 0)
 all:∀ (j:Nat) (u:Value) (m:Int),(ct 0)[j]?=some u→(ct 2)[j]?=some (.int .i64 m)→(∃ xs,Row wr 5 u (bs xs))∧(j<k→Row wr 5 u (bs (marks (sl u) m)))
theorem Book.row0 {w:World} {p:Nat} {c t:Int} {v:Fin 5→Value} {ct:Fin 5→List Value} (h:Book w p c t v ct) {j:Nat} {u:Value} (hu:(ct 0)[j]?=some u):∃ xs,Row w 5 u (bs xs):=h.fh.rows (.inl (List.mem_of_getElem? hu))
theorem Book.fbl {w:World} {p:Nat} {c t:Int} {v:Fin 5→Value} {ct:Fin 5→List Value} (h:Book w p c t v ct):∀ g,Fb (ct 0) 0 g→g<w.heap.size:=fun g ⟨j,u,_,hu,hg⟩=>by
 obtain ⟨xs,hr⟩:=h.row0 hu
 exact hr.lt g hg
theorem Fill.bk {w0 wr:World} {p:Nat} {c t:Int} {v:Fin 5→Value} {ct:Fin 5→List Value} {k:Nat} (h:Fill w0 wr ct k) (hb:Book w0 p c t v ct):Bk wr p c t v ct:=
 hb.bk.ch h.ch fun g ho ⟨j,u,_,hu,hg⟩=>by
  obtain ⟨xs,hr⟩:=hb.row0 hu
  exact hb.bk.sep hr hg ho
theorem Fill.mid {w0 wr:World} {p:Nat} {c t:Int} {v:Fin 5→Value} {ct:Fin 5→List Value} (h:Fill w0 wr ct (ct 0).length) (hb:Book w0 p c t v ct):Mid w0 wr p c t v ct v (ct 3) (ct 4) 0:=by
 have fb:∀ (l:List Value) u g,u∈l→u.ownBlock=some g→Fb l 0 g:=fun l u g hu hg=>by
  obtain ⟨i,hi⟩:=mem_at hu
  exact ⟨i,u,Nat.zero_le _,hi,hg⟩
 refine ⟨h.ch.mono fun g hg=>.inr hg,by rw [tw_self];exact h.bk hb,fun g hg=>.inl hg,hb.kw.ch h.ch fun u hu g hg e=>?_,fun u hu g hg=>?_,fun j u m _ hu hm=>(h.all j u m hu hm).2 (List.getElem?_eq_some_iff.1 hu).1⟩
 ·rcases hu with hu|hu
  ·exact (hb.far g e).2.1 (fb _ u g hu hg)
  ·exact (hb.far g e).2.2 (fb _ u g hu hg)
 ·rcases hu with hu|hu
  ·exact ⟨fun e=>(hb.far g e).2.1 (fb _ u g hu hg),.inl (.inr (.inr (.inr (.inl (fb _ u g hu hg)))))⟩
  ·exact ⟨fun e=>(hb.far g e).2.2 (fb _ u g hu hg),.inl (.inr (.inr (.inr (.inr (fb _ u g hu hg)))))⟩
theorem Fill.next {w0 w1 w2:World} {ct:Fin 5→List Value} {k:Nat} {u:Value} {m:Int} (h:Fill w0 w1 ct k) (hu:(ct 0)[k]?=some u) (hm:(ct 2)[k]?=some (.int .i64 m)) (hc:Ch w1 w2 (fun g=>u.ownBlock=some g)) (hr:Row w2 5 u (bs (marks (sl u) m)))
  (hap:∀ (i j:Nat) (u x:Value) (g:Nat),(ct 0)[i]?=some u→(ct 0)[j]?=some x→i≠j→u.ownBlock=some g→x.ownBlock≠some g):Fill w0 w2 ct (k+1):=by
 refine ⟨h.ch.trans hc fun g hg=>.inl ⟨k,u,Nat.zero_le _,hu,hg⟩,fun j x q hx hq=>?_⟩
 by_cases hjk:j=k
 ·subst hjk
  rw [hu] at hx
  obtain rfl:=Option.some.inj hx
  rw [hm] at hq
  injection hq with hq
  injection hq with _ hq
  subst hq
  exact ⟨⟨_,hr⟩,fun _=>hr⟩
 ·have far:∀ g,x.ownBlock=some g→¬ u.ownBlock=some g:=fun g hg e=>hap k j u x g hu hx (fun e=>hjk e.symm) e hg
  obtain ⟨⟨xs,h1⟩,h2⟩:=h.all j x q hx hq
  exact ⟨⟨xs,h1.ch hc far⟩,fun hj=>(h2 (by omega)).ch hc far⟩
theorem Fill.never {w0 w1 w2:World} {ct:Fin 5→List Value} {k:Nat} (h:Fill w0 w1 ct k) (hc:Ch w1 w2 Never):Fill w0 w2 ct k:=
 ⟨h.ch.trans hc fun _ h=>h.elim,fun j x q hx hq=>⟨(h.all j x q hx hq).1.imp fun xs hr=>hr.ch hc fun _ _ h=>h,fun hj=>((h.all j x q hx hq).2 hj).ch hc fun _ _ h=>h⟩⟩
theorem Bk.fresh_at {w:World} {p:Nat} {c t:Int} {v:Fin 5→Value} {ct:Fin 5→List Value} (h:Bk w p c t v ct) {j:Nat} {u:Value} (hm:(ct 0)[j]?=some u):∃ g2 k2,w.cell? ⟨p,3,none⟩=some (.slice (some ⟨g2,0,none⟩) (ct 0).length k2)∧w.cell? ⟨g2,j,none⟩=some u∧(ct 0).length≤k2:=by
 obtain ⟨hj,he⟩:=List.getElem?_eq_some_iff.1 hm
 obtain ⟨g2,k2,e2,l2,m2,a2⟩:=(h.row 0).at (by omega)
 obtain ⟨a2,_⟩:=a2 j hj
 rw [he] at a2
 have c5':=h.hd.cell 3
 simp only [hdr,List.getElem?_toArray,List.getElem?_cons_zero,List.getElem?_cons_succ] at c5'
 rw [e2] at c5'
 exact ⟨g2,k2,c5',a2,l2⟩
theorem Bk.marks_at {w:World} {p:Nat} {c t:Int} {v:Fin 5→Value} {ct:Fin 5→List Value} (h:Bk w p c t v ct) {j:Nat} {u:Value} (hm:(ct 2)[j]?=some u):∃ g2 N k2,w.cell? ⟨p,5,none⟩=some (.slice (some ⟨g2,0,none⟩) N k2)∧w.cell? ⟨g2,j,none⟩=some u∧j<N∧N≤k2:=by
 obtain ⟨hj,he⟩:=List.getElem?_eq_some_iff.1 hm
 obtain ⟨g2,k2,e2,l2,m2,a2⟩:=(h.row 2).at (by omega)
 obtain ⟨a2,_⟩:=a2 j hj
 rw [he] at a2
 have c5':=h.hd.cell 5
 simp only [hdr,List.getElem?_toArray,List.getElem?_cons_zero,List.getElem?_cons_succ] at c5'
 rw [e2] at c5'
 exact ⟨g2,_,k2,c5',a2,hj,l2⟩
theorem T1 (w0 w1:World) (p:Nat) (c t:Int) (v:Fin 5→Value) (ct:Fin 5→List Value) (h:Book w0 p c t v ct) (hc:Ch w0 w1 Never) (ht0:0≤t) (ht:t≤4398046511104) (hs0:(ct 0).length≤900000) (hs:(ct 3).length≤5600000000000) {y1 y2 y3 y4 y5 y6 y7 y8 y9 y10 y11 y12 y13 y14 y15 y16 y17 y18 y19 y20 y21 y22 y23 y24 y25 y26 y27 y28 y29 y30 y31 y32 y33 y34 y35 y36 y37 y38 y39 y40 y41 y42 y43 y44 y45 y46 y47 y48 y49 y50 y51 y52 y53 y54 y55 y56 y57 y58 y59 y60 y61 y62 y63 y64 y65 y66 y67 y68 y69 y70 y71 y72 y73 y74 y75 y76 y77 y78 y79 y80 y81 y82 y83 y84 y85 y86 y87 y88 y89 y90 y91 y92 y93 y94 y95 y96 y97 y98 y99 y100 y101 y102 y103 y104 y105 y106 y107 y108 y109 y110 y111 y112 y113 y114 y115 y116 y117 y118 y119 y120 y121 y122 y123 y124 y125 y126 y127 y128 y129 y130 y131 y132 y133 y134 y135 y136 y137 y138 y139 y140 y141 y142 y143 y144 y145 y146 y147 y148 y149 y150 y151 y152 y153 y154 y155 y156 y157 y158 y159 y160 y161 y162 y163 y164 y165 y166 y167 y168 y169 y170 y171 y172 y173 y174 y175 y176 y177 y178 y179 y180 y181 y182 y183 y184 y185 y186 y187 y188 y189 y190 y191 y192 y193 y194 y195 y196 y197 y198 y199 y200 y201 y202 y203 y204 y205 y206 y207 y208 y209 y210 y211 y212:Value} :
  Code.wp Try.prog (postC 1 (Try.f53.body.getD .skip)) (bodyPost Try.prog Try.f53 (Done34 w0 p c t v ct)) { tmps:=#[(.pointer (some ⟨p,0,none⟩)),y1,y2,y3,y4,y5,y6,y7,y8,y9,y10,y11,y12,y13,y14,y15,y16,y17,y18,y19,y20,y21,y22,y23,y24,y25,y26,y27,y28,y29,y30,y31,y32,y33,y34,y35,y36,y37,y38,y39,y40,y41,y42,y43,y44,y45,y46,y47,y48,y49,y50,y51,y52,y53,y54,y55,y56,y57,y58,y59,y60,y61,y62,y63,y64,y65,y66,y67,y68,y69,y70,y71,y72,y73,y74,y75,y76,y77,y78,y79,y80,y81,y82,y83,y84,y85,y86,y87,y88,y89,y90,y91,y92,y93,y94,y95,y96,y97,y98,y99,y100,y101,y102,y103,y104,y105,y106,y107,y108,y109,y110,y111,y112,y113,y114,y115,y116,y117,y118,y119,y120,y121,y122,y123,y124,y125,y126,y127,y128,y129,y130,y131,y132,y133,y134,y135,y136,y137,y138,y139,y140,y141,y142,y143,y144,y145,y146,y147,y148,y149,y150,y151,y152,y153,y154,y155,y156,y157,y158,y159,y160,y161,y162,y163,y164,y165,y166,y167,y168,y169,y170,y171,y172,y173,y174,y175,y176,y177,y178,y179,y180,y181,y182,y183,y184,y185,y186,y187,y188,y189,y190,y191,y192,y193,y194,y195,y196,y197,y198,y199,y200,y201,y202,y203,y204,y205,y206,y207,y208,y209,y210,y211,y212],defers:=[] } w1:=by
 have HB:=Lib.hid h
 have HF0:=Lib.hid (show Fill w0 w1 ct 0 from ⟨hc.mono fun _ h=>h.elim,fun j u m hu hm=>⟨(h.row0 hu).imp fun xs hr=>hr.ch hc fun _ _ h=>h,fun h=>absurd h (Nat.not_lt_zero _)⟩⟩)
 have HS:=Lib.hid (And.intro hs0 hs)
 have HT:=Lib.hid (And.intro ht0 ht)
 obtain ⟨n,hn⟩:∃ n,n=(ct 0).length:=⟨_,rfl⟩
 have HN:=Lib.hid hn
 rw [← hn] at hs0
 clear h hc hn hs ht0 ht
 unfold Try.f53
 dsimp only [Option.getD,postC]
 refine wp_seq_k (fun K1 hK=>?_)
 have HK1:=Lib.hid hK
 clear hK
 go_wp2
 go_loopw [2] (fun i wr=>∃ (k:Nat),k≤n∧i=.int .i64 (k:Int)∧Hid (Fill w0 wr ct k)) (fun i _=>n - (RowKit.intOf i).toNat)
 case atStart=>exact ⟨0,Nat.zero_le _,rfl,HF0⟩
 case round =>
  obtain ⟨k,hk,rfl,hF⟩:=hrel
  have HBk:=Lib.hid (hF.out.bk HB.out)
  by_cases hlt:k<n
  ·have hl0:k<(ct 0).length:=by rw [← HN.out];exact hlt
   have hl2:k<(ct 2).length:=by rw [HB.out.mlen];exact hl0
   obtain ⟨m,hm⟩:=HB.out.mint _ (List.getElem_mem hl2)
   obtain ⟨u,hu⟩:∃ x,x=(ct 0)[k]'hl0:=⟨_,rfl⟩
   have HU0:=Lib.hid (show (ct 0)[k]?=some u from by rw [hu];exact List.getElem?_eq_getElem hl0)
   have HM0:=Lib.hid (show (ct 2)[k]?=some (.int .i64 m) from by rw [← hm];exact List.getElem?_eq_getElem hl2)
   obtain ⟨⟨xs,r0⟩,_⟩:=hF.out.all k u m HU0.out HM0.out
   obtain ⟨A0,n0,hv0,hc0⟩:=r0.form
   obtain ⟨nu,hnu⟩:∃ m,m=(bs xs).length:=⟨_,rfl⟩
   rw [← hnu] at hv0
   subst hv0
   have HR0:=Lib.hid r0
   have HNU:=Lib.hid hnu
   have hsm:nu≤549755813888:=HB.out.small _ (List.mem_of_getElem? HU0.out)
   have hsm2:nu≤4398046511104:=by omega
   obtain ⟨g0,k0,c3,a0,l0⟩:=HBk.out.fresh_at HU0.out
   obtain ⟨g2,N2,k2,c5,a2,hj2,l2⟩:=HBk.out.marks_at HM0.out
   rw [← HN.out] at c3 l0
   clear r0 hc0 hnu hu hm hl0 hl2
   refine wp_seq_k (fun Kc hK=>?_)
   have HKc:=Lib.hid hK
   clear hK
   go_wp2
   refine HKc.out _ _ ?_
   clear HKc
   refine wp_seq_k (fun Kb hK=>?_)
   have HKb:=Lib.hid hK
   clear hK
   refine wp_block ?_
   refine wp_seq_k (fun K4 hK=>?_)
   have HK4:=Lib.hid hK
   clear hK
   refine Code.wp_mono (Norm.elim ?_) (R4 wr p m A0 g0 g2 n N2 k0 k2 k nu n0 hsm2 c3 a0 hlt l0 c5 a2 hj2 l2)
   rintro a w2 ⟨bm,e28,e29,e30,e31,e32,e33,e34,e35,e36,e37,e38,e39,e40,e41,e42,e43,rfl,HMB,HMC,HBM⟩
   refine HK4.out _ _ ?_
   clear HK4 c3 a0 c5 a2
   have HF2:=Lib.hid (hF.out.never HMC.out)
   have HRU:=Lib.hid (HR0.out.ch HMC.out fun _ _ h=>h)
   have HUB:=Lib.hid (show ∀ g,Value.ownBlock (.slice A0 nu n0)=some g→g≠bm from fun g hg e=>by have:=HR0.out.lt g hg;have:=HBM.out;omega)
   have HB2:=Lib.hid (HF2.out.bk HB.out)
   have HXL:=Lib.hid (show xs.length=nu from by have:=HNU.out;rw [bs_length] at this;exact this.symm)
   clear hF HR0 HMC HBM HBk
   go_wp2
   go_loopw [4] (fun i wr=>∃ (q:Nat) (zs:List Int),q≤nu∧i=.int .i64 (q:Int)∧Hid (zs.length=nu)∧Hid (zs.take q=(marks nu m).take q)∧Hid (Row wr 5 (.slice A0 nu n0) (bs zs))∧Hid (Ch w2 wr (fun g=>Value.ownBlock (.slice A0 nu n0)=some g))) (fun i _=>nu - (RowKit.intOf i).toNat)
   case atStart=>exact ⟨0,xs,Nat.zero_le _,rfl,HXL,Lib.hid rfl,HRU,Lib.hid (Ch.refl _ _)⟩
   case round =>
    obtain ⟨q,zs,hq,rfl,hzl,hzt,hzr,hzc⟩:=hrel
    by_cases hqn:q<nu
    ·have hqz:q<zs.length:=by rw [hzl.out];exact hqn
     obtain ⟨g',k',e',l',_,at'⟩:=hzr.out.at (by rw [bs_length];omega)
     injection e' with e1 e2 e3
     subst e1;subst e3
     obtain ⟨b0,b1⟩:=at' q (by rw [bs_length];exact hqz)
     rw [show (bs zs)[q]'(by rw [bs_length];exact hqz)=.int .u8 zs[q] from by simp [bs]] at b0
     have HBq:=Lib.hid (HB2.out.ch hzc.out fun g ho e=>HB2.out.sep HRU.out e ho)
     obtain ⟨g0',k0',c3',a0',l0'⟩:=HBq.out.fresh_at HU0.out
     rw [← HN.out] at c3' l0'
     have cm:=(hzc.out.blk HMB.out fun e=>HUB.out _ e rfl).cell q
     have hmq:=marks_at nu m q hqn
     rw [ints_at (marks nu m) q (by rw [marks_length];exact hqn)] at cm
     obtain ⟨x,hx⟩:∃ x,x=(marks nu m)[q]'(by rw [marks_length];exact hqn):=⟨_,rfl⟩
     rw [← hx] at cm
     have HX:=Lib.hid (show (marks nu m)[q]?=some x from by rw [hx];exact List.getElem?_eq_getElem _)
     have HS2:=Lib.hid (show Row (wr.setCell ⟨g',q,none⟩ (.int .u8 x)) 5 (.slice (some ⟨g',0,none⟩) nu n0) (bs (zs.set q x)) from by rw [← bs_set];exact hzr.out.set_ q _ (by rw [bs_length];exact hqz))
     have HC2:=Lib.hid (hzc.out.set_ ⟨g',q,none⟩ (.int .u8 x) (.inl rfl))
     have l2':nu≤n0:=by rw [bs_length,hzl.out] at l';exact l'
     clear at' e2 hmq hx l'
     go_wp2
     go_region
     all_goals
      go_wp2
      go_roundw
      case rel=>exact ⟨q+1,zs.set q x,by omega,by go_num,Lib.hid (by rw [List.length_set];exact hzl.out),Lib.hid (take_set zs (marks nu m) q x (by rw [hzl.out];exact hqn) hzt.out HX.out),Lib.hid HS2.out.drew,Lib.hid HC2.out.drew⟩
      case measure=>simp [RowKit.intOf];omega
    ·obtain rfl:q=nu:=by omega
     go_wp2
     refine HKb.out _ _ ?_
     have hz:zs=marks q m:=by
      have h:=hzt.out
      rw [List.take_of_length_le (Nat.le_of_eq hzl.out),List.take_of_length_le (Nat.le_of_eq (marks_length _ _))] at h
      exact h
     have HN2:=Lib.hid (HF2.out.next HU0.out HM0.out hzc.out (hz ▸ hzr.out) HB.out.apart)
     clear hz
     go_wp2
     go_roundw
     case rel=>exact ⟨k+1,by omega,by go_num,HN2⟩
     case measure=>simp [RowKit.intOf];omega
  ·obtain rfl:k=n:=by omega
   obtain ⟨A3,k3,e3,l3⟩:=(HBk.out.row 0).form
   have c3':=HBk.out.hd.cell 3
   simp only [hdr,List.getElem?_toArray,List.getElem?_cons_zero,List.getElem?_cons_succ] at c3'
   rw [← HN.out] at e3 l3
   rw [e3] at c3'
   clear e3
   go_wp2
   refine HK1.out _ _ ?_
   exact T2 w0 wr p c t v ct v (Fill.mid (HN.out ▸ hF.out) HB.out) HB.out.mlen HB.out.mint HB.out.apart HB.out.small HT.out.1 HT.out.2 HS.out.2 HS.out.1 HB.out.fbl
end Go.Proofs.Ythmeojeehemlaaa.Bk
end
section
namespace Go.Proofs.Ythmeojeehemlaaa.Bk
open Go.RowKit Go.Proofs.YthmeojeehemlaaaW.PrintWords Go.Proofs.Ythmeojeehemlaaa.Mem Go.Proofs.Ythmeojeehemlaaa.Lnd Go.Proofs.Ythmeojeehemlaaa.PM
attribute [local go_sem] isSome_setCell
theorem write_ (w:World) (p:Nat) (c t:Int) (v:Fin 5→Value) (ct:Fin 5→List Value) (h:Book w p c t v ct) (ht0:0≤t) (ht:t≤4398046511104) (hs0:(ct 0).length≤900000) (hs:(ct 3).length≤5600000000000) :
  Calls Try.prog 53 #[.pointer (some ⟨p,0,none⟩)] w (Done34 w p c t v ct):=by
 have HB:=Lib.hid h
 have HU:=Lib.hid (untouched_ w p c t v ct h.bk h.fh (by omega))
 clear h
 go_enter Try.func53,Try.ntmps53
 refine wp_seq_k (fun K0 hK=>?_)
 have HK0:=Lib.hid hK
 clear hK
 go_wp2_with (go_at_call 54;refine HU.out.mono ?_;rintro e w1 ⟨rfl,hc⟩;have HC:=Lib.hid hc;clear hc)
 refine HK0.out _ _ ?_
 exact T1 w w1 p c t v ct HB.out HC.out ht0 ht hs0 hs
#print axioms write_
end Go.Proofs.Ythmeojeehemlaaa.Bk
end
section
namespace Go.Proofs.Ythmeojeehemlaaa.Bk
open Go.RowKit Go.Proofs.YthmeojeehemlaaaW.PrintWords Go.Proofs.Ythmeojeehemlaaa.Mem Go.Proofs.Ythmeojeehemlaaa.Lnd Go.Proofs.Ythmeojeehemlaaa.PM
attribute [local go_sem] isSome_setCell
theorem Bk.head {w:World} {p:Nat} {c t c' t':Int} {v:Fin 5→Value} {ct:Fin 5→List Value} (h:Bk w p c t v ct) (k:Nat) (x:Value) (hk:(hdr c t v).setIfInBounds k x=hdr c' t' v) :
  Bk (w.setCell ⟨p,k,none⟩ x) p c' t' v ct∧Ch w (w.setCell ⟨p,k,none⟩ x) (fun g=>g=p):=by
 have hc:Ch w (w.setCell ⟨p,k,none⟩ x) (fun g=>g=p):=(Ch.refl w _).set_ _ _ (.inl rfl)
 refine ⟨⟨?_,fun i=>(h.row i).ch hc fun g hg e=>h.off i (e ▸ hg),h.apart⟩,hc⟩
 rw [← hk]
 exact h.hd.set_ _ _
theorem Bk.count {w:World} {p:Nat} {c t:Int} {v:Fin 5→Value} {ct:Fin 5→List Value} (h:Bk w p c t v ct) (c':Int) :
  Bk (w.setCell ⟨p,0,none⟩ (.int .i64 c')) p c' t v ct∧Ch w (w.setCell ⟨p,0,none⟩ (.int .i64 c')) (fun g=>g=p):=h.head 0 _ rfl
theorem Bk.total {w:World} {p:Nat} {c t:Int} {v:Fin 5→Value} {ct:Fin 5→List Value} (h:Bk w p c t v ct) (t':Int) :
  Bk (w.setCell ⟨p,1,none⟩ (.int .i64 t')) p c t' v ct∧Ch w (w.setCell ⟨p,1,none⟩ (.int .i64 t')) (fun g=>g=p):=h.head 1 _ rfl
theorem Done34.book {w0 w':World} {p:Nat} {c t:Int} {v:Fin 5→Value} {ct:Fin 5→List Value} {e:Ending} (h:Done34 w0 p c t v ct e w') :
  e=.returned (.tuple #[])∧∃ v' ks ws,Book w' p c t v' (un ks ws)∧ks.length=(ct 3).length+6*(ct 0).length∧Ch w0 w' (Wr p v ct)∧∀ g,Foot p v' (un ks ws) g→Foot p v ct g∨w0.heap.size≤g:=by
 obtain ⟨he,v',ks,ws,hb,hp,hl,hc,hf⟩:=h
 have none_:∀ k g,¬ Fb (un ks ws 0) k g:=fun k g ⟨j,u,_,hu,_⟩=>by simp [un] at hu
 refine ⟨he,v',ks,ws,⟨hb,⟨rfl,fun i l d hl _=>by simp [un] at hl⟩,hp,rfl,fun u hu=>by simp [un] at hu,fun i j u x g hu=>by simp [un] at hu,fun g hg=>absurd hg (none_ 0 g),fun u hu=>by simp [un] at hu⟩,hl,hc,hf⟩
theorem Book.new {w:World} {p:Nat} (h:Blk w p 55 #[.int .i64 0,.int .i64 0,.bool false,.slice none 0 0,.slice none 0 0,.slice none 0 0,.slice none 0 0,.slice none 0 0]):Book w p 0 0 (fun _=>.slice none 0 0) (fun _=>[]):=by
 refine ⟨⟨h,fun i=>Row.nil _ _,fun i j _ g hg=>by simp [Value.ownBlock] at hg⟩,⟨rfl,fun i l d hl _=>by simp at hl⟩,⟨rfl,fun i l d hl _=>by simp at hl⟩,rfl,fun u hu=>by simp at hu,fun i j u x g hu=>by simp at hu,fun g hg=>?_,fun u hu=>by simp at hu⟩
 obtain ⟨j,u,_,hu,_⟩:=hg
 simp at hu
end Go.Proofs.Ythmeojeehemlaaa.Bk
end
section
namespace Go.Proofs.Ythmeojeehemlaaa.Bk
open Go.RowKit Go.Proofs.YthmeojeehemlaaaW.PrintWords Go.Proofs.Ythmeojeehemlaaa.Mem Go.Proofs.Ythmeojeehemlaaa.Lnd Go.Proofs.Ythmeojeehemlaaa.PM
attribute [local go_sem] isSome_setCell
structure Stp (w w':World) (p:Nat) (v v':Fin 5→Value):Prop where
 ch:Ch w w' (Own p v)
 own:∀ g,Own p v' g→Own p v g∨w.heap.size≤g
theorem Stp.trans {w w' w2:World} {p:Nat} {v v' v2:Fin 5→Value} (h:Stp w w' p v v') (h':Stp w' w2 p v' v2):Stp w w2 p v v2:=
 ⟨h.ch.trans h'.ch h.own,fun g hg=>(h'.own g hg).elim (h.own g) fun h2=>.inr (Nat.le_trans h.ch.size h2)⟩
theorem Stp.of {w w1 w2:World} {p:Nat} {v v':Fin 5→Value} (h:Ch w w1 Never) (hc:Ch w1 w2 (Own p v)) (ho:∀ g,Own p v' g→Own p v g∨w1.heap.size≤g):Stp w w2 p v v':=
 ⟨(h.mono (S':=Own p v) fun _ h=>h.elim).trans hc fun _ h=>.inl h,fun g hg=>(ho g hg).imp id fun h2=>Nat.le_trans h.size h2⟩
theorem Bk.drew {w:World} {p:Nat} {c t:Int} {v:Fin 5→Value} {ct:Fin 5→List Value} (h:Bk w p c t v ct):Bk w.drew p c t v ct:=⟨h.hd,h.row,h.apart⟩
theorem info39:∃ i,Try.prog.info? 53=some i∧i.zero=some (.slice none 0 0)∧i.size=1∧i.bytes=24:=info_parts (by kernel_rfl)
theorem O3 (W:World) (p:Nat) (c t:Int) (v:Fin 5→Value) (ct:Fin 5→List Value) (h:Bk W p c t v ct) (A:Option Addr) (n cl:Nat) (xs:List Int) (hl:Row W 5 (.slice A n cl) (bs xs)) (hn:n≤549755813888) (h1:(ct 1).length≤1000000) {y2 y3 y4 y5 y6 y7 y8 y9 y10 y11 y12 y13 y14 y15 y16 y17 y18 y19 y20 y21 y22 y23 y24 y25 y26 y27 y28 y29 y30 y31 y32 y33 y34 y35 y36 y37 y38 y39 y40 y41 y42 y43 y44 y45 y46 y47 y48 y49 y50 y51 y52 y53 y54 y55 y56 y57 y58 y59 y60 y61 y62 y63 y64 y65 y66 y67 y68 y69 y70 y71 y72 y73 y74 y75 y76 y77 y78 y79 y80 y81 y82 y83:Value} :
  Code.wp Try.prog (left (postC 3 (Try.f17.body.getD .skip))) (Norm fun a w'=>∃ (e33 e34 e35 e36 e37 e38 e39 e40 e41 e42 e43:Value),a={ tmps:=#[(.pointer (some ⟨p,0,none⟩)),(.slice A n cl),y2,y3,y4,y5,y6,y7,y8,y9,y10,y11,y12,y13,y14,y15,y16,y17,y18,y19,y20,y21,y22,y23,y24,y25,y26,y27,y28,y29,y30,y31,y32,e33,e34,e35,e36,e37,e38,e39,e40,e41,e42,e43,y44,y45,y46,y47,y48,y49,y50,y51,y52,y53,y54,y55,y56,y57,y58,y59,y60,y61,y62,y63,y64,y65,y66,y67,y68,y69,y70,y71,y72,y73,y74,y75,y76,y77,y78,y79,y80,y81,y82,y83],defers:=[] }∧Hid (∃ v' d,Bk w' p c t v' (upd ct 1 (ct 1 ++ [d]))∧Stp W w' p v v'∧Row w' 5 d (bs xs)∧∀ g,d.ownBlock=some g→W.heap.size≤g)) { tmps:=#[(.pointer (some ⟨p,0,none⟩)),(.slice A n cl),y2,y3,y4,y5,y6,y7,y8,y9,y10,y11,y12,y13,y14,y15,y16,y17,y18,y19,y20,y21,y22,y23,y24,y25,y26,y27,y28,y29,y30,y31,y32,y33,y34,y35,y36,y37,y38,y39,y40,y41,y42,y43,y44,y45,y46,y47,y48,y49,y50,y51,y52,y53,y54,y55,y56,y57,y58,y59,y60,y61,y62,y63,y64,y65,y66,y67,y68,y69,y70,y71,y72,y73,y74,y75,y76,y77,y78,y79,y80,y81,y82,y83],defers:=[] } W:=by
 obtain ⟨i,hi,hz0,hz1,hz2⟩:=info30
 have c4:=h.hd.cell 4
 have f4:=h.hd.frozen 4
 simp only [hdr,List.getElem?_toArray,List.getElem?_cons_zero,List.getElem?_cons_succ] at c4
 have H:=Lib.hid h
 have H1:=Lib.hid h1
 have HL:=Lib.hid hl
 clear h h1 hl
 obtain ⟨x1,hx1⟩:∃ x,x=v 1:=⟨_,rfl⟩
 rw [← hx1] at c4
 have HX:=Lib.hid hx1
 clear hx1
 unfold Try.f17
 dsimp only [Option.getD,postC,left]
 go_region_law (first|(go_simp;go_at_call 21;refine (copy2_ W.drew A n cl xs HL.out.drew (by omega)).mono ?_;rintro e w1 ⟨B,d,rfl,hr,hc,hg⟩;have HR:=Lib.hid hr;have HC:=Lib.hid (((Ch.refl W Never).drew).trans hc fun _ h=>h.elim);have HG:=Lib.hid hg;have c4':=(HC.out.blk H.out.hd (fun h=>h)).cell 4;have f4':=(HC.out.blk H.out.hd (fun h=>h)).frozen 4;simp only [hdr,List.getElem?_toArray,List.getElem?_cons_zero,List.getElem?_cons_succ] at c4';rw [← HX.out] at c4';have c4a:=((HC.out.blk H.out.hd (fun h=>h)).alloc (.cells #[.slice B n d] 37)).cell 4;simp only [hdr,List.getElem?_toArray,List.getElem?_cons_zero,List.getElem?_cons_succ] at c4a;rw [← HX.out] at c4a;clear hr hc hg)|(refine step_app rfl (.tmp 37) (.tmp 40) 52 rfl 0 37 i (.slice none 0 0) 24 Try.underlying52 hi hz0 hz1 hz2 rfl x1 (ct 1) rfl (by rw [HX.out];exact ((H.out.ch HC.out fun _ _ h=>h).alloc _).row 1) ⟨w1.heap.size,0,none⟩ 1 1 [.slice B n d] rfl rfl (by decide) (one_new _ _ _) (fun u hu=>by rw [List.mem_singleton.1 hu];rfl) (by have:=H1.out;unfold maxLen;omega) (by have:=H1.out;omega) (Nat.zero_le _) ?_;intro v' w2 hA;obtain ⟨A3,k3,hv3,_⟩:=hA.row'.form;obtain ⟨n3,hn3⟩:∃ N,N=(ct 1 ++ [Value.slice B n d]).length:=⟨_,rfl⟩;rw [← hn3] at hv3;subst hv3;clear hn3;have HBK:=Lib.hid (H.out.ch HC.out fun _ _ h=>h);have HA1:=Lib.hid (((HBK.out.alloc (.cells #[.slice B n d] 37))).app 1 (HX.out ▸ hA) 4 rfl);have HR2:=Lib.hid ((HR.out.alloc (.cells #[.slice B n d] 37)).ch hA.ch fun g hg e=>HR.out.other (HBK.out.row 1) (by decide) hg (HX.out ▸ e));have hp:w2.cell? ⟨p,4,none⟩=some x1:=(by have h:=(hA.ch.blk (HBK.out.alloc _).hd (HX.out ▸ HBK.out.off 1)).cell 4;simp only [hdr,List.getElem?_toArray,List.getElem?_cons_zero,List.getElem?_cons_succ] at h;rw [HX.out];exact h);have fp:=(hA.ch.blk (HBK.out.alloc _).hd (HX.out ▸ HBK.out.off 1)).frozen 4;clear hA))
 all_goals
  refine Norm.mk ?_
  refine ⟨_,_,_,_,_,_,_,_,_,_,_,rfl,Lib.hid ⟨_,.slice B n d,HA1.out.1,Stp.of ((HC.out.alloc (.cells #[.slice B n d] 37)).mono fun _ h=>h) HA1.out.2.1 HA1.out.2.2,?_,HG.out⟩⟩
  exact HR2.out.ch ((Ch.refl w2 (fun g=>g=p)).set_ _ _ (.inl rfl)) fun g hg e=>HBK.out.sep HR.out hg (.inl e)
theorem O4 (W:World) (p:Nat) (c t mk:Int) (v:Fin 5→Value) (ct:Fin 5→List Value) (h:Bk W p c t v ct) (h2:(ct 2).length≤1000000) {y1 y3 y4 y5 y6 y7 y8 y9 y10 y11 y12 y13 y14 y15 y16 y17 y18 y19 y20 y21 y22 y23 y24 y25 y26 y27 y28 y29 y30 y31 y32 y33 y34 y35 y36 y37 y38 y39 y40 y41 y42 y43 y44 y45 y46 y47 y48 y49 y50 y51 y52 y53 y54 y55 y56 y57 y58 y59 y60 y61 y62 y63 y64 y65 y66 y67 y68 y69 y70 y71 y72 y73 y74 y75 y76 y77 y78 y79 y80 y81 y82 y83:Value} :
  Code.wp Try.prog (left (postC 4 (Try.f17.body.getD .skip))) (Norm fun a w'=>∃ (e44 e45 e46 e47 e48 e49 e50 e51 e52 e53 e54 e55 e56 e57 e58 e59:Value),a={ tmps:=#[(.pointer (some ⟨p,0,none⟩)),y1,(.int .i64 mk),y3,y4,y5,y6,y7,y8,y9,y10,y11,y12,y13,y14,y15,y16,y17,y18,y19,y20,y21,y22,y23,y24,y25,y26,y27,y28,y29,y30,y31,y32,y33,y34,y35,y36,y37,y38,y39,y40,y41,y42,y43,e44,e45,e46,e47,e48,e49,e50,e51,e52,e53,e54,e55,e56,e57,e58,e59,y60,y61,y62,y63,y64,y65,y66,y67,y68,y69,y70,y71,y72,y73,y74,y75,y76,y77,y78,y79,y80,y81,y82,y83],defers:=[] }∧Hid (∃ v' m,Bk w' p c t v' (upd ct 2 (ct 2 ++ [.int .i64 m]))∧Stp W w' p v v')) { tmps:=#[(.pointer (some ⟨p,0,none⟩)),y1,(.int .i64 mk),y3,y4,y5,y6,y7,y8,y9,y10,y11,y12,y13,y14,y15,y16,y17,y18,y19,y20,y21,y22,y23,y24,y25,y26,y27,y28,y29,y30,y31,y32,y33,y34,y35,y36,y37,y38,y39,y40,y41,y42,y43,y44,y45,y46,y47,y48,y49,y50,y51,y52,y53,y54,y55,y56,y57,y58,y59,y60,y61,y62,y63,y64,y65,y66,y67,y68,y69,y70,y71,y72,y73,y74,y75,y76,y77,y78,y79,y80,y81,y82,y83],defers:=[] } W:=by
 obtain ⟨i,hi,hz0,hz1,hz2⟩:=info3
 have c5:=h.hd.cell 5
 have f5:=h.hd.frozen 5
 have c0:=h.hd.cell 0
 simp only [hdr,List.getElem?_toArray,List.getElem?_cons_zero,List.getElem?_cons_succ] at c5 c0
 have c5a:=(h.hd.alloc (.cells #[.int .i64 (IntKind.i64.wrap (mk+IntKind.i64.wrap (31*c)))] 3)).cell 5
 have H:=Lib.hid h
 have H2:=Lib.hid h2
 clear h h2
 obtain ⟨x2,hx2⟩:∃ x,x=v 2:=⟨_,rfl⟩
 rw [← hx2] at c5
 simp only [hdr,List.getElem?_toArray,List.getElem?_cons_zero,List.getElem?_cons_succ] at c5a
 rw [← hx2] at c5a
 have HX:=Lib.hid hx2
 clear hx2
 unfold Try.f17
 dsimp only [Option.getD,postC,left]
 go_region_law (refine step_app rfl (.tmp 48) (.tmp 56) 53 rfl 0 3 i (.int .i64 0) 8 Try.underlying53 hi hz0 hz1 hz2 rfl x2 (ct 2) rfl (by rw [HX.out];exact ((H.out.alloc (.cells #[.int .i64 (IntKind.i64.wrap (mk+IntKind.i64.wrap (31*c)))] 3)).row 2)) ⟨W.heap.size,0,none⟩ 1 1 [.int .i64 (IntKind.i64.wrap (mk+IntKind.i64.wrap (31*c)))] rfl rfl (by decide) (fun j u hu=>one_new W (.int .i64 (IntKind.i64.wrap (mk+IntKind.i64.wrap (31*c)))) 3 j u hu) (fun u hu=>by rw [List.mem_singleton.1 hu];rfl) (by have:=H2.out;unfold maxLen;omega) (by have:=H2.out;omega) (Nat.zero_le _) ?_;intro v' w2 hA;obtain ⟨A3,k3,hv3,_⟩:=hA.row'.form;obtain ⟨n3,hn3⟩:∃ N,N=(ct 2 ++ [Value.int .i64 (IntKind.i64.wrap (mk+IntKind.i64.wrap (31*c)))]).length:=⟨_,rfl⟩;rw [← hn3] at hv3;subst hv3;clear hn3;have HA1:=Lib.hid ((H.out.alloc (.cells #[.int .i64 (IntKind.i64.wrap (mk+IntKind.i64.wrap (31*c)))] 3)).drew.app 2 (HX.out ▸ hA) 5 rfl);have hp:w2.cell? ⟨p,5,none⟩=some x2:=(by have h:=(hA.ch.blk (H.out.alloc (.cells #[.int .i64 (IntKind.i64.wrap (mk+IntKind.i64.wrap (31*c)))] 3)).drew.hd (HX.out ▸ H.out.off 2)).cell 5;simp only [hdr,List.getElem?_toArray,List.getElem?_cons_zero,List.getElem?_cons_succ] at h;rw [HX.out];exact h);have fp:=(hA.ch.blk (H.out.alloc (.cells #[.int .i64 (IntKind.i64.wrap (mk+IntKind.i64.wrap (31*c)))] 3)).drew.hd (HX.out ▸ H.out.off 2)).frozen 5;clear hA)
 all_goals
  refine Norm.mk ?_
  exact ⟨_,_,_,_,_,_,_,_,_,_,_,_,_,_,_,_,rfl,Lib.hid ⟨_,_,HA1.out.1,Stp.of (((Ch.refl W Never).alloc (.cells #[.int .i64 (IntKind.i64.wrap (mk+IntKind.i64.wrap (31*c)))] 3)).drew) HA1.out.2.1 HA1.out.2.2⟩⟩
end Go.Proofs.Ythmeojeehemlaaa.Bk
end
section
namespace Go.Proofs.Ythmeojeehemlaaa.Bk
open Go.RowKit Go.Proofs.YthmeojeehemlaaaW.PrintWords Go.Proofs.Ythmeojeehemlaaa.Mem Go.Proofs.Ythmeojeehemlaaa.Lnd Go.Proofs.Ythmeojeehemlaaa.PM
attribute [local go_sem] isSome_setCell
theorem Fb.snoc {fs:List Value} {x:Value} {g:Nat} (h:Fb (fs ++ [x]) 0 g):Fb fs 0 g∨x.ownBlock=some g:=by
 obtain ⟨j,u,hj,hu,hg⟩:=h
 by_cases hl:j<fs.length
 ·rw [List.getElem?_append_left hl] at hu
  exact .inl ⟨j,u,hj,hu,hg⟩
 ·rw [List.getElem?_append_right (by omega)] at hu
  have:=List.mem_of_getElem? hu
  rw [List.mem_singleton] at this
  exact .inr (this ▸ hg)
theorem snoc_at {fs:List Value} {x u:Value} {j:Nat} (h:(fs ++ [x])[j]?=some u):(fs[j]?=some u∧j<fs.length)∨(j=fs.length∧u=x):=by
 by_cases hl:j<fs.length
 ·rw [List.getElem?_append_left hl] at h
  exact .inl ⟨h,hl⟩
 ·have h2:=(List.getElem?_eq_some_iff.1 h).1
  rw [List.getElem?_append_right (by omega)] at h
  have:=List.mem_of_getElem? h
  rw [List.mem_singleton] at this
  simp at h2
  exact .inr ⟨by omega,this⟩
theorem Pairs.lt {w:World} {ks ws:List Value} (h:Pairs w ks ws) {g:Nat} (hg:Fb ks 0 g∨Fb ws 0 g):g<w.heap.size:=by
 rcases hg with ⟨j,u,_,hu,hg⟩|⟨j,u,_,hu,hg⟩
 ·obtain ⟨xs,hr⟩:=h.rows (.inl (List.mem_of_getElem? hu));exact hr.lt g hg
 ·obtain ⟨xs,hr⟩:=h.rows (.inr (List.mem_of_getElem? hu));exact hr.lt g hg
def ad3 (ct:Fin 5→List Value) (l d m:Value):Fin 5→List Value:=upd (upd (upd ct 0 (ct 0 ++ [l])) 1 (ct 1 ++ [d])) 2 (ct 2 ++ [m])
theorem ad3_0 (ct:Fin 5→List Value) (l d m:Value):ad3 ct l d m 0=ct 0 ++ [l]:=rfl
theorem ad3_1 (ct:Fin 5→List Value) (l d m:Value):ad3 ct l d m 1=ct 1 ++ [d]:=rfl
theorem ad3_2 (ct:Fin 5→List Value) (l d m:Value):ad3 ct l d m 2=ct 2 ++ [m]:=rfl
theorem ad3_3 (ct:Fin 5→List Value) (l d m:Value):ad3 ct l d m 3=ct 3:=rfl
theorem ad3_4 (ct:Fin 5→List Value) (l d m:Value):ad3 ct l d m 4=ct 4:=rfl
theorem Book.add {w W:World} {p:Nat} {c t c1 t1 m:Int} {v v3:Fin 5→Value} {ct:Fin 5→List Value} {l d:Value} {xs:List Int} (h:Book w p c t v ct) (hb:Bk W p c1 t1 v3 (ad3 ct l d (.int .i64 m))) (hs:Stp w W p v v3)
  (hl:Row w 5 l (bs xs)) (hd:Row W 5 d (bs xs)) (hdn:∀ g,d.ownBlock=some g→w.heap.size≤g) (hf:∀ g,l.ownBlock=some g→¬ Foot p v ct g) (hsm:sl l≤549755813888) :
  Book W p c1 t1 v3 (ad3 ct l d (.int .i64 m))∧∀ g,Foot p v3 (ad3 ct l d (.int .i64 m)) g→Foot p v ct g∨l.ownBlock=some g∨w.heap.size≤g:=by
 have mv:∀ u zs,Row w 5 u zs→Row W 5 u zs:=fun u zs hr=>hr.ch hs.ch fun g hg=>h.bk.sep hr hg
 have mp:∀ ks ws,Pairs w ks ws→Pairs W ks ws:=fun ks ws hp=>hp.ch hs.ch fun u hu g hg=>by
  obtain ⟨zs,hr⟩:=hp.rows hu
  exact h.bk.sep hr hg
 have lo:=fun g (hg:l.ownBlock=some g)=>hl.lt g hg
 refine ⟨⟨hb,?_,?_,?_,?_,?_,?_,?_⟩,?_⟩
 ·rw [ad3_0,ad3_1];exact (mp _ _ h.fh).snoc (mv _ _ hl) hd
 ·exact mp _ _ h.kw
 ·rw [ad3_0,ad3_2];simp [h.mlen]
 ·intro u hu
  rw [ad3_2] at hu
  rcases List.mem_append.1 hu with hu|hu
  ·exact h.mint u hu
  ·rw [List.mem_singleton.1 hu];exact ⟨m,rfl⟩
 ·intro i j u x g hu hx hij hg hxg
  rw [ad3_0] at hu hx
  rcases snoc_at hu with ⟨hu1,hui⟩|⟨hui,eu⟩ <;> rcases snoc_at hx with ⟨hx1,hxi⟩|⟨hxi,ex⟩
  ·exact h.apart i j u x g hu1 hx1 hij hg hxg
  ·exact hf g (ex ▸ hxg) (.inr (.inl ⟨i,u,Nat.zero_le _,hu1,hg⟩))
  ·exact hf g (eu ▸ hg) (.inr (.inl ⟨j,x,Nat.zero_le _,hx1,hxg⟩))
  ·omega
 ·intro g hg
  rw [ad3_0] at hg
  rw [ad3_1,ad3_3,ad3_4]
  rcases hg.snoc with hg|hg
  ·have h1:=h.far g hg
   have h2:=h.fh.lt (.inl hg)
   exact ⟨fun hh=>hh.snoc.elim h1.1 fun e=>by have:=hdn g e;omega,h1.2⟩
  ·have h1:=hf g hg
   have h2:=lo g hg
   exact ⟨fun hh=>hh.snoc.elim (fun e=>h1 (.inr (.inr (.inl e)))) fun e=>by have:=hdn g e;omega,fun e=>h1 (.inr (.inr (.inr (.inl e)))),fun e=>h1 (.inr (.inr (.inr (.inr e))))⟩
 ·intro u hu
  rw [ad3_0] at hu
  rcases List.mem_append.1 hu with hu|hu
  ·exact h.small u hu
  ·rw [List.mem_singleton.1 hu];exact hsm
 ·intro g hg
  rcases hg with hg|hg|hg|hg|hg
  ·exact (hs.own g hg).elim (fun e=>.inl (.inl e)) fun e=>.inr (.inr e)
  ·rw [ad3_0] at hg;exact hg.snoc.elim (fun e=>.inl (.inr (.inl e))) fun e=>.inr (.inl e)
  ·rw [ad3_1] at hg;exact hg.snoc.elim (fun e=>.inl (.inr (.inr (.inl e)))) fun e=>.inr (.inr (hdn g e))
  ·exact .inl (.inr (.inr (.inr (.inl hg))))
  ·exact .inl (.inr (.inr (.inr (.inr hg))))
def Owned (w:World) (p:Nat) (t1:Int) (v:Fin 5→Value) (ct:Fin 5→List Value) (l:Value) (e:Ending) (w':World):Prop:=
 e=.returned (.tuple #[])∧∃ c' v' ct',Book w' p c' t1 v' ct'∧(ct' 0).length≤2∧(ct' 3).length≤(ct 3).length+18∧Ch w w' (fun g=>Foot p v ct g∨l.ownBlock=some g)∧∀ g,Foot p v' ct' g→Foot p v ct g∨l.ownBlock=some g∨w.heap.size≤g
theorem Foot.of_wr {p:Nat} {v:Fin 5→Value} {ct:Fin 5→List Value} {g:Nat} (h:Wr p v ct g):Foot p v ct g:=h.elim .inl fun e=>.inr (.inl e)
theorem Owned.wrote {w W w':World} {p:Nat} {c1 t1 m:Int} {v v4:Fin 5→Value} {ct:Fin 5→List Value} {l d:Value} {e:Ending} (hc:Ch w W (Own p v)) (hf:∀ g,Foot p v4 (ad3 ct l d (.int .i64 m)) g→Foot p v ct g∨l.ownBlock=some g∨w.heap.size≤g) (h0:(ct 0).length≤2)
  (h:Done34 W p c1 t1 v4 (ad3 ct l d (.int .i64 m)) e w'):Owned w p t1 v ct l e w':=by
 obtain ⟨he,v',ks,ws,hb,hk,hc2,hf2⟩:=h.book
 refine ⟨he,c1,v',_,hb,by simp [un],?_,(hc.mono fun g hg=>.inl (.inl hg)).trans hc2 fun g hg=>?_,fun g hg=>?_⟩
 ·rw [ad3_3,ad3_0,List.length_append] at hk
  simp at hk
  show ks.length≤_
  omega
 ·rcases hf g (Foot.of_wr hg) with e|e|e
  ·exact .inl (.inl e)
  ·exact .inl (.inr e)
  ·exact .inr e
 ·rcases hf2 g hg with e|e
  ·exact hf g e
  ·exact .inr (.inr (Nat.le_trans hc.size e))
theorem Owned.kept {w W:World} {p:Nat} {c1 t1 m:Int} {v v4:Fin 5→Value} {ct:Fin 5→List Value} {l d:Value} (hc:Ch w W (Own p v)) (hf:∀ g,Foot p v4 (ad3 ct l d (.int .i64 m)) g→Foot p v ct g∨l.ownBlock=some g∨w.heap.size≤g) (h0:(ct 0 ++ [l]).length≤2)
  (h:Book W p c1 t1 v4 (ad3 ct l d (.int .i64 m))):Owned w p t1 v ct l (.returned (.tuple #[])) W:=
 ⟨rfl,c1,v4,_,h,h0,by rw [ad3_3];omega,hc.mono fun g hg=>.inl (.inl hg),hf⟩
theorem own_ (w:World) (p:Nat) (c t mk:Int) (v:Fin 5→Value) (ct:Fin 5→List Value) (h:Book w p c t v ct) (A:Option Addr) (n cl:Nat) (xs:List Int) (hl:Row w 5 (.slice A n cl) (bs xs)) (hf:∀ g,(Value.slice A n cl).ownBlock=some g→¬ Foot p v ct g) (hn:n≤549755813888) (ht0:0≤t) (ht:t+n≤4398046511104) (h0:(ct 0).length≤2) (h3:(ct 3).length≤5500000000000) :
  Calls Try.prog 17 #[.pointer (some ⟨p,0,none⟩),.slice A n cl,.int .i64 mk] w (Owned w p (t+n) v ct (.slice A n cl)):=by
 obtain ⟨i,hi,hz0,hz1,hz2⟩:=info30
 have c0:=h.bk.hd.cell 0
 have f0:=h.bk.hd.frozen 0
 have c1:=h.bk.hd.cell 1
 have f1:=h.bk.hd.frozen 1
 have c3:=h.bk.hd.cell 3
 have f3:=h.bk.hd.frozen 3
 simp only [hdr,List.getElem?_toArray,List.getElem?_cons_zero,List.getElem?_cons_succ] at c0 c1 c3
 obtain ⟨x0,hx0⟩:∃ x,x=v 0:=⟨_,rfl⟩
 rw [← hx0] at c3
 have HX:=Lib.hid hx0
 clear hx0
 have H:=Lib.hid h
 have HL:=Lib.hid hl
 have HF:=Lib.hid hf
 have H0:=Lib.hid h0
 have H3:=Lib.hid h3
 have hm1:=h.bk.count (wrap64 (c+1))
 have hm2:=hm1.1.total (t+n)
 have HM2:=Lib.hid hm2.1
 have HCM:=Lib.hid (hm1.2.trans hm2.2 fun g e=>.inl e)
 clear h hl hf h0 h3 hm1 hm2
 go_enter Try.func17,Try.ntmps17
 refine wp_seq_k (fun K0 hK=>?_)
 have HK0:=Lib.hid hK
 clear hK
 go_wp2
 refine HK0.out _ _ ?_
 clear HK0
 refine wp_seq_k (fun K0 hK=>?_)
 have HK0:=Lib.hid hK
 clear hK
 go_wp2
 refine HK0.out _ _ ?_
 clear HK0
 obtain ⟨W1,hW1⟩:∃ W,W=(w.setCell ⟨p,0,none⟩ (.int .i64 (wrap64 (c+1)))).setCell ⟨p,1,none⟩ (.int .i64 (t+n)):=⟨_,rfl⟩
 rw [← hW1] at HM2 HCM ⊢
 clear hW1 c0 f0 c1 f1 c3 f3
 have c3:=HM2.out.hd.cell 3
 have f3:=HM2.out.hd.frozen 3
 simp only [hdr,List.getElem?_toArray,List.getElem?_cons_zero,List.getElem?_cons_succ] at c3
 rw [← HX.out] at c3
 refine wp_seq_k (fun K0 hK=>?_)
 have HK0:=Lib.hid hK
 clear hK
 go_wp2_with (at_builtin;refine wpList_app _ rfl _ _ 52 rfl 0 37 i (.slice none 0 0) 24 Try.underlying52 hi hz0 hz1 hz2 rfl x0 (ct 0) rfl ?q1 ⟨W1.heap.size,0,none⟩ 1 1 [.slice A n cl] rfl rfl (by decide) ?q2 ?q3 ?q4 ?q5 ?q6 ?_)
 case q1=>rw [HX.out];exact (HM2.out.alloc _).row 0
 case q2=>exact one_new _ _ _
 case q3=>intro u hu;rw [List.mem_singleton.1 hu];rfl
 case q4=>have:=H0.out;unfold maxLen;omega
 case q5=>have:=H0.out;omega
 case q6=>exact Nat.zero_le _
 intro v' w2 hA
 obtain ⟨A3,k3,hv3,_⟩:=hA.row'.form
 obtain ⟨n3,hn3⟩:∃ N,N=(ct 0 ++ [Value.slice A n cl]).length:=⟨_,rfl⟩
 rw [← hn3] at hv3
 subst hv3
 clear hn3
 have hb:=(HM2.out.alloc (.cells #[.slice A n cl] 37)).app 0 (HX.out ▸ hA) 3 rfl
 have HS:=Lib.hid (Stp.of (((Ch.refl W1 Never).alloc (.cells #[.slice A n cl] 37))) hb.2.1 hb.2.2)
 have HB:=Lib.hid hb.1
 have hp:w2.cell? ⟨p,3,none⟩=some x0:=by
  have h:=(hA.ch.blk (HM2.out.alloc _).hd (HX.out ▸ HM2.out.off 0)).cell 3
  simp only [hdr,List.getElem?_toArray,List.getElem?_cons_zero,List.getElem?_cons_succ] at h
  rw [HX.out];exact h
 have fp:=(hA.ch.blk (HM2.out.alloc _).hd (HX.out ▸ HM2.out.off 0)).frozen 3
 clear hA hb
 go_wp2
 refine HK0.out _ _ ?_
 clear HK0 hp fp c3 f3
 obtain ⟨W2,hW2⟩:∃ W,W=w2.setCell ⟨p,3,none⟩ (.slice A3 n3 k3):=⟨_,rfl⟩
 rw [← hW2] at HB HS ⊢
 clear hW2
 have HC1:=Lib.hid (HCM.out.mono (S':=Own p v) fun g e=>.inl e)
 have HL1:=Lib.hid (HL.out.ch HC1.out fun g hg=>H.out.bk.sep HL.out hg)
 have HL2:=Lib.hid (HL1.out.ch HS.out.ch fun g hg=>HM2.out.sep HL1.out hg)
 refine wp_seq_k (fun K0 hK=>?_)
 have HK0:=Lib.hid hK
 clear hK
 refine Code.wp_mono (Norm.elim ?_) (O3 W2 p _ _ _ _ HB.out A n cl xs HL2.out hn (by
  have h1:=H.out.fh.1
  have h0:=H0.out
  show (ct 1).length≤1000000
  omega))
 rintro a W3 ⟨e33,e34,e35,e36,e37,e38,e39,e40,e41,e42,e43,rfl,HX3⟩
 refine HK0.out _ _ ?_
 clear HK0
 obtain ⟨v3,d,hb3,hs3,hd,hdn⟩:=HX3.out
 have HB3:=Lib.hid hb3
 have HS3:=Lib.hid hs3
 have HD:=Lib.hid hd
 have HDN:=Lib.hid hdn
 clear hb3 hs3 hd hdn HX3
 refine wp_seq_k (fun K0 hK=>?_)
 have HK0:=Lib.hid hK
 clear hK
 refine Code.wp_mono (Norm.elim ?_) (O4 W3 p _ _ mk _ _ HB3.out (by
  have h1:=H.out.mlen
  have h0:=H0.out
  show (ct 2).length≤1000000
  omega))
 rintro a W4 ⟨e44,e45,e46,e47,e48,e49,e50,e51,e52,e53,e54,e55,e56,e57,e58,e59,rfl,HX4⟩
 refine HK0.out _ _ ?_
 clear HK0
 obtain ⟨v4,m,hb4,hs4⟩:=HX4.out
 have hd4:=HD.out.ch hs4.ch fun g hg=>HB3.out.sep HD.out hg
 have hst:Stp W1 W4 p v v4:=(HS.out.trans HS3.out).trans hs4
 have hst0:Stp w W4 p v v4:=⟨HC1.out.trans hst.ch fun g hg=>.inl hg,fun g hg=>(hst.own g hg).imp id fun h2=>Nat.le_trans HC1.out.size h2⟩
 have hadd:=H.out.add (l:=.slice A n cl) (d:=d) (m:=m) hb4 hst0 HL.out hd4 (fun g hg=>Nat.le_trans (Nat.le_trans HC1.out.size HS.out.ch.size) (HDN.out g hg)) HF.out hn
 have HBK:=Lib.hid hadd.1
 have HFT:=Lib.hid hadd.2
 have HCH:=Lib.hid hst0.ch
 clear hadd hst0 hst hd4 hb4 hs4 HX4 HD HDN HS3 HB3 HS HB HL2 HL1 HC1 HM2 HCM
 obtain ⟨A5,k5,hv5,_⟩:=(HBK.out.bk.row 0).form
 rw [ad3_0] at hv5
 have c3:=HBK.out.bk.hd.cell 3
 have c0:=HBK.out.bk.hd.cell 0
 simp only [hdr,List.getElem?_toArray,List.getElem?_cons_zero,List.getElem?_cons_succ] at c3 c0
 rw [hv5] at c3
 clear hv5
 obtain ⟨N,hN⟩:∃ N,N=(ct 0 ++ [Value.slice A n cl]).length:=⟨_,rfl⟩
 rw [← hN] at c3
 have HN:=Lib.hid hN
 have hN3:N≤3:=by have:=H0.out;rw [hN,List.length_append];simp;omega
 clear hN
 have HW:=Lib.hid (write_ W4 p (wrap64 (c+1)) (t+n) v4 _ HBK.out (by omega) ht (by rw [ad3_0,← HN.out];omega) (by rw [ad3_3];have:=H3.out;omega))
 by_cases h3:3≤N
 ·go_wp2_with (go_at_call 53;refine HW.out.mono ?_;intro e w' hD;have HD:=Lib.hid (Owned.wrote HCH.out HFT.out H0.out hD);have he:=hD.1;subst he;clear hD)
  refine bodyPost_end (results_none rfl _ _ _) rfl ?_
  exact HD.out
 ·by_cases h1:N=1
  ·subst h1
   go_wp2_with (go_at_call 53;refine HW.out.mono ?_;intro e w' hD;have HD:=Lib.hid (Owned.wrote HCH.out HFT.out H0.out hD);have he:=hD.1;subst he;clear hD)
   all_goals
    refine bodyPost_end (results_none rfl _ _ _) rfl ?_
    first|exact HD.out|exact Owned.kept HCH.out HFT.out (by rw [← HN.out];omega) HBK.out
  ·go_wp2
   refine bodyPost_end (results_none rfl _ _ _) rfl ?_
   exact Owned.kept HCH.out HFT.out (by rw [← HN.out];omega) HBK.out
#print axioms own_
end Go.Proofs.Ythmeojeehemlaaa.Bk
end
