/- Parts of the proof, laid together by a program of this session (pack.py): Mo6. -/
import Derived.Test.YthmeojeehemlaaaZC15
set_option linter.unusedVariables false
set_option linter.unusedSimpArgs false
set_option maxRecDepth 100000
set_option maxHeartbeats 16000000
section
namespace Go.Proofs.Ythmeojeehemlaaa.Bk
open Go.RowKit Go.Proofs.YthmeojeehemlaaaW.PrintWords Go.Proofs.Ythmeojeehemlaaa.Mem Go.Proofs.Ythmeojeehemlaaa.Lnd Go.Proofs.Ythmeojeehemlaaa.PM
attribute [local go_sem] isSome_setCell
def asks4 (a:S46) (Ai:Option Addr) (ci:Nat):Array Value:=#[.int .i64 a.wh,.int .i64 a.kd,.int .u64 a.x,.int .i64 a.m,.int .u64 a.v,.slice Ai a.dat.length ci,.int .i64 a.wh,.int .i64 a.kd,.int .u64 a.x,.int .i64 a.m,.int .u64 a.v,.slice Ai a.dat.length ci,.int .i64 0,.int .i64 7,.int .u64 0,.int .i64 0,.int .u64 0,.slice none 0 0,.int .i64 0,.int .i64 7,.int .u64 0,.int .i64 0,.int .u64 0,.slice none 0 0]
theorem K1 (w w0:World) (g b lb i nr K cL n3 c3:Nat) (AL:Option Addr) (ad:Addr) (P0:Option Addr) (F0 ok0:Nat→Prop) (rl0:List S39) (rs0:List Reg) (c0 t0:Int) (v0:Fin 5→Value) (ct0:Fin 5→List Value) (los0:List Value) (a:S46) (Ai:Option Addr) (ci:Nat)
  (h0:Mo w w0 g b F0 ok0 P0 rl0 rs0 c0 t0 v0 ct0 (.slice AL K cL) los0) (hn:Num rl0 t0 ct0 los0 nr (4*i) K) (hB:Blk w0 lb 46 (asks4 a Ai ci)) (hlb:∀ q,Any F0 ok0 b v0 ct0 (.slice AL K cL) los0 q→q≠lb)
  (hC:Kd.C (Kd.int .u8) w Ai a.dat.length a.dat) (hci:a.dat.length≤ci) (hf:Fit46 a) (hkc:w.cell? ⟨(ad.add (i*6)).block,(ad.add (i*6)).off+1,none⟩=some (.int .i64 a.kd)) (hi:i<n3) (hn3:n3≤149900) (hc3:n3≤c3) (hnr:nr+1≤500000) {y0 y2 y3 y4 y6 y11 y12 y13 y14 y15 y16 y17 y18 y19 y20 y21 y22 y23 y24 y25 y26 y27 y28 y29 y30 y31 y32 y33 y34 y35 y36 y37 y38 y39 y40 y41 y42 y43 y44 y45 y46 y47 y48 y49 y50 y51 y52 y53 y54 y55 y56 y57 y58 y59 y60 y61 y62 y63 y64 y65 y66 y67 y68 y69 y70 y71 y72 y73 y74 y75 y76 y77 y78 y79 y80 y81 y82 y83 y84 y85 y86 y87 y88 y89 y90 y91 y92 y93 y94 y95 y96 y97 y98 y99 y100 y101 y102 y103 y104 y105 y106 y107 y108 y109 y110 y111 y112 y113 y114 y115 y116 y117 y118 y119 y120 y121 y122 y123 y124 y125 y126 y127 y128 y129 y130 y131 y132 y133 y134 y135 y136 y137 y138 y139 y140 y141 y142 y143 y144 y145 y146 y147 y148 y149 y150 y151 y152 y153 y154 y155 y156 y157 y158 y159 y160 y161 y162 y163 y164 y165 y166 y167 y168 y169 y170 y171 y172 y173 y174 y175 y176 y177 y178 y179 y180 y181 y182 y183 y184 y185 y186 y187 y188 y189 y190 y191 y192 y193 y194 y195 y196 y197 y198 y199 y200 y201 y202 y203 y204 y205 y206 y207 y208 y209 y210 y211 y212 y213 y214 y215 y216 y217:Value} :
  Code.wp Try.prog (left (postC 1 (bodyX0 (Try.f6.body.getD .skip)))) (Norm fun a' W=>∃ (AL2:Option Addr) (cL2 K2:Nat) (e4 e11 e12 e13 e14 e15 e16 e17 e18 e51 e52 e53 e54 e55 e56 e57 e58 e59 e60 e61 e62 e63 e64 e65 e66 e67 e68 e69 e70 e71 e72 e73 e74 e75 e76 e77 e78 e79 e80 e81 e82 e83 e84 e85 e86 e87 e88 e89 e90 e91 e92 e93 e94 e95 e96 e97 e98 e99 e100 e101 e102 e103 e104 e105 e106 e107 e108 e109 e110 e111 e112 e113 e114 e115 e116 e117 e118 e119 e120 e121 e122 e123 e124 e125 e126 e127 e128 e129 e130 e131 e132 e133 e134 e135 e136 e137 e138 e139 e140 e141 e142 e143 e144 e145 e146:Value),a'={ tmps:=#[y0,(.slice (some ad) n3 c3),y2,y3,e4,(.pointer (some ⟨g,0,none⟩)),y6,(.pointer (some ⟨b,0,none⟩)),(.slice AL2 K2 cL2),(.int .i64 (i:Int)),(.slice (some ⟨lb,0,none⟩) 4 4),e11,e12,e13,e14,e15,e16,e17,e18,y19,y20,y21,y22,y23,y24,y25,y26,y27,y28,y29,y30,y31,y32,y33,y34,y35,y36,y37,y38,y39,y40,y41,y42,y43,y44,y45,y46,y47,y48,y49,y50,e51,e52,e53,e54,e55,e56,e57,e58,e59,e60,e61,e62,e63,e64,e65,e66,e67,e68,e69,e70,e71,e72,e73,e74,e75,e76,e77,e78,e79,e80,e81,e82,e83,e84,e85,e86,e87,e88,e89,e90,e91,e92,e93,e94,e95,e96,e97,e98,e99,e100,e101,e102,e103,e104,e105,e106,e107,e108,e109,e110,e111,e112,e113,e114,e115,e116,e117,e118,e119,e120,e121,e122,e123,e124,e125,e126,e127,e128,e129,e130,e131,e132,e133,e134,e135,e136,e137,e138,e139,e140,e141,e142,e143,e144,e145,e146,y147,y148,y149,y150,y151,y152,y153,y154,y155,y156,y157,y158,y159,y160,y161,y162,y163,y164,y165,y166,y167,y168,y169,y170,y171,y172,y173,y174,y175,y176,y177,y178,y179,y180,y181,y182,y183,y184,y185,y186,y187,y188,y189,y190,y191,y192,y193,y194,y195,y196,y197,y198,y199,y200,y201,y202,y203,y204,y205,y206,y207,y208,y209,y210,y211,y212,y213,y214,y215,y216,y217],defers:=[] }∧Hid (∃ F ok rl rs c t v ct los,Mo w W g b F ok P0 rl rs c t v ct (.slice AL2 K2 cL2) los∧Num rl t ct los (nr+1) (4*i+4) K2)) { tmps:=#[y0,(.slice (some ad) n3 c3),y2,y3,y4,(.pointer (some ⟨g,0,none⟩)),y6,(.pointer (some ⟨b,0,none⟩)),(.slice AL K cL),(.int .i64 (i:Int)),(.slice (some ⟨lb,0,none⟩) 4 4),y11,y12,y13,y14,y15,y16,y17,y18,y19,y20,y21,y22,y23,y24,y25,y26,y27,y28,y29,y30,y31,y32,y33,y34,y35,y36,y37,y38,y39,y40,y41,y42,y43,y44,y45,y46,y47,y48,y49,y50,y51,y52,y53,y54,y55,y56,y57,y58,y59,y60,y61,y62,y63,y64,y65,y66,y67,y68,y69,y70,y71,y72,y73,y74,y75,y76,y77,y78,y79,y80,y81,y82,y83,y84,y85,y86,y87,y88,y89,y90,y91,y92,y93,y94,y95,y96,y97,y98,y99,y100,y101,y102,y103,y104,y105,y106,y107,y108,y109,y110,y111,y112,y113,y114,y115,y116,y117,y118,y119,y120,y121,y122,y123,y124,y125,y126,y127,y128,y129,y130,y131,y132,y133,y134,y135,y136,y137,y138,y139,y140,y141,y142,y143,y144,y145,y146,y147,y148,y149,y150,y151,y152,y153,y154,y155,y156,y157,y158,y159,y160,y161,y162,y163,y164,y165,y166,y167,y168,y169,y170,y171,y172,y173,y174,y175,y176,y177,y178,y179,y180,y181,y182,y183,y184,y185,y186,y187,y188,y189,y190,y191,y192,y193,y194,y195,y196,y197,y198,y199,y200,y201,y202,y203,y204,y205,y206,y207,y208,y209,y210,y211,y212,y213,y214,y215,y216,y217],defers:=[] } w0:=by
 have H0:=Lib.hid h0
 have HN0:=Lib.hid (show Num rl0 t0 ct0 los0 (nr+min 0 1) (4*i+0) K from hn)
 have HB0:=Lib.hid hB
 have HLB0:=Lib.hid hlb
 have HC:=Lib.hid hC
 have HF:=Lib.hid hf
 have HKC:=Lib.hid hkc
 clear h0 hn hB hlb hC hf hkc
 unfold Try.f6
 dsimp only [Option.getD,postC,bodyX1,bodyX0,left,right,inner]
 go_wp2
 go_loopw [8,11] (fun Lv kv wr=>∃ (k K' cL':Nat) (AL':Option Addr) (F ok:Nat→Prop) (rl:List S39) (rs:List Reg) (c t:Int) (v:Fin 5→Value) (ct:Fin 5→List Value) (los:List Value),k≤4∧kv=.int .i64 (k:Int)∧Lv=.slice AL' K' cL'∧Hid (Mo w wr g b F ok P0 rl rs c t v ct (.slice AL' K' cL') los)∧Hid (Num rl t ct los (nr+min k 1) (4*i+k) K')∧Hid (Blk wr lb 46 (asks4 a Ai ci))∧Hid (∀ q,Any F ok b v ct (.slice AL' K' cL') los q→q≠lb)) (fun _ kv _=>4 - (RowKit.intOf kv).toNat)
 case atStart=>exact ⟨0,K,cL,AL,F0,ok0,rl0,rs0,c0,t0,v0,ct0,los0,by decide,rfl,rfl,H0,HN0,HB0,HLB0⟩
 case round =>
  obtain ⟨k,K',cL',AL',F',ok',rl',rs',c,t,v,ct,los,hk,rfl,rfl,hM,hNU,hBLK,hLB⟩:=hrel
  by_cases hlt:k<4
  ·have hk4:k=0∨k=1∨k=2∨k=3:=by omega
   clear HB0 HLB0 H0 HN0
   rcases hk4 with hkq|hkq|hkq|hkq
   ·obtain rfl:k=0:=hkq
    have HNU:=hNU
    have HWS:=Lib.hid hM.out.ch.size
    have l0:=hBLK.out.cell 0
    have l1:=hBLK.out.cell 1
    have l2:=hBLK.out.cell 2
    have l3:=hBLK.out.cell 3
    have l4:=hBLK.out.cell 4
    have l5:=hBLK.out.cell 5
    simp only [asks4,List.getElem?_toArray,List.getElem?_cons_zero,List.getElem?_cons_succ] at l0 l1 l2 l3 l4 l5
    have HSTEP:=Lib.hid (hM.out.acts a.wh a.kd a.x a.m a.v Ai a.dat.length ci a.dat HC.out hci HF.out (by have:=hNU.out.rlen;omega))
    refine wp_seq_k (fun Kc hK=>?_)
    have HKc:=Lib.hid hK
    clear hK
    go_wp2
    refine HKc.out _ _ ?_
    clear HKc
    refine wp_seq_k (fun Kb hK=>?_)
    have HKb:=Lib.hid hK
    clear hK
    refine wp_block ?_
    refine wp_seq_k (fun K13 hK=>?_)
    have HK13:=Lib.hid hK
    clear hK
    go_wp2
    refine HK13.out _ _ ?_
    clear HK13
    refine wp_seq_k (fun K14 hK=>?_)
    have HK14:=Lib.hid hK
    clear hK
    go_wp2_with (go_at_call 16;refine HSTEP.out.mono ?_;rintro e w1 ⟨F',ok',rl',rs',M,A1,A2,c1,c2,xs,os,rfl,had⟩;have HAD:=Lib.hid had;have HMO:=Lib.hid had.mo;have HBLK1:=Lib.hid (had.ch.blk hBLK.out fun e=>hLB.out _ (.inl e) rfl);have HLB1:=Lib.hid (show ∀ q,Any F' ok' b v ct (.slice AL' K' cL') los q→q≠lb from fun q hq e=>(had.sp q hq).elim (fun e2=>hLB.out q e2 e) fun e2=>by have:=hBLK.out.lt;omega);have x1:w1.cell? ⟨b,1,none⟩=some (.int .i64 t):=had.mo.bo.bk.hd.cell 1;clear had)
    refine HK14.out _ _ ?_
    clear HK14
    refine wp_seq_k (fun K15 hK=>?_)
    have HK15:=Lib.hid hK
    clear hK
    go_wp2
    refine HK15.out _ _ ?_
    clear HK15
    by_cases h4:4000<t
    ·go_wp2
     refine HKb.out _ _ ?_
     clear x1
     go_wp2
     go_roundw
     case rel=>exact ⟨1,K',cL',AL',F',ok',rl',rs',c,t,v,ct,los,by decide,rfl,rfl,HMO,Lib.hid ⟨HNU.out.len,HNU.out.ev,by have:=HNU.out.Ka;omega,by have:=HNU.out.rlen;have:=HAD.out.rlen;omega,HNU.out.b0,by have:=HNU.out.b3;omega,HNU.out.t0,HNU.out.tm⟩,HBLK1,HLB1⟩
     case measure=>simp [RowKit.intOf]
    ·refine wp_seq_k (fun K17 hK=>?_)
     have HK17:=Lib.hid hK
     clear hK
     go_wp2
     refine HK17.out _ _ ?_
     clear HK17 x1
     refine Code.wp_mono (Norm.elim ?_) (Bd w w1 M g b F' ok' P0 rl' rs' c t (i:Int) 0 v ct los AL' A1 A2 K' cL' xs.length c1 os.length c2 xs os HMO.out HNU.out.len (by have:=HNU.out.Ka;omega) HNU.out.ev HAD.out.hb rfl HAD.out.xl HAD.out.hr rfl HAD.out.one HAD.out.any (Nat.le_trans HWS.out HAD.out.lM) HAD.out.Ml HAD.out.os_ (by have:=HAD.out.ol;have:=HNU.out.rlen;omega) HNU.out.b0 (by have:=HNU.out.b3;have:=HAD.out.ol;have:=HNU.out.rlen;omega) HNU.out.t0 (by omega))
     rintro a' W ⟨AL2,cL2,e15,e16,e17,e18,e84,e85,e86,e87,e88,e89,e90,e91,e92,e93,e94,e95,e96,e97,e98,e99,e100,e101,e102,e103,e104,e105,e106,e107,e108,e109,e110,e111,e112,e113,e114,e115,e116,e117,e118,e119,e120,e121,e122,e123,e124,e125,e126,e127,e128,e129,e130,e131,e132,e133,e134,e135,e136,e137,e138,e139,e140,e141,e142,e143,e144,e145,e146,rfl,HX⟩
     refine HKb.out _ _ ?_
     clear HKb
     go_wp2
     go_roundw
     case rel =>
      obtain ⟨c',t',v',ct',los',hbd⟩:=HX.out
      refine ⟨1,K'+2,cL2,AL2,F',ok',rl',rs',c',t',v',ct',los',by decide,rfl,rfl,Lib.hid hbd.mo,Lib.hid ⟨by rw [hbd.len,HNU.out.len],by have:=HNU.out.ev;omega,by have:=HNU.out.Ka;omega,by have:=HNU.out.rlen;have:=HAD.out.rlen;omega,hbd.b0,by have:=HNU.out.b3;have:=hbd.b3;have:=HAD.out.ol;have:=HNU.out.rlen;omega,hbd.t0,by have:=hbd.tm;have:=HAD.out.ol;have:=HNU.out.rlen;omega⟩,Lib.hid (hbd.ch.blk HBLK1.out fun e=>e.elim (fun e=>HLB1.out _ e rfl) fun e=>by have:=hBLK.out.lt;have:=HAD.out.lM;omega),Lib.hid fun q hq e=>(hbd.sp q hq).elim (fun e2=>HLB1.out q e2 e) fun e2=>by have:=hBLK.out.lt;have:=HAD.out.lM;omega⟩
     case measure=>simp [RowKit.intOf]
   ·obtain rfl:k=1:=hkq
    have HNU:=hNU
    have HWS:=Lib.hid hM.out.ch.size
    have l0:=hBLK.out.cell 6
    have l1:=hBLK.out.cell 7
    have l2:=hBLK.out.cell 8
    have l3:=hBLK.out.cell 9
    have l4:=hBLK.out.cell 10
    have l5:=hBLK.out.cell 11
    simp only [asks4,List.getElem?_toArray,List.getElem?_cons_zero,List.getElem?_cons_succ] at l0 l1 l2 l3 l4 l5
    have kc:=hM.out.ch.cell HKC.out (fun h=>h)
    by_cases e5:a.kd=5
    ·have HSTEP:=Lib.hid (hM.out.asks a.wh a.kd a.x a.m a.v Ai a.dat.length ci (.inl e5) HF.out.1.1.1 HF.out.1.1.2.1 HF.out.2.1.1 HF.out.2.1.2 (by have:=hNU.out.rlen;omega))
     rw [e5] at kc l1 HSTEP
     refine wp_seq_k (fun Kc hK=>?_)
     have HKc:=Lib.hid hK
     clear hK
     go_wp2
     refine HKc.out _ _ ?_
     clear HKc
     refine wp_seq_k (fun Kb hK=>?_)
     have HKb:=Lib.hid hK
     clear hK
     refine wp_block ?_
     refine wp_seq_k (fun K13 hK=>?_)
     have HK13:=Lib.hid hK
     clear hK
     go_wp2
     refine HK13.out _ _ ?_
     clear HK13
     refine wp_seq_k (fun K14 hK=>?_)
     have HK14:=Lib.hid hK
     clear hK
     go_wp2_with (go_at_call 16;refine HSTEP.out.mono ?_;rintro e w1 ⟨F',ok',rl',rs',M,A1,A2,c1,c2,xs,os,rfl,had⟩;have HAD:=Lib.hid had;have HMO:=Lib.hid had.mo;have HBLK1:=Lib.hid (had.ch.blk hBLK.out fun e=>hLB.out _ (.inl e) rfl);have HLB1:=Lib.hid (show ∀ q,Any F' ok' b v ct (.slice AL' K' cL') los q→q≠lb from fun q hq e=>(had.sp q hq).elim (fun e2=>hLB.out q e2 e) fun e2=>by have:=hBLK.out.lt;omega);have x1:w1.cell? ⟨b,1,none⟩=some (.int .i64 t):=had.mo.bo.bk.hd.cell 1;clear had)
     refine HK14.out _ _ ?_
     clear HK14
     refine wp_seq_k (fun K15 hK=>?_)
     have HK15:=Lib.hid hK
     clear hK
     go_wp2
     refine HK15.out _ _ ?_
     clear HK15
     by_cases h4:4000<t
     ·go_wp2
      refine HKb.out _ _ ?_
      clear x1
      go_wp2
      go_roundw
      case rel=>exact ⟨2,K',cL',AL',F',ok',rl',rs',c,t,v,ct,los,by decide,rfl,rfl,HMO,Lib.hid ⟨HNU.out.len,HNU.out.ev,by have:=HNU.out.Ka;omega,by have:=HNU.out.rlen;have:=HAD.out.rlen;omega,HNU.out.b0,by have:=HNU.out.b3;omega,HNU.out.t0,HNU.out.tm⟩,HBLK1,HLB1⟩
      case measure=>simp [RowKit.intOf]
     ·refine wp_seq_k (fun K17 hK=>?_)
      have HK17:=Lib.hid hK
      clear hK
      go_wp2
      refine HK17.out _ _ ?_
      clear HK17 x1
      refine Code.wp_mono (Norm.elim ?_) (Bd w w1 M g b F' ok' P0 rl' rs' c t (i:Int) 1 v ct los AL' A1 A2 K' cL' xs.length c1 os.length c2 xs os HMO.out HNU.out.len (by have:=HNU.out.Ka;omega) HNU.out.ev HAD.out.hb rfl HAD.out.xl HAD.out.hr rfl HAD.out.one HAD.out.any (Nat.le_trans HWS.out HAD.out.lM) HAD.out.Ml HAD.out.os_ (by have:=HAD.out.ol;have:=HNU.out.rlen;omega) HNU.out.b0 (by have:=HNU.out.b3;have:=HAD.out.ol;have:=HNU.out.rlen;omega) HNU.out.t0 (by omega))
      rintro a' W ⟨AL2,cL2,e15,e16,e17,e18,e84,e85,e86,e87,e88,e89,e90,e91,e92,e93,e94,e95,e96,e97,e98,e99,e100,e101,e102,e103,e104,e105,e106,e107,e108,e109,e110,e111,e112,e113,e114,e115,e116,e117,e118,e119,e120,e121,e122,e123,e124,e125,e126,e127,e128,e129,e130,e131,e132,e133,e134,e135,e136,e137,e138,e139,e140,e141,e142,e143,e144,e145,e146,rfl,HX⟩
      refine HKb.out _ _ ?_
      clear HKb
      go_wp2
      go_roundw
      case rel =>
       obtain ⟨c',t',v',ct',los',hbd⟩:=HX.out
       refine ⟨2,K'+2,cL2,AL2,F',ok',rl',rs',c',t',v',ct',los',by decide,rfl,rfl,Lib.hid hbd.mo,Lib.hid ⟨by rw [hbd.len,HNU.out.len],by have:=HNU.out.ev;omega,by have:=HNU.out.Ka;omega,by have:=HNU.out.rlen;have:=HAD.out.rlen;omega,hbd.b0,by have:=HNU.out.b3;have:=hbd.b3;have:=HAD.out.ol;have:=HNU.out.rlen;omega,hbd.t0,by have:=hbd.tm;have:=HAD.out.ol;have:=HNU.out.rlen;omega⟩,Lib.hid (hbd.ch.blk HBLK1.out fun e=>e.elim (fun e=>HLB1.out _ e rfl) fun e=>by have:=hBLK.out.lt;have:=HAD.out.lM;omega),Lib.hid fun q hq e=>(hbd.sp q hq).elim (fun e2=>HLB1.out q e2 e) fun e2=>by have:=hBLK.out.lt;have:=HAD.out.lM;omega⟩
      case measure=>simp [RowKit.intOf]
    ·have b5:(a.kd == 5)=false:=by rw [beq_eq_false_iff_ne];exact e5
     refine wp_seq_k (fun Kc hK=>?_)
     have HKc:=Lib.hid hK
     clear hK
     go_wp2
     refine HKc.out _ _ ?_
     clear HKc
     refine wp_seq_k (fun Kb hK=>?_)
     have HKb:=Lib.hid hK
     clear hK
     refine wp_block ?_
     refine wp_seq_k (fun K13 hK=>?_)
     have HK13:=Lib.hid hK
     clear hK
     go_wp2
     refine HKb.out _ _ ?_
     clear kc l0 l1 l2 l3 l4 l5
     go_wp2
     go_roundw
     case rel=>exact ⟨2,K',cL',AL',F',ok',rl',rs',c,t,v,ct,los,by decide,rfl,rfl,hM,Lib.hid ⟨HNU.out.len,HNU.out.ev,by have:=HNU.out.Ka;omega,by have:=HNU.out.rlen;omega,HNU.out.b0,by have:=HNU.out.b3;omega,HNU.out.t0,HNU.out.tm⟩,hBLK,hLB⟩
     case measure=>simp [RowKit.intOf]
   ·obtain rfl:k=2:=hkq
    have HNU:=hNU
    have HWS:=Lib.hid hM.out.ch.size
    have l0:=hBLK.out.cell 12
    have l1:=hBLK.out.cell 13
    have l2:=hBLK.out.cell 14
    have l3:=hBLK.out.cell 15
    have l4:=hBLK.out.cell 16
    have l5:=hBLK.out.cell 17
    simp only [asks4,List.getElem?_toArray,List.getElem?_cons_zero,List.getElem?_cons_succ] at l0 l1 l2 l3 l4 l5
    have HSTEP:=Lib.hid (hM.out.asks 0 7 0 0 0 none 0 0 (.inr rfl) (by decide) (by decide) (by decide) (by decide) (by have:=hNU.out.rlen;omega))
    refine wp_seq_k (fun Kc hK=>?_)
    have HKc:=Lib.hid hK
    clear hK
    go_wp2
    refine HKc.out _ _ ?_
    clear HKc
    refine wp_seq_k (fun Kb hK=>?_)
    have HKb:=Lib.hid hK
    clear hK
    refine wp_block ?_
    refine wp_seq_k (fun K13 hK=>?_)
    have HK13:=Lib.hid hK
    clear hK
    go_wp2
    refine HK13.out _ _ ?_
    clear HK13
    refine wp_seq_k (fun K14 hK=>?_)
    have HK14:=Lib.hid hK
    clear hK
    go_wp2_with (go_at_call 16;refine HSTEP.out.mono ?_;rintro e w1 ⟨F',ok',rl',rs',M,A1,A2,c1,c2,xs,os,rfl,had⟩;have HAD:=Lib.hid had;have HMO:=Lib.hid had.mo;have HBLK1:=Lib.hid (had.ch.blk hBLK.out fun e=>hLB.out _ (.inl e) rfl);have HLB1:=Lib.hid (show ∀ q,Any F' ok' b v ct (.slice AL' K' cL') los q→q≠lb from fun q hq e=>(had.sp q hq).elim (fun e2=>hLB.out q e2 e) fun e2=>by have:=hBLK.out.lt;omega);have x1:w1.cell? ⟨b,1,none⟩=some (.int .i64 t):=had.mo.bo.bk.hd.cell 1;clear had)
    refine HK14.out _ _ ?_
    clear HK14
    refine wp_seq_k (fun K15 hK=>?_)
    have HK15:=Lib.hid hK
    clear hK
    go_wp2
    refine HK15.out _ _ ?_
    clear HK15
    by_cases h4:4000<t
    ·go_wp2
     refine HKb.out _ _ ?_
     clear x1
     go_wp2
     go_roundw
     case rel=>exact ⟨3,K',cL',AL',F',ok',rl',rs',c,t,v,ct,los,by decide,rfl,rfl,HMO,Lib.hid ⟨HNU.out.len,HNU.out.ev,by have:=HNU.out.Ka;omega,by have:=HNU.out.rlen;have:=HAD.out.rlen;omega,HNU.out.b0,by have:=HNU.out.b3;omega,HNU.out.t0,HNU.out.tm⟩,HBLK1,HLB1⟩
     case measure=>simp [RowKit.intOf]
    ·refine wp_seq_k (fun K17 hK=>?_)
     have HK17:=Lib.hid hK
     clear hK
     go_wp2
     refine HK17.out _ _ ?_
     clear HK17 x1
     refine Code.wp_mono (Norm.elim ?_) (Bd w w1 M g b F' ok' P0 rl' rs' c t (i:Int) 2 v ct los AL' A1 A2 K' cL' xs.length c1 os.length c2 xs os HMO.out HNU.out.len (by have:=HNU.out.Ka;omega) HNU.out.ev HAD.out.hb rfl HAD.out.xl HAD.out.hr rfl HAD.out.one HAD.out.any (Nat.le_trans HWS.out HAD.out.lM) HAD.out.Ml HAD.out.os_ (by have:=HAD.out.ol;have:=HNU.out.rlen;omega) HNU.out.b0 (by have:=HNU.out.b3;have:=HAD.out.ol;have:=HNU.out.rlen;omega) HNU.out.t0 (by omega))
     rintro a' W ⟨AL2,cL2,e15,e16,e17,e18,e84,e85,e86,e87,e88,e89,e90,e91,e92,e93,e94,e95,e96,e97,e98,e99,e100,e101,e102,e103,e104,e105,e106,e107,e108,e109,e110,e111,e112,e113,e114,e115,e116,e117,e118,e119,e120,e121,e122,e123,e124,e125,e126,e127,e128,e129,e130,e131,e132,e133,e134,e135,e136,e137,e138,e139,e140,e141,e142,e143,e144,e145,e146,rfl,HX⟩
     refine HKb.out _ _ ?_
     clear HKb
     go_wp2
     go_roundw
     case rel =>
      obtain ⟨c',t',v',ct',los',hbd⟩:=HX.out
      refine ⟨3,K'+2,cL2,AL2,F',ok',rl',rs',c',t',v',ct',los',by decide,rfl,rfl,Lib.hid hbd.mo,Lib.hid ⟨by rw [hbd.len,HNU.out.len],by have:=HNU.out.ev;omega,by have:=HNU.out.Ka;omega,by have:=HNU.out.rlen;have:=HAD.out.rlen;omega,hbd.b0,by have:=HNU.out.b3;have:=hbd.b3;have:=HAD.out.ol;have:=HNU.out.rlen;omega,hbd.t0,by have:=hbd.tm;have:=HAD.out.ol;have:=HNU.out.rlen;omega⟩,Lib.hid (hbd.ch.blk HBLK1.out fun e=>e.elim (fun e=>HLB1.out _ e rfl) fun e=>by have:=hBLK.out.lt;have:=HAD.out.lM;omega),Lib.hid fun q hq e=>(hbd.sp q hq).elim (fun e2=>HLB1.out q e2 e) fun e2=>by have:=hBLK.out.lt;have:=HAD.out.lM;omega⟩
     case measure=>simp [RowKit.intOf]
   ·obtain rfl:k=3:=hkq
    have HNU:=hNU
    have HWS:=Lib.hid hM.out.ch.size
    have l0:=hBLK.out.cell 18
    have l1:=hBLK.out.cell 19
    have l2:=hBLK.out.cell 20
    have l3:=hBLK.out.cell 21
    have l4:=hBLK.out.cell 22
    have l5:=hBLK.out.cell 23
    simp only [asks4,List.getElem?_toArray,List.getElem?_cons_zero,List.getElem?_cons_succ] at l0 l1 l2 l3 l4 l5
    have HSTEP:=Lib.hid (hM.out.asks 0 7 0 0 0 none 0 0 (.inr rfl) (by decide) (by decide) (by decide) (by decide) (by have:=hNU.out.rlen;omega))
    refine wp_seq_k (fun Kc hK=>?_)
    have HKc:=Lib.hid hK
    clear hK
    go_wp2
    refine HKc.out _ _ ?_
    clear HKc
    refine wp_seq_k (fun Kb hK=>?_)
    have HKb:=Lib.hid hK
    clear hK
    refine wp_block ?_
    refine wp_seq_k (fun K13 hK=>?_)
    have HK13:=Lib.hid hK
    clear hK
    go_wp2
    refine HK13.out _ _ ?_
    clear HK13
    refine wp_seq_k (fun K14 hK=>?_)
    have HK14:=Lib.hid hK
    clear hK
    go_wp2_with (go_at_call 16;refine HSTEP.out.mono ?_;rintro e w1 ⟨F',ok',rl',rs',M,A1,A2,c1,c2,xs,os,rfl,had⟩;have HAD:=Lib.hid had;have HMO:=Lib.hid had.mo;have HBLK1:=Lib.hid (had.ch.blk hBLK.out fun e=>hLB.out _ (.inl e) rfl);have HLB1:=Lib.hid (show ∀ q,Any F' ok' b v ct (.slice AL' K' cL') los q→q≠lb from fun q hq e=>(had.sp q hq).elim (fun e2=>hLB.out q e2 e) fun e2=>by have:=hBLK.out.lt;omega);have x1:w1.cell? ⟨b,1,none⟩=some (.int .i64 t):=had.mo.bo.bk.hd.cell 1;clear had)
    refine HK14.out _ _ ?_
    clear HK14
    refine wp_seq_k (fun K15 hK=>?_)
    have HK15:=Lib.hid hK
    clear hK
    go_wp2
    refine HK15.out _ _ ?_
    clear HK15
    by_cases h4:4000<t
    ·go_wp2
     refine HKb.out _ _ ?_
     clear x1
     go_wp2
     go_roundw
     case rel=>exact ⟨4,K',cL',AL',F',ok',rl',rs',c,t,v,ct,los,by decide,rfl,rfl,HMO,Lib.hid ⟨HNU.out.len,HNU.out.ev,by have:=HNU.out.Ka;omega,by have:=HNU.out.rlen;have:=HAD.out.rlen;omega,HNU.out.b0,by have:=HNU.out.b3;omega,HNU.out.t0,HNU.out.tm⟩,HBLK1,HLB1⟩
     case measure=>simp [RowKit.intOf]
    ·refine wp_seq_k (fun K17 hK=>?_)
     have HK17:=Lib.hid hK
     clear hK
     go_wp2
     refine HK17.out _ _ ?_
     clear HK17 x1
     refine Code.wp_mono (Norm.elim ?_) (Bd w w1 M g b F' ok' P0 rl' rs' c t (i:Int) 3 v ct los AL' A1 A2 K' cL' xs.length c1 os.length c2 xs os HMO.out HNU.out.len (by have:=HNU.out.Ka;omega) HNU.out.ev HAD.out.hb rfl HAD.out.xl HAD.out.hr rfl HAD.out.one HAD.out.any (Nat.le_trans HWS.out HAD.out.lM) HAD.out.Ml HAD.out.os_ (by have:=HAD.out.ol;have:=HNU.out.rlen;omega) HNU.out.b0 (by have:=HNU.out.b3;have:=HAD.out.ol;have:=HNU.out.rlen;omega) HNU.out.t0 (by omega))
     rintro a' W ⟨AL2,cL2,e15,e16,e17,e18,e84,e85,e86,e87,e88,e89,e90,e91,e92,e93,e94,e95,e96,e97,e98,e99,e100,e101,e102,e103,e104,e105,e106,e107,e108,e109,e110,e111,e112,e113,e114,e115,e116,e117,e118,e119,e120,e121,e122,e123,e124,e125,e126,e127,e128,e129,e130,e131,e132,e133,e134,e135,e136,e137,e138,e139,e140,e141,e142,e143,e144,e145,e146,rfl,HX⟩
     refine HKb.out _ _ ?_
     clear HKb
     go_wp2
     go_roundw
     case rel =>
      obtain ⟨c',t',v',ct',los',hbd⟩:=HX.out
      refine ⟨4,K'+2,cL2,AL2,F',ok',rl',rs',c',t',v',ct',los',by decide,rfl,rfl,Lib.hid hbd.mo,Lib.hid ⟨by rw [hbd.len,HNU.out.len],by have:=HNU.out.ev;omega,by have:=HNU.out.Ka;omega,by have:=HNU.out.rlen;have:=HAD.out.rlen;omega,hbd.b0,by have:=HNU.out.b3;have:=hbd.b3;have:=HAD.out.ol;have:=HNU.out.rlen;omega,hbd.t0,by have:=hbd.tm;have:=HAD.out.ol;have:=HNU.out.rlen;omega⟩,Lib.hid (hbd.ch.blk HBLK1.out fun e=>e.elim (fun e=>HLB1.out _ e rfl) fun e=>by have:=hBLK.out.lt;have:=HAD.out.lM;omega),Lib.hid fun q hq e=>(hbd.sp q hq).elim (fun e2=>HLB1.out q e2 e) fun e2=>by have:=hBLK.out.lt;have:=HAD.out.lM;omega⟩
     case measure=>simp [RowKit.intOf]
  ·obtain rfl:k=4:=by omega
   go_wp2
   refine Norm.mk ?_
   exact ⟨AL',cL',K',_,_,_,_,_,_,_,_,_,_,_,_,_,_,_,_,_,_,_,_,_,_,_,_,_,_,_,_,_,_,_,_,_,_,_,_,_,_,_,_,_,_,_,_,_,_,_,_,_,_,_,_,_,_,_,_,_,_,_,_,_,_,_,_,_,_,_,_,_,_,_,_,_,_,_,_,_,_,_,_,_,_,_,_,_,_,_,_,_,_,_,_,_,_,_,_,_,_,_,_,_,_,_,_,_, rfl,Lib.hid ⟨_,_,_,_,_,_,_,_,_,hM.out,hNU.out⟩⟩
end Go.Proofs.Ythmeojeehemlaaa.Bk
end
