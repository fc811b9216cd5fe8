/- Parts of the proof, laid together by a program of this session (pack.py): Mo8, Mo9, MoA. -/
import Derived.Test.YthmeojeehemlaaaZC16
import Derived.BigRegion
set_option linter.unusedVariables false
set_option linter.unusedSimpArgs false
set_option maxRecDepth 100000
set_option maxHeartbeats 16000000
section
namespace Go.Proofs.Ythmeojeehemlaaa.Bk
open Go.RowKit Go.Proofs.YthmeojeehemlaaaW.PrintWords Go.Proofs.Ythmeojeehemlaaa.Mem Go.Proofs.Ythmeojeehemlaaa.Lnd Go.Proofs.Ythmeojeehemlaaa.PM
attribute [local go_sem] isSome_setCell
def Sc (w wr:World) (g b:Nat) (P0:Option Addr) (nr i:Nat) (AL:Option Addr) (K cL:Nat):Prop:=∃ (F ok:Nat→Prop) (rl:List S39) (rs:List Reg) (c t:Int) (v:Fin 5→Value) (ct:Fin 5→List Value) (los:List Value),Mo w wr g b F ok P0 rl rs c t v ct (.slice AL K cL) los∧Num rl t ct los nr (4*i) K
theorem Sc.never {w wr w2:World} {g b:Nat} {P0:Option Addr} {nr i:Nat} {AL:Option Addr} {K cL:Nat} (h:Sc w wr g b P0 nr i AL K cL) (hc:Ch wr w2 Never):Sc w w2 g b P0 nr i AL K cL:=by
 obtain ⟨F,ok,rl,rs,c,t,v,ct,los,hm,hn⟩:=h
 exact ⟨F,ok,rl,rs,c,t,v,ct,los,hm.never hc,hn⟩
theorem Sc.holds {w wr:World} {g b:Nat} {P0:Option Addr} {nr i:Nat} {AL:Option Addr} {K cL:Nat} (h:Sc w wr g b P0 nr i AL K cL) (hi:i≤150000) :
  Calls Try.prog 18 #[.pointer (some ⟨b,0,none⟩)] wr fun e w'=>e=.returned (.bool true)∧Ch wr w' Never:=by
 obtain ⟨F,ok,rl,rs,c,t,v,ct,los,hm,hn⟩:=h
 exact holds_ wr b c t v ct hm.bo.bk hm.bo.fh (by have:=hn.b0;omega) hm.bo.kw (by have:=hn.b3;omega)
theorem R9 (w0:World) (i n3 c3:Nat) (ad:Addr) (a:S46) (Ai:Option Addr) (ci:Nat)
  (d0:w0.cell? (ad.add (i*6))=some (.int .i64 a.wh)) (d1:w0.cell? ⟨(ad.add (i*6)).block,(ad.add (i*6)).off+1,none⟩=some (.int .i64 a.kd)) (d2:w0.cell? ⟨(ad.add (i*6)).block,(ad.add (i*6)).off+2,none⟩=some (.int .u64 a.x)) (d3:w0.cell? ⟨(ad.add (i*6)).block,(ad.add (i*6)).off+3,none⟩=some (.int .i64 a.m)) (d4:w0.cell? ⟨(ad.add (i*6)).block,(ad.add (i*6)).off+4,none⟩=some (.int .u64 a.v)) (d5:w0.cell? ⟨(ad.add (i*6)).block,(ad.add (i*6)).off+5,none⟩=some (.slice Ai a.dat.length ci))
  (hi:i<n3) (hn3:n3≤149900) (hc3:n3≤c3) {y0 y2 y3 y4 y5 y6 y7 y8 y10 y11 y12 y13 y14 y15 y16 y17 y18 y19 y20 y21 y22 y23 y24 y25 y26 y27 y28 y29 y30 y31 y32 y33 y34 y35 y36 y37 y38 y39 y40 y41 y42 y43 y44 y45 y46 y47 y48 y49 y50 y51 y52 y53 y54 y55 y56 y57 y58 y59 y60 y61 y62 y63 y64 y65 y66 y67 y68 y69 y70 y71 y72 y73 y74 y75 y76 y77 y78 y79 y80 y81 y82 y83 y84 y85 y86 y87 y88 y89 y90 y91 y92 y93 y94 y95 y96 y97 y98 y99 y100 y101 y102 y103 y104 y105 y106 y107 y108 y109 y110 y111 y112 y113 y114 y115 y116 y117 y118 y119 y120 y121 y122 y123 y124 y125 y126 y127 y128 y129 y130 y131 y132 y133 y134 y135 y136 y137 y138 y139 y140 y141 y142 y143 y144 y145 y146 y147 y148 y149 y150 y151 y152 y153 y154 y155 y156 y157 y158 y159 y160 y161 y162 y163 y164 y165 y166 y167 y168 y169 y170 y171 y172 y173 y174 y175 y176 y177 y178 y179 y180 y181 y182 y183 y184 y185 y186 y187 y188 y189 y190 y191 y192 y193 y194 y195 y196 y197 y198 y199 y200 y201 y202 y203 y204 y205 y206 y207 y208 y209 y210 y211 y212 y213 y214 y215 y216 y217:Value} :
  Code.wp Try.prog (left (bodyX0 (Try.f6.body.getD .skip))) (Norm fun a' W=>∃ (e40 e41 e42 e43 e44 e45 e46 e47 e48 e49 e50:Value),a'={ tmps:=#[y0,(.slice (some ad) n3 c3),y2,y3,y4,y5,y6,y7,y8,(.int .i64 (i:Int)),(.slice (some ⟨w0.heap.size,0,none⟩) 4 4),y11,y12,y13,y14,y15,y16,y17,y18,y19,y20,y21,y22,y23,y24,y25,y26,y27,y28,y29,y30,y31,y32,y33,y34,y35,y36,y37,y38,y39,e40,e41,e42,e43,e44,e45,e46,e47,e48,e49,e50,y51,y52,y53,y54,y55,y56,y57,y58,y59,y60,y61,y62,y63,y64,y65,y66,y67,y68,y69,y70,y71,y72,y73,y74,y75,y76,y77,y78,y79,y80,y81,y82,y83,y84,y85,y86,y87,y88,y89,y90,y91,y92,y93,y94,y95,y96,y97,y98,y99,y100,y101,y102,y103,y104,y105,y106,y107,y108,y109,y110,y111,y112,y113,y114,y115,y116,y117,y118,y119,y120,y121,y122,y123,y124,y125,y126,y127,y128,y129,y130,y131,y132,y133,y134,y135,y136,y137,y138,y139,y140,y141,y142,y143,y144,y145,y146,y147,y148,y149,y150,y151,y152,y153,y154,y155,y156,y157,y158,y159,y160,y161,y162,y163,y164,y165,y166,y167,y168,y169,y170,y171,y172,y173,y174,y175,y176,y177,y178,y179,y180,y181,y182,y183,y184,y185,y186,y187,y188,y189,y190,y191,y192,y193,y194,y195,y196,y197,y198,y199,y200,y201,y202,y203,y204,y205,y206,y207,y208,y209,y210,y211,y212,y213,y214,y215,y216,y217],defers:=[] }∧Hid (Ch w0 W Never∧Blk W w0.heap.size 46 (asks4 a Ai ci))) { tmps:=#[y0,(.slice (some ad) n3 c3),y2,y3,y4,y5,y6,y7,y8,(.int .i64 (i:Int)),y10,y11,y12,y13,y14,y15,y16,y17,y18,y19,y20,y21,y22,y23,y24,y25,y26,y27,y28,y29,y30,y31,y32,y33,y34,y35,y36,y37,y38,y39,y40,y41,y42,y43,y44,y45,y46,y47,y48,y49,y50,y51,y52,y53,y54,y55,y56,y57,y58,y59,y60,y61,y62,y63,y64,y65,y66,y67,y68,y69,y70,y71,y72,y73,y74,y75,y76,y77,y78,y79,y80,y81,y82,y83,y84,y85,y86,y87,y88,y89,y90,y91,y92,y93,y94,y95,y96,y97,y98,y99,y100,y101,y102,y103,y104,y105,y106,y107,y108,y109,y110,y111,y112,y113,y114,y115,y116,y117,y118,y119,y120,y121,y122,y123,y124,y125,y126,y127,y128,y129,y130,y131,y132,y133,y134,y135,y136,y137,y138,y139,y140,y141,y142,y143,y144,y145,y146,y147,y148,y149,y150,y151,y152,y153,y154,y155,y156,y157,y158,y159,y160,y161,y162,y163,y164,y165,y166,y167,y168,y169,y170,y171,y172,y173,y174,y175,y176,y177,y178,y179,y180,y181,y182,y183,y184,y185,y186,y187,y188,y189,y190,y191,y192,y193,y194,y195,y196,y197,y198,y199,y200,y201,y202,y203,y204,y205,y206,y207,y208,y209,y210,y211,y212,y213,y214,y215,y216,y217],defers:=[] } w0:=by
 unfold Try.f6
 dsimp only [Option.getD,postC,bodyX0,left,right,inner]
 go_region
 refine Norm.mk ?_
 exact ⟨_,_,_,_,_,_,_,_,_,_,_, rfl,Lib.hid ⟨((Ch.refl w0 Never).alloc _).drew,(Blk.new w0 46 (asks4 a Ai ci)).drew⟩⟩
theorem K2 (w w0:World) (g b i nr K cL n3 c3:Nat) (AL:Option Addr) (ad:Addr) (P0:Option Addr) (a:S46) (Ai:Option Addr) (ci:Nat)
  (h0:Sc w w0 g b P0 nr i AL K cL)
  (hC:Kd.C (Kd.int .u8) w Ai a.dat.length a.dat) (hci:a.dat.length≤ci) (hf:Fit46 a)
  (e0:w.cell? (ad.add (i*6))=some (.int .i64 a.wh)) (e1:w.cell? ⟨(ad.add (i*6)).block,(ad.add (i*6)).off+1,none⟩=some (.int .i64 a.kd)) (e2:w.cell? ⟨(ad.add (i*6)).block,(ad.add (i*6)).off+2,none⟩=some (.int .u64 a.x)) (e3:w.cell? ⟨(ad.add (i*6)).block,(ad.add (i*6)).off+3,none⟩=some (.int .i64 a.m)) (e4:w.cell? ⟨(ad.add (i*6)).block,(ad.add (i*6)).off+4,none⟩=some (.int .u64 a.v)) (e5:w.cell? ⟨(ad.add (i*6)).block,(ad.add (i*6)).off+5,none⟩=some (.slice Ai a.dat.length ci))
  (hi:i<n3) (hn3:n3≤149900) (hc3:n3≤c3) (hnr:nr+1≤500000) {y0 y2 y3 y4 y6 y10 y11 y12 y13 y14 y15 y16 y17 y18 y19 y20 y21 y22 y23 y24 y25 y26 y27 y28 y29 y30 y31 y32 y33 y34 y35 y36 y37 y38 y39 y40 y41 y42 y43 y44 y45 y46 y47 y48 y49 y50 y51 y52 y53 y54 y55 y56 y57 y58 y59 y60 y61 y62 y63 y64 y65 y66 y67 y68 y69 y70 y71 y72 y73 y74 y75 y76 y77 y78 y79 y80 y81 y82 y83 y84 y85 y86 y87 y88 y89 y90 y91 y92 y93 y94 y95 y96 y97 y98 y99 y100 y101 y102 y103 y104 y105 y106 y107 y108 y109 y110 y111 y112 y113 y114 y115 y116 y117 y118 y119 y120 y121 y122 y123 y124 y125 y126 y127 y128 y129 y130 y131 y132 y133 y134 y135 y136 y137 y138 y139 y140 y141 y142 y143 y144 y145 y146 y147 y148 y149 y150 y151 y152 y153 y154 y155 y156 y157 y158 y159 y160 y161 y162 y163 y164 y165 y166 y167 y168 y169 y170 y171 y172 y173 y174 y175 y176 y177 y178 y179 y180 y181 y182 y183 y184 y185 y186 y187 y188 y189 y190 y191 y192 y193 y194 y195 y196 y197 y198 y199 y200 y201 y202 y203 y204 y205 y206 y207 y208 y209 y210 y211 y212 y213 y214 y215 y216 y217:Value} :
  Code.wp Try.prog (bodyX0 (Try.f6.body.getD .skip)) (Norm fun a' W=>∃ (AL2:Option Addr) (cL2 K2:Nat) (e4 e10 e11 e12 e13 e14 e15 e16 e17 e18 e40 e41 e42 e43 e44 e45 e46 e47 e48 e49 e50 e51 e52 e53 e54 e55 e56 e57 e58 e59 e60 e61 e62 e63 e64 e65 e66 e67 e68 e69 e70 e71 e72 e73 e74 e75 e76 e77 e78 e79 e80 e81 e82 e83 e84 e85 e86 e87 e88 e89 e90 e91 e92 e93 e94 e95 e96 e97 e98 e99 e100 e101 e102 e103 e104 e105 e106 e107 e108 e109 e110 e111 e112 e113 e114 e115 e116 e117 e118 e119 e120 e121 e122 e123 e124 e125 e126 e127 e128 e129 e130 e131 e132 e133 e134 e135 e136 e137 e138 e139 e140 e141 e142 e143 e144 e145 e146 e147 e148 e149 e150 e151 e152 e153 e154:Value),a'={ tmps:=#[y0,(.slice (some ad) n3 c3),y2,y3,e4,(.pointer (some ⟨g,0,none⟩)),y6,(.pointer (some ⟨b,0,none⟩)),(.slice AL2 K2 cL2),(.int .i64 (i:Int)),e10,e11,e12,e13,e14,e15,e16,e17,e18,y19,y20,y21,y22,y23,y24,y25,y26,y27,y28,y29,y30,y31,y32,y33,y34,y35,y36,y37,y38,y39,e40,e41,e42,e43,e44,e45,e46,e47,e48,e49,e50,e51,e52,e53,e54,e55,e56,e57,e58,e59,e60,e61,e62,e63,e64,e65,e66,e67,e68,e69,e70,e71,e72,e73,e74,e75,e76,e77,e78,e79,e80,e81,e82,e83,e84,e85,e86,e87,e88,e89,e90,e91,e92,e93,e94,e95,e96,e97,e98,e99,e100,e101,e102,e103,e104,e105,e106,e107,e108,e109,e110,e111,e112,e113,e114,e115,e116,e117,e118,e119,e120,e121,e122,e123,e124,e125,e126,e127,e128,e129,e130,e131,e132,e133,e134,e135,e136,e137,e138,e139,e140,e141,e142,e143,e144,e145,e146,e147,e148,e149,e150,e151,e152,e153,e154,y155,y156,y157,y158,y159,y160,y161,y162,y163,y164,y165,y166,y167,y168,y169,y170,y171,y172,y173,y174,y175,y176,y177,y178,y179,y180,y181,y182,y183,y184,y185,y186,y187,y188,y189,y190,y191,y192,y193,y194,y195,y196,y197,y198,y199,y200,y201,y202,y203,y204,y205,y206,y207,y208,y209,y210,y211,y212,y213,y214,y215,y216,y217],defers:=[] }∧Hid (Sc w W g b P0 (nr+1) (i+1) AL2 K2 cL2)) { tmps:=#[y0,(.slice (some ad) n3 c3),y2,y3,y4,(.pointer (some ⟨g,0,none⟩)),y6,(.pointer (some ⟨b,0,none⟩)),(.slice AL K cL),(.int .i64 (i:Int)),y10,y11,y12,y13,y14,y15,y16,y17,y18,y19,y20,y21,y22,y23,y24,y25,y26,y27,y28,y29,y30,y31,y32,y33,y34,y35,y36,y37,y38,y39,y40,y41,y42,y43,y44,y45,y46,y47,y48,y49,y50,y51,y52,y53,y54,y55,y56,y57,y58,y59,y60,y61,y62,y63,y64,y65,y66,y67,y68,y69,y70,y71,y72,y73,y74,y75,y76,y77,y78,y79,y80,y81,y82,y83,y84,y85,y86,y87,y88,y89,y90,y91,y92,y93,y94,y95,y96,y97,y98,y99,y100,y101,y102,y103,y104,y105,y106,y107,y108,y109,y110,y111,y112,y113,y114,y115,y116,y117,y118,y119,y120,y121,y122,y123,y124,y125,y126,y127,y128,y129,y130,y131,y132,y133,y134,y135,y136,y137,y138,y139,y140,y141,y142,y143,y144,y145,y146,y147,y148,y149,y150,y151,y152,y153,y154,y155,y156,y157,y158,y159,y160,y161,y162,y163,y164,y165,y166,y167,y168,y169,y170,y171,y172,y173,y174,y175,y176,y177,y178,y179,y180,y181,y182,y183,y184,y185,y186,y187,y188,y189,y190,y191,y192,y193,y194,y195,y196,y197,y198,y199,y200,y201,y202,y203,y204,y205,y206,y207,y208,y209,y210,y211,y212,y213,y214,y215,y216,y217],defers:=[] } w0:=by
 have hch:Ch w w0 Never:=by obtain ⟨F,ok,rl,rs,c,t,v,ct,los,hm,hn⟩:=h0;exact hm.ch
 have d0:=hch.cell e0 (fun h=>h)
 have d1:=hch.cell e1 (fun h=>h)
 have d2:=hch.cell e2 (fun h=>h)
 have d3:=hch.cell e3 (fun h=>h)
 have d4:=hch.cell e4 (fun h=>h)
 have d5:=hch.cell e5 (fun h=>h)
 have H0:=Lib.hid h0
 have HC:=Lib.hid hC
 have HF:=Lib.hid hf
 have HE:=Lib.hid e1
 clear h0 hC hf hch e0 e1 e2 e3 e4 e5
 unfold Try.f6
 dsimp only [Option.getD,postC,bodyX0,left,right,inner]
 refine wp_seq_k (fun K9 hK=>?_)
 have HK9:=Lib.hid hK
 clear hK
 refine Code.wp_mono (Norm.elim ?_) (R9 w0 i n3 c3 ad a Ai ci d0 d1 d2 d3 d4 d5 hi hn3 hc3)
 rintro a1 w1 ⟨e40,e41,e42,e43,e44,e45,e46,e47,e48,e49,e50,rfl,hX⟩
 refine HK9.out _ _ ?_
 clear HK9 d0 d1 d2 d3 d4 d5
 refine wp_seq_k (fun K10 hK=>?_)
 have HK10:=Lib.hid hK
 clear hK
 obtain ⟨F,ok,rl,rs,c,t,v,ct,los,hm,hn⟩:=H0.out
 refine Code.wp_mono (Norm.elim ?_) (K1 w w1 g b w0.heap.size i nr K cL n3 c3 AL ad P0 F ok rl rs c t v ct los a Ai ci (hm.never hX.out.1) hn hX.out.2 (fun q hq e=>by have:=hm.lt q hq;omega) HC.out hci HF.out HE.out hi hn3 hc3 hnr)
 rintro a2 w2 ⟨AL2,cL2,K2,e4,e11,e12,e13,e14,e15,e16,e17,e18,e51,e52,e53,e54,e55,e56,e57,e58,e59,e60,e61,e62,e63,e64,e65,e66,e67,e68,e69,e70,e71,e72,e73,e74,e75,e76,e77,e78,e79,e80,e81,e82,e83,e84,e85,e86,e87,e88,e89,e90,e91,e92,e93,e94,e95,e96,e97,e98,e99,e100,e101,e102,e103,e104,e105,e106,e107,e108,e109,e110,e111,e112,e113,e114,e115,e116,e117,e118,e119,e120,e121,e122,e123,e124,e125,e126,e127,e128,e129,e130,e131,e132,e133,e134,e135,e136,e137,e138,e139,e140,e141,e142,e143,e144,e145,e146,rfl,hY⟩
 refine HK10.out _ _ ?_
 clear HK10 hX hm hn
 have HS:=Lib.hid (show Sc w w2 g b P0 (nr+1) (i+1) AL2 K2 cL2 from hY.out)
 clear hY
 by_cases h3:i % 4=3
 ·go_wp2_with (go_at_call 18;refine (HS.out.holds (by omega)).mono ?_;rintro e w3 ⟨rfl,hc⟩;have HC3:=Lib.hid hc;clear hc)
  refine Norm.mk ?_
  exact ⟨_,_,_,_,_,_,_,_,_,_,_,_,_,_,_,_,_,_,_,_,_,_,_,_,_,_,_,_,_,_,_,_,_,_,_,_,_,_,_,_,_,_,_,_,_,_,_,_,_,_,_,_,_,_,_,_,_,_,_,_,_,_,_,_,_,_,_,_,_,_,_,_,_,_,_,_,_,_,_,_,_,_,_,_,_,_,_,_,_,_,_,_,_,_,_,_,_,_,_,_,_,_,_,_,_,_,_,_,_,_,_,_,_,_,_,_,_,_,_,_,_,_,_,_,_,_,_,_, rfl,Lib.hid (HS.out.never HC3.out)⟩
 ·go_wp2
  refine Norm.mk ?_
  exact ⟨_,_,_,_,_,_,_,_,_,_,_,_,_,_,_,_,_,_,_,_,_,_,_,_,_,_,_,_,_,_,_,_,_,_,_,_,_,_,_,_,_,_,_,_,_,_,_,_,_,_,_,_,_,_,_,_,_,_,_,_,_,_,_,_,_,_,_,_,_,_,_,_,_,_,_,_,_,_,_,_,_,_,_,_,_,_,_,_,_,_,_,_,_,_,_,_,_,_,_,_,_,_,_,_,_,_,_,_,_,_,_,_,_,_,_,_,_,_,_,_,_,_,_,_,_,_,_,_, rfl,HS⟩
end Go.Proofs.Ythmeojeehemlaaa.Bk
end
section
namespace Go.Proofs.Ythmeojeehemlaaa.Bk
open Go.RowKit Go.Proofs.YthmeojeehemlaaaW.PrintWords Go.Proofs.Ythmeojeehemlaaa.Mem Go.Proofs.Ythmeojeehemlaaa.Lnd Go.Proofs.Ythmeojeehemlaaa.PM
attribute [local go_sem] isSome_setCell
theorem Mo.first {w w1:World} {F ok:Nat→Prop} {g:Nat} {P0:Option Addr} {rl:List S39} {rs:List Reg} (hD:DeskAt w1 F ok g P0 rl rs) (hb:Below w.heap.size w w1) (hF:∀ k,F k→w.heap.size≤k) (hok:∀ k,ok k→w.heap.size≤k) :
  Mo w (w1.alloc (.cells #[.int .i64 0,.int .i64 0,.bool false,.slice none 0 0,.slice none 0 0,.slice none 0 0,.slice none 0 0,.slice none 0 0] 55)) g w1.heap.size F ok P0 rl rs 0 0 (fun _=>.slice none 0 0) (fun _=>[]) (.slice none 0 0) []:=by
 have ha:Ch w1 (w1.alloc (.cells #[.int .i64 0,.int .i64 0,.bool false,.slice none 0 0,.slice none 0 0,.slice none 0 0,.slice none 0 0,.slice none 0 0] 55)) Never:=(Ch.refl w1 Never).alloc _
 have h0:Ch w w1 Never:=⟨hb.os,hb.tape,hb.output,hb.size,fun k hk _=>hb.block k hk⟩
 have hft:∀ k,Foot w1.heap.size (fun _=>Value.slice none 0 0) (fun _=>[]) k→k=w1.heap.size:=fun k hk=>by
  rcases hk with (e|⟨i,e⟩)|⟨_,_,_,e,_⟩|⟨_,_,_,e,_⟩|⟨_,_,_,e,_⟩|⟨_,_,_,e,_⟩
  ·exact e
  ·simp [Value.ownBlock] at e
  all_goals simp at e
 have hlz:∀ k,¬ LZ (.slice none 0 0) [] k:=fun k hk=>by
  rcases hk with e|⟨_,_,_,e,_⟩
  ·simp [Value.ownBlock] at e
  ·simp at e
 refine ⟨h0.trans ha fun _ h=>h.elim,hD.chg (Chg.of_ch ha) (fun _ _ h=>h) (fun _ _ h=>h),fun k hk=>hk.elim (hF k) (hok k),Book.new (Blk.new w1 55 _),fun k hk=>?_,⟨Row.nil _ _,fun j u hu=>by simp at hu⟩,fun k hk=>(hlz k hk).elim⟩
 have hk:=hft k hk
 subst hk
 exact ⟨hb.size,fun e=>Nat.lt_irrefl _ (hD.lt _ e),fun e=>Nat.lt_irrefl _ (hD.oklt _ e)⟩
theorem wp_norm_k {P:Program} {c:Code} {Q:Exit→Act→World→Prop} {a:Act} {w:World} (h:∀ R:Act→World→Prop,(∀ a w,Q .normal a w→R a w)→Code.wp P c (Norm R) a w):Code.wp P c Q a w:=
 Code.wp_mono (Norm.elim fun _ _ h=>h) (h (Q .normal) fun _ _ h=>h)
theorem K2f (w w0:World) (g b i nr K cL n3 c3:Nat) (AL:Option Addr) (ad:Addr) (P0:Option Addr) (a:S46) (Ai:Option Addr) (ci:Nat)
  (h0:Sc w w0 g b P0 nr i AL K cL)
  (hC:Kd.C (Kd.int .u8) w Ai a.dat.length a.dat) (hci:a.dat.length≤ci) (hf:Fit46 a)
  (e0:w.cell? (ad.add (i*6))=some (.int .i64 a.wh)) (e1:w.cell? ⟨(ad.add (i*6)).block,(ad.add (i*6)).off+1,none⟩=some (.int .i64 a.kd)) (e2:w.cell? ⟨(ad.add (i*6)).block,(ad.add (i*6)).off+2,none⟩=some (.int .u64 a.x)) (e3:w.cell? ⟨(ad.add (i*6)).block,(ad.add (i*6)).off+3,none⟩=some (.int .i64 a.m)) (e4:w.cell? ⟨(ad.add (i*6)).block,(ad.add (i*6)).off+4,none⟩=some (.int .u64 a.v)) (e5:w.cell? ⟨(ad.add (i*6)).block,(ad.add (i*6)).off+5,none⟩=some (.slice Ai a.dat.length ci))
  (hi:i<n3) (hn3:n3≤149900) (hc3:n3≤c3) (hnr:nr+1≤500000) {y0 y2 y3 y4 y6 y10 y11 y12 y13 y14 y15 y16 y17 y18 y19 y20 y21 y22 y23 y24 y25 y26 y27 y28 y29 y30 y31 y32 y33 y34 y35 y36 y37 y38 y39 y40 y41 y42 y43 y44 y45 y46 y47 y48 y49 y50 y51 y52 y53 y54 y55 y56 y57 y58 y59 y60 y61 y62 y63 y64 y65 y66 y67 y68 y69 y70 y71 y72 y73 y74 y75 y76 y77 y78 y79 y80 y81 y82 y83 y84 y85 y86 y87 y88 y89 y90 y91 y92 y93 y94 y95 y96 y97 y98 y99 y100 y101 y102 y103 y104 y105 y106 y107 y108 y109 y110 y111 y112 y113 y114 y115 y116 y117 y118 y119 y120 y121 y122 y123 y124 y125 y126 y127 y128 y129 y130 y131 y132 y133 y134 y135 y136 y137 y138 y139 y140 y141 y142 y143 y144 y145 y146 y147 y148 y149 y150 y151 y152 y153 y154 y155 y156 y157 y158 y159 y160 y161 y162 y163 y164 y165 y166 y167 y168 y169 y170 y171 y172 y173 y174 y175 y176 y177 y178 y179 y180 y181 y182 y183 y184 y185 y186 y187 y188 y189 y190 y191 y192 y193 y194 y195 y196 y197 y198 y199 y200 y201 y202 y203 y204 y205 y206 y207 y208 y209 y210 y211 y212 y213 y214 y215 y216 y217:Value} :
  Code.wp Try.prog (bodyX0 (Try.f6.body.getD .skip)) (Norm fun a' W=>∃ (AL2:Option Addr) (cL2 K2:Nat) (f:Nat→Value),a'={ tmps:=#[y0,(.slice (some ad) n3 c3),y2,y3,(f 4),(.pointer (some ⟨g,0,none⟩)),y6,(.pointer (some ⟨b,0,none⟩)),(.slice AL2 K2 cL2),(.int .i64 (i:Int)),(f 10),(f 11),(f 12),(f 13),(f 14),(f 15),(f 16),(f 17),(f 18),y19,y20,y21,y22,y23,y24,y25,y26,y27,y28,y29,y30,y31,y32,y33,y34,y35,y36,y37,y38,y39,(f 40),(f 41),(f 42),(f 43),(f 44),(f 45),(f 46),(f 47),(f 48),(f 49),(f 50),(f 51),(f 52),(f 53),(f 54),(f 55),(f 56),(f 57),(f 58),(f 59),(f 60),(f 61),(f 62),(f 63),(f 64),(f 65),(f 66),(f 67),(f 68),(f 69),(f 70),(f 71),(f 72),(f 73),(f 74),(f 75),(f 76),(f 77),(f 78),(f 79),(f 80),(f 81),(f 82),(f 83),(f 84),(f 85),(f 86),(f 87),(f 88),(f 89),(f 90),(f 91),(f 92),(f 93),(f 94),(f 95),(f 96),(f 97),(f 98),(f 99),(f 100),(f 101),(f 102),(f 103),(f 104),(f 105),(f 106),(f 107),(f 108),(f 109),(f 110),(f 111),(f 112),(f 113),(f 114),(f 115),(f 116),(f 117),(f 118),(f 119),(f 120),(f 121),(f 122),(f 123),(f 124),(f 125),(f 126),(f 127),(f 128),(f 129),(f 130),(f 131),(f 132),(f 133),(f 134),(f 135),(f 136),(f 137),(f 138),(f 139),(f 140),(f 141),(f 142),(f 143),(f 144),(f 145),(f 146),(f 147),(f 148),(f 149),(f 150),(f 151),(f 152),(f 153),(f 154),y155,y156,y157,y158,y159,y160,y161,y162,y163,y164,y165,y166,y167,y168,y169,y170,y171,y172,y173,y174,y175,y176,y177,y178,y179,y180,y181,y182,y183,y184,y185,y186,y187,y188,y189,y190,y191,y192,y193,y194,y195,y196,y197,y198,y199,y200,y201,y202,y203,y204,y205,y206,y207,y208,y209,y210,y211,y212,y213,y214,y215,y216,y217],defers:=[] }∧Hid (Sc w W g b P0 (nr+1) (i+1) AL2 K2 cL2)) { tmps:=#[y0,(.slice (some ad) n3 c3),y2,y3,y4,(.pointer (some ⟨g,0,none⟩)),y6,(.pointer (some ⟨b,0,none⟩)),(.slice AL K cL),(.int .i64 (i:Int)),y10,y11,y12,y13,y14,y15,y16,y17,y18,y19,y20,y21,y22,y23,y24,y25,y26,y27,y28,y29,y30,y31,y32,y33,y34,y35,y36,y37,y38,y39,y40,y41,y42,y43,y44,y45,y46,y47,y48,y49,y50,y51,y52,y53,y54,y55,y56,y57,y58,y59,y60,y61,y62,y63,y64,y65,y66,y67,y68,y69,y70,y71,y72,y73,y74,y75,y76,y77,y78,y79,y80,y81,y82,y83,y84,y85,y86,y87,y88,y89,y90,y91,y92,y93,y94,y95,y96,y97,y98,y99,y100,y101,y102,y103,y104,y105,y106,y107,y108,y109,y110,y111,y112,y113,y114,y115,y116,y117,y118,y119,y120,y121,y122,y123,y124,y125,y126,y127,y128,y129,y130,y131,y132,y133,y134,y135,y136,y137,y138,y139,y140,y141,y142,y143,y144,y145,y146,y147,y148,y149,y150,y151,y152,y153,y154,y155,y156,y157,y158,y159,y160,y161,y162,y163,y164,y165,y166,y167,y168,y169,y170,y171,y172,y173,y174,y175,y176,y177,y178,y179,y180,y181,y182,y183,y184,y185,y186,y187,y188,y189,y190,y191,y192,y193,y194,y195,y196,y197,y198,y199,y200,y201,y202,y203,y204,y205,y206,y207,y208,y209,y210,y211,y212,y213,y214,y215,y216,y217],defers:=[] } w0:=by
 refine Code.wp_mono (Norm.elim ?_) (K2 w w0 g b i nr K cL n3 c3 AL ad P0 a Ai ci h0 hC hci hf e0 e1 e2 e3 e4 e5 hi hn3 hc3 hnr)
 clear h0 hC hci hf e0 e1 e2 e3 e4 e5 hi hn3 hc3 hnr
 intro a' W h
 refine h.elim (fun AL2 h=>?_)
 refine h.elim (fun cL2 h=>?_)
 refine h.elim (fun K2 h=>?_)
 refine h.elim (fun e4 h=>?_)
 refine h.elim (fun e10 h=>?_)
 refine h.elim (fun e11 h=>?_)
 refine h.elim (fun e12 h=>?_)
 refine h.elim (fun e13 h=>?_)
 refine h.elim (fun e14 h=>?_)
 refine h.elim (fun e15 h=>?_)
 refine h.elim (fun e16 h=>?_)
 refine h.elim (fun e17 h=>?_)
 refine h.elim (fun e18 h=>?_)
 refine h.elim (fun e40 h=>?_)
 refine h.elim (fun e41 h=>?_)
 refine h.elim (fun e42 h=>?_)
 refine h.elim (fun e43 h=>?_)
 refine h.elim (fun e44 h=>?_)
 refine h.elim (fun e45 h=>?_)
 refine h.elim (fun e46 h=>?_)
 refine h.elim (fun e47 h=>?_)
 refine h.elim (fun e48 h=>?_)
 refine h.elim (fun e49 h=>?_)
 refine h.elim (fun e50 h=>?_)
 refine h.elim (fun e51 h=>?_)
 refine h.elim (fun e52 h=>?_)
 refine h.elim (fun e53 h=>?_)
 refine h.elim (fun e54 h=>?_)
 refine h.elim (fun e55 h=>?_)
 refine h.elim (fun e56 h=>?_)
 refine h.elim (fun e57 h=>?_)
 refine h.elim (fun e58 h=>?_)
 refine h.elim (fun e59 h=>?_)
 refine h.elim (fun e60 h=>?_)
 refine h.elim (fun e61 h=>?_)
 refine h.elim (fun e62 h=>?_)
 refine h.elim (fun e63 h=>?_)
 refine h.elim (fun e64 h=>?_)
 refine h.elim (fun e65 h=>?_)
 refine h.elim (fun e66 h=>?_)
 refine h.elim (fun e67 h=>?_)
 refine h.elim (fun e68 h=>?_)
 refine h.elim (fun e69 h=>?_)
 refine h.elim (fun e70 h=>?_)
 refine h.elim (fun e71 h=>?_)
 refine h.elim (fun e72 h=>?_)
 refine h.elim (fun e73 h=>?_)
 refine h.elim (fun e74 h=>?_)
 refine h.elim (fun e75 h=>?_)
 refine h.elim (fun e76 h=>?_)
 refine h.elim (fun e77 h=>?_)
 refine h.elim (fun e78 h=>?_)
 refine h.elim (fun e79 h=>?_)
 refine h.elim (fun e80 h=>?_)
 refine h.elim (fun e81 h=>?_)
 refine h.elim (fun e82 h=>?_)
 refine h.elim (fun e83 h=>?_)
 refine h.elim (fun e84 h=>?_)
 refine h.elim (fun e85 h=>?_)
 refine h.elim (fun e86 h=>?_)
 refine h.elim (fun e87 h=>?_)
 refine h.elim (fun e88 h=>?_)
 refine h.elim (fun e89 h=>?_)
 refine h.elim (fun e90 h=>?_)
 refine h.elim (fun e91 h=>?_)
 refine h.elim (fun e92 h=>?_)
 refine h.elim (fun e93 h=>?_)
 refine h.elim (fun e94 h=>?_)
 refine h.elim (fun e95 h=>?_)
 refine h.elim (fun e96 h=>?_)
 refine h.elim (fun e97 h=>?_)
 refine h.elim (fun e98 h=>?_)
 refine h.elim (fun e99 h=>?_)
 refine h.elim (fun e100 h=>?_)
 refine h.elim (fun e101 h=>?_)
 refine h.elim (fun e102 h=>?_)
 refine h.elim (fun e103 h=>?_)
 refine h.elim (fun e104 h=>?_)
 refine h.elim (fun e105 h=>?_)
 refine h.elim (fun e106 h=>?_)
 refine h.elim (fun e107 h=>?_)
 refine h.elim (fun e108 h=>?_)
 refine h.elim (fun e109 h=>?_)
 refine h.elim (fun e110 h=>?_)
 refine h.elim (fun e111 h=>?_)
 refine h.elim (fun e112 h=>?_)
 refine h.elim (fun e113 h=>?_)
 refine h.elim (fun e114 h=>?_)
 refine h.elim (fun e115 h=>?_)
 refine h.elim (fun e116 h=>?_)
 refine h.elim (fun e117 h=>?_)
 refine h.elim (fun e118 h=>?_)
 refine h.elim (fun e119 h=>?_)
 refine h.elim (fun e120 h=>?_)
 refine h.elim (fun e121 h=>?_)
 refine h.elim (fun e122 h=>?_)
 refine h.elim (fun e123 h=>?_)
 refine h.elim (fun e124 h=>?_)
 refine h.elim (fun e125 h=>?_)
 refine h.elim (fun e126 h=>?_)
 refine h.elim (fun e127 h=>?_)
 refine h.elim (fun e128 h=>?_)
 refine h.elim (fun e129 h=>?_)
 refine h.elim (fun e130 h=>?_)
 refine h.elim (fun e131 h=>?_)
 refine h.elim (fun e132 h=>?_)
 refine h.elim (fun e133 h=>?_)
 refine h.elim (fun e134 h=>?_)
 refine h.elim (fun e135 h=>?_)
 refine h.elim (fun e136 h=>?_)
 refine h.elim (fun e137 h=>?_)
 refine h.elim (fun e138 h=>?_)
 refine h.elim (fun e139 h=>?_)
 refine h.elim (fun e140 h=>?_)
 refine h.elim (fun e141 h=>?_)
 refine h.elim (fun e142 h=>?_)
 refine h.elim (fun e143 h=>?_)
 refine h.elim (fun e144 h=>?_)
 refine h.elim (fun e145 h=>?_)
 refine h.elim (fun e146 h=>?_)
 refine h.elim (fun e147 h=>?_)
 refine h.elim (fun e148 h=>?_)
 refine h.elim (fun e149 h=>?_)
 refine h.elim (fun e150 h=>?_)
 refine h.elim (fun e151 h=>?_)
 refine h.elim (fun e152 h=>?_)
 refine h.elim (fun e153 h=>?_)
 refine h.elim (fun e154 h=>?_)
 exact Norm.mk ⟨AL2,cL2,K2,fun n=>(#[.bool false,.bool false,.bool false,.bool false,e4,.bool false,.bool false,.bool false,.bool false,.bool false,e10,e11,e12,e13,e14,e15,e16,e17,e18,.bool false,.bool false,.bool false,.bool false,.bool false,.bool false,.bool false,.bool false,.bool false,.bool false,.bool false,.bool false,.bool false,.bool false,.bool false,.bool false,.bool false,.bool false,.bool false,.bool false,.bool false,e40,e41,e42,e43,e44,e45,e46,e47,e48,e49,e50,e51,e52,e53,e54,e55,e56,e57,e58,e59,e60,e61,e62,e63,e64,e65,e66,e67,e68,e69,e70,e71,e72,e73,e74,e75,e76,e77,e78,e79,e80,e81,e82,e83,e84,e85,e86,e87,e88,e89,e90,e91,e92,e93,e94,e95,e96,e97,e98,e99,e100,e101,e102,e103,e104,e105,e106,e107,e108,e109,e110,e111,e112,e113,e114,e115,e116,e117,e118,e119,e120,e121,e122,e123,e124,e125,e126,e127,e128,e129,e130,e131,e132,e133,e134,e135,e136,e137,e138,e139,e140,e141,e142,e143,e144,e145,e146,e147,e148,e149,e150,e151,e152,e153,e154,.bool false,.bool false,.bool false,.bool false,.bool false,.bool false,.bool false,.bool false,.bool false,.bool false,.bool false,.bool false,.bool false,.bool false,.bool false,.bool false,.bool false,.bool false,.bool false,.bool false,.bool false,.bool false,.bool false,.bool false,.bool false,.bool false,.bool false,.bool false,.bool false,.bool false,.bool false,.bool false,.bool false,.bool false,.bool false,.bool false,.bool false,.bool false,.bool false,.bool false,.bool false,.bool false,.bool false,.bool false,.bool false,.bool false,.bool false,.bool false,.bool false,.bool false,.bool false,.bool false,.bool false,.bool false,.bool false,.bool false,.bool false,.bool false,.bool false,.bool false,.bool false,.bool false,.bool false]:Array Value).getD n (.bool false),h.1.trans rfl,h.2⟩
theorem K3 (w w0:World) (g b nr n3 c3:Nat) (A3:Option Addr) (P0:Option Addr) (ac:List S46)
  (h0:Sc w w0 g b P0 nr 0 none 0 0) (h3:Kd.C k46 w A3 n3 ac) (ha:∀ a∈ac,Fit46 a) (hn3:n3≤149900) (hc3:n3≤c3) (hnr:nr+n3≤500000) {y0 y2 y3 y4 y6 y9 y10 y11 y12 y13 y14 y15 y16 y17 y18 y19 y20 y21 y22 y23 y24 y25 y26 y27 y28 y29 y30 y31 y32 y33 y34 y35 y36 y37 y38 y39 y40 y41 y42 y43 y44 y45 y46 y47 y48 y49 y50 y51 y52 y53 y54 y55 y56 y57 y58 y59 y60 y61 y62 y63 y64 y65 y66 y67 y68 y69 y70 y71 y72 y73 y74 y75 y76 y77 y78 y79 y80 y81 y82 y83 y84 y85 y86 y87 y88 y89 y90 y91 y92 y93 y94 y95 y96 y97 y98 y99 y100 y101 y102 y103 y104 y105 y106 y107 y108 y109 y110 y111 y112 y113 y114 y115 y116 y117 y118 y119 y120 y121 y122 y123 y124 y125 y126 y127 y128 y129 y130 y131 y132 y133 y134 y135 y136 y137 y138 y139 y140 y141 y142 y143 y144 y145 y146 y147 y148 y149 y150 y151 y152 y153 y154 y155 y156 y157 y158 y159 y160 y161 y162 y163 y164 y165 y166 y167 y168 y169 y170 y171 y172 y173 y174 y175 y176 y177 y178 y179 y180 y181 y182 y183 y184 y185 y186 y187 y188 y189 y190 y191 y192 y193 y194 y195 y196 y197 y198 y199 y200 y201 y202 y203 y204 y205 y206 y207 y208 y209 y210 y211 y212 y213 y214 y215 y216 y217:Value} :
  Code.wp Try.prog (left (postC 5 (Try.f6.body.getD .skip))) (Norm fun a' W=>∃ (AL2:Option Addr) (cL2 K2:Nat) (e4 e9 e10 e11 e12 e13 e14 e15 e16 e17 e18 e34 e35 e36 e37 e38 e39 e40 e41 e42 e43 e44 e45 e46 e47 e48 e49 e50 e51 e52 e53 e54 e55 e56 e57 e58 e59 e60 e61 e62 e63 e64 e65 e66 e67 e68 e69 e70 e71 e72 e73 e74 e75 e76 e77 e78 e79 e80 e81 e82 e83 e84 e85 e86 e87 e88 e89 e90 e91 e92 e93 e94 e95 e96 e97 e98 e99 e100 e101 e102 e103 e104 e105 e106 e107 e108 e109 e110 e111 e112 e113 e114 e115 e116 e117 e118 e119 e120 e121 e122 e123 e124 e125 e126 e127 e128 e129 e130 e131 e132 e133 e134 e135 e136 e137 e138 e139 e140 e141 e142 e143 e144 e145 e146 e147 e148 e149 e150 e151 e152 e153 e154:Value),a'={ tmps:=#[y0,(.slice A3 n3 c3),y2,y3,e4,(.pointer (some ⟨g,0,none⟩)),y6,(.pointer (some ⟨b,0,none⟩)),(.slice AL2 K2 cL2),e9,e10,e11,e12,e13,e14,e15,e16,e17,e18,y19,y20,y21,y22,y23,y24,y25,y26,y27,y28,y29,y30,y31,y32,y33,e34,e35,e36,e37,e38,e39,e40,e41,e42,e43,e44,e45,e46,e47,e48,e49,e50,e51,e52,e53,e54,e55,e56,e57,e58,e59,e60,e61,e62,e63,e64,e65,e66,e67,e68,e69,e70,e71,e72,e73,e74,e75,e76,e77,e78,e79,e80,e81,e82,e83,e84,e85,e86,e87,e88,e89,e90,e91,e92,e93,e94,e95,e96,e97,e98,e99,e100,e101,e102,e103,e104,e105,e106,e107,e108,e109,e110,e111,e112,e113,e114,e115,e116,e117,e118,e119,e120,e121,e122,e123,e124,e125,e126,e127,e128,e129,e130,e131,e132,e133,e134,e135,e136,e137,e138,e139,e140,e141,e142,e143,e144,e145,e146,e147,e148,e149,e150,e151,e152,e153,e154,y155,y156,y157,y158,y159,y160,y161,y162,y163,y164,y165,y166,y167,y168,y169,y170,y171,y172,y173,y174,y175,y176,y177,y178,y179,y180,y181,y182,y183,y184,y185,y186,y187,y188,y189,y190,y191,y192,y193,y194,y195,y196,y197,y198,y199,y200,y201,y202,y203,y204,y205,y206,y207,y208,y209,y210,y211,y212,y213,y214,y215,y216,y217],defers:=[] }∧Hid (Sc w W g b P0 (nr+n3) n3 AL2 K2 cL2)) { tmps:=#[y0,(.slice A3 n3 c3),y2,y3,y4,(.pointer (some ⟨g,0,none⟩)),y6,(.pointer (some ⟨b,0,none⟩)),(.slice none 0 0),y9,y10,y11,y12,y13,y14,y15,y16,y17,y18,y19,y20,y21,y22,y23,y24,y25,y26,y27,y28,y29,y30,y31,y32,y33,y34,y35,y36,y37,y38,y39,y40,y41,y42,y43,y44,y45,y46,y47,y48,y49,y50,y51,y52,y53,y54,y55,y56,y57,y58,y59,y60,y61,y62,y63,y64,y65,y66,y67,y68,y69,y70,y71,y72,y73,y74,y75,y76,y77,y78,y79,y80,y81,y82,y83,y84,y85,y86,y87,y88,y89,y90,y91,y92,y93,y94,y95,y96,y97,y98,y99,y100,y101,y102,y103,y104,y105,y106,y107,y108,y109,y110,y111,y112,y113,y114,y115,y116,y117,y118,y119,y120,y121,y122,y123,y124,y125,y126,y127,y128,y129,y130,y131,y132,y133,y134,y135,y136,y137,y138,y139,y140,y141,y142,y143,y144,y145,y146,y147,y148,y149,y150,y151,y152,y153,y154,y155,y156,y157,y158,y159,y160,y161,y162,y163,y164,y165,y166,y167,y168,y169,y170,y171,y172,y173,y174,y175,y176,y177,y178,y179,y180,y181,y182,y183,y184,y185,y186,y187,y188,y189,y190,y191,y192,y193,y194,y195,y196,y197,y198,y199,y200,y201,y202,y203,y204,y205,y206,y207,y208,y209,y210,y211,y212,y213,y214,y215,y216,y217],defers:=[] } w0:=by
 have H0:=Lib.hid h0
 have HC3:=Lib.hid h3
 have HL3:=Lib.hid h3.1
 have HA:=Lib.hid ha
 clear h0 h3 ha
 unfold Try.f6
 dsimp only [Option.getD,postC,left]
 go_wp2
 go_loopw [8,9] (fun Lv iv wr=>∃ (i K cL:Nat) (AL:Option Addr),i≤n3∧iv=.int .i64 (i:Int)∧Lv=.slice AL K cL∧Hid (Sc w wr g b P0 (nr+i) i AL K cL)) (fun _ iv _=>n3 - (RowKit.intOf iv).toNat)
 case atStart=>exact ⟨0,0,0,none,Nat.zero_le _,rfl,rfl,H0⟩
 case round =>
  obtain ⟨i,K,cL,AL,hi,rfl,rfl,hS⟩:=hrel
  clear H0
  by_cases hlt:i<n3
  ·obtain ⟨ad,Ai,ci,rfl,d0,d1,d2,d3,d4,d5,hd,hdk⟩:=at46 HC3.out i (by rw [HL3.out];exact hlt)
   obtain ⟨a,hak⟩:∃ a,a=ac[i]'(by rw [HL3.out];exact hlt):=⟨_,rfl⟩
   rw [← hak] at d0 d1 d2 d3 d4 d5 hd hdk
   have HFA:=Lib.hid (show Fit46 a from by rw [hak];exact HA.out _ (List.getElem_mem _))
   have HD:=Lib.hid (And.intro d0 (And.intro d1 (And.intro d2 (And.intro d3 (And.intro d4 d5)))))
   have HDK:=Lib.hid hdk
   clear hak hdk d0 d1 d2 d3 d4 d5
   refine wp_seq_k (fun Kb hK2=>?_)
   have HKb:=Lib.hid hK2
   clear hK2
   go_wp2
   refine HKb.out _ _ ?_
   clear HKb
   refine wp_seq_k (fun Kb hK2=>?_)
   have HKb:=Lib.hid hK2
   clear hK2
   refine wp_block ?_
   refine wp_norm_k (fun R hR=>?_)
   have HR:=Lib.hid hR
   clear hR
   refine Code.wp_mono (Norm.elim ?_) (K2f w wr g b i (nr+i) K cL n3 c3 AL ad P0 a Ai ci hS.out HDK.out hd HFA.out HD.out.1 HD.out.2.1 HD.out.2.2.1 HD.out.2.2.2.1 HD.out.2.2.2.2.1 HD.out.2.2.2.2.2 hlt hn3 hc3 (by omega))
   rintro a' W ⟨AL2,cL2,K2,f,rfl,hY⟩
   refine Norm.mk (HR.out _ _ ?_)
   clear HR
   refine HKb.out _ _ ?_
   clear HKb
   go_wp2
   go_roundw
   case rel=>exact ⟨i+1,K2,cL2,AL2,by omega,by go_num,rfl,hY⟩
   case measure=>simp [RowKit.intOf];omega
  ·obtain rfl:i=n3:=by omega
   go_wp2
   refine Norm.mk ?_
   exact ⟨AL,cL,K,_,_,_,_,_,_,_,_,_,_,_,_,_,_,_,_,_,_,_,_,_,_,_,_,_,_,_,_,_,_,_,_,_,_,_,_,_,_,_,_,_,_,_,_,_,_,_,_,_,_,_,_,_,_,_,_,_,_,_,_,_,_,_,_,_,_,_,_,_,_,_,_,_,_,_,_,_,_,_,_,_,_,_,_,_,_,_,_,_,_,_,_,_,_,_,_,_,_,_,_,_,_,_,_,_,_,_,_,_,_,_,_,_,_,_,_,_,_,_,_,_,_,_,_,_,_,_,_,_,_,_,_, rfl,hS⟩
theorem K3f (w w0:World) (g b nr n3 c3:Nat) (A3:Option Addr) (P0:Option Addr) (ac:List S46)
  (h0:Sc w w0 g b P0 nr 0 none 0 0) (h3:Kd.C k46 w A3 n3 ac) (ha:∀ a∈ac,Fit46 a) (hn3:n3≤149900) (hc3:n3≤c3) (hnr:nr+n3≤500000) {y0 y2 y3 y4 y6 y9 y10 y11 y12 y13 y14 y15 y16 y17 y18 y19 y20 y21 y22 y23 y24 y25 y26 y27 y28 y29 y30 y31 y32 y33 y34 y35 y36 y37 y38 y39 y40 y41 y42 y43 y44 y45 y46 y47 y48 y49 y50 y51 y52 y53 y54 y55 y56 y57 y58 y59 y60 y61 y62 y63 y64 y65 y66 y67 y68 y69 y70 y71 y72 y73 y74 y75 y76 y77 y78 y79 y80 y81 y82 y83 y84 y85 y86 y87 y88 y89 y90 y91 y92 y93 y94 y95 y96 y97 y98 y99 y100 y101 y102 y103 y104 y105 y106 y107 y108 y109 y110 y111 y112 y113 y114 y115 y116 y117 y118 y119 y120 y121 y122 y123 y124 y125 y126 y127 y128 y129 y130 y131 y132 y133 y134 y135 y136 y137 y138 y139 y140 y141 y142 y143 y144 y145 y146 y147 y148 y149 y150 y151 y152 y153 y154 y155 y156 y157 y158 y159 y160 y161 y162 y163 y164 y165 y166 y167 y168 y169 y170 y171 y172 y173 y174 y175 y176 y177 y178 y179 y180 y181 y182 y183 y184 y185 y186 y187 y188 y189 y190 y191 y192 y193 y194 y195 y196 y197 y198 y199 y200 y201 y202 y203 y204 y205 y206 y207 y208 y209 y210 y211 y212 y213 y214 y215 y216 y217:Value} :
  Code.wp Try.prog (left (postC 5 (Try.f6.body.getD .skip))) (Norm fun a' W=>∃ (AL2:Option Addr) (cL2 K2:Nat) (f:Nat→Value),a'={ tmps:=#[y0,(.slice A3 n3 c3),y2,y3,(f 4),(.pointer (some ⟨g,0,none⟩)),y6,(.pointer (some ⟨b,0,none⟩)),(.slice AL2 K2 cL2),(f 9),(f 10),(f 11),(f 12),(f 13),(f 14),(f 15),(f 16),(f 17),(f 18),y19,y20,y21,y22,y23,y24,y25,y26,y27,y28,y29,y30,y31,y32,y33,(f 34),(f 35),(f 36),(f 37),(f 38),(f 39),(f 40),(f 41),(f 42),(f 43),(f 44),(f 45),(f 46),(f 47),(f 48),(f 49),(f 50),(f 51),(f 52),(f 53),(f 54),(f 55),(f 56),(f 57),(f 58),(f 59),(f 60),(f 61),(f 62),(f 63),(f 64),(f 65),(f 66),(f 67),(f 68),(f 69),(f 70),(f 71),(f 72),(f 73),(f 74),(f 75),(f 76),(f 77),(f 78),(f 79),(f 80),(f 81),(f 82),(f 83),(f 84),(f 85),(f 86),(f 87),(f 88),(f 89),(f 90),(f 91),(f 92),(f 93),(f 94),(f 95),(f 96),(f 97),(f 98),(f 99),(f 100),(f 101),(f 102),(f 103),(f 104),(f 105),(f 106),(f 107),(f 108),(f 109),(f 110),(f 111),(f 112),(f 113),(f 114),(f 115),(f 116),(f 117),(f 118),(f 119),(f 120),(f 121),(f 122),(f 123),(f 124),(f 125),(f 126),(f 127),(f 128),(f 129),(f 130),(f 131),(f 132),(f 133),(f 134),(f 135),(f 136),(f 137),(f 138),(f 139),(f 140),(f 141),(f 142),(f 143),(f 144),(f 145),(f 146),(f 147),(f 148),(f 149),(f 150),(f 151),(f 152),(f 153),(f 154),y155,y156,y157,y158,y159,y160,y161,y162,y163,y164,y165,y166,y167,y168,y169,y170,y171,y172,y173,y174,y175,y176,y177,y178,y179,y180,y181,y182,y183,y184,y185,y186,y187,y188,y189,y190,y191,y192,y193,y194,y195,y196,y197,y198,y199,y200,y201,y202,y203,y204,y205,y206,y207,y208,y209,y210,y211,y212,y213,y214,y215,y216,y217],defers:=[] }∧Hid (Sc w W g b P0 (nr+n3) n3 AL2 K2 cL2)) { tmps:=#[y0,(.slice A3 n3 c3),y2,y3,y4,(.pointer (some ⟨g,0,none⟩)),y6,(.pointer (some ⟨b,0,none⟩)),(.slice none 0 0),y9,y10,y11,y12,y13,y14,y15,y16,y17,y18,y19,y20,y21,y22,y23,y24,y25,y26,y27,y28,y29,y30,y31,y32,y33,y34,y35,y36,y37,y38,y39,y40,y41,y42,y43,y44,y45,y46,y47,y48,y49,y50,y51,y52,y53,y54,y55,y56,y57,y58,y59,y60,y61,y62,y63,y64,y65,y66,y67,y68,y69,y70,y71,y72,y73,y74,y75,y76,y77,y78,y79,y80,y81,y82,y83,y84,y85,y86,y87,y88,y89,y90,y91,y92,y93,y94,y95,y96,y97,y98,y99,y100,y101,y102,y103,y104,y105,y106,y107,y108,y109,y110,y111,y112,y113,y114,y115,y116,y117,y118,y119,y120,y121,y122,y123,y124,y125,y126,y127,y128,y129,y130,y131,y132,y133,y134,y135,y136,y137,y138,y139,y140,y141,y142,y143,y144,y145,y146,y147,y148,y149,y150,y151,y152,y153,y154,y155,y156,y157,y158,y159,y160,y161,y162,y163,y164,y165,y166,y167,y168,y169,y170,y171,y172,y173,y174,y175,y176,y177,y178,y179,y180,y181,y182,y183,y184,y185,y186,y187,y188,y189,y190,y191,y192,y193,y194,y195,y196,y197,y198,y199,y200,y201,y202,y203,y204,y205,y206,y207,y208,y209,y210,y211,y212,y213,y214,y215,y216,y217],defers:=[] } w0:=by
 refine Code.wp_mono (Norm.elim ?_) (K3 w w0 g b nr n3 c3 A3 P0 ac h0 h3 ha hn3 hc3 hnr)
 clear h0 h3 ha hn3 hc3 hnr
 intro a' W h
 refine h.elim (fun AL2 h=>?_)
 refine h.elim (fun cL2 h=>?_)
 refine h.elim (fun K2 h=>?_)
 refine h.elim (fun e4 h=>?_)
 refine h.elim (fun e9 h=>?_)
 refine h.elim (fun e10 h=>?_)
 refine h.elim (fun e11 h=>?_)
 refine h.elim (fun e12 h=>?_)
 refine h.elim (fun e13 h=>?_)
 refine h.elim (fun e14 h=>?_)
 refine h.elim (fun e15 h=>?_)
 refine h.elim (fun e16 h=>?_)
 refine h.elim (fun e17 h=>?_)
 refine h.elim (fun e18 h=>?_)
 refine h.elim (fun e34 h=>?_)
 refine h.elim (fun e35 h=>?_)
 refine h.elim (fun e36 h=>?_)
 refine h.elim (fun e37 h=>?_)
 refine h.elim (fun e38 h=>?_)
 refine h.elim (fun e39 h=>?_)
 refine h.elim (fun e40 h=>?_)
 refine h.elim (fun e41 h=>?_)
 refine h.elim (fun e42 h=>?_)
 refine h.elim (fun e43 h=>?_)
 refine h.elim (fun e44 h=>?_)
 refine h.elim (fun e45 h=>?_)
 refine h.elim (fun e46 h=>?_)
 refine h.elim (fun e47 h=>?_)
 refine h.elim (fun e48 h=>?_)
 refine h.elim (fun e49 h=>?_)
 refine h.elim (fun e50 h=>?_)
 refine h.elim (fun e51 h=>?_)
 refine h.elim (fun e52 h=>?_)
 refine h.elim (fun e53 h=>?_)
 refine h.elim (fun e54 h=>?_)
 refine h.elim (fun e55 h=>?_)
 refine h.elim (fun e56 h=>?_)
 refine h.elim (fun e57 h=>?_)
 refine h.elim (fun e58 h=>?_)
 refine h.elim (fun e59 h=>?_)
 refine h.elim (fun e60 h=>?_)
 refine h.elim (fun e61 h=>?_)
 refine h.elim (fun e62 h=>?_)
 refine h.elim (fun e63 h=>?_)
 refine h.elim (fun e64 h=>?_)
 refine h.elim (fun e65 h=>?_)
 refine h.elim (fun e66 h=>?_)
 refine h.elim (fun e67 h=>?_)
 refine h.elim (fun e68 h=>?_)
 refine h.elim (fun e69 h=>?_)
 refine h.elim (fun e70 h=>?_)
 refine h.elim (fun e71 h=>?_)
 refine h.elim (fun e72 h=>?_)
 refine h.elim (fun e73 h=>?_)
 refine h.elim (fun e74 h=>?_)
 refine h.elim (fun e75 h=>?_)
 refine h.elim (fun e76 h=>?_)
 refine h.elim (fun e77 h=>?_)
 refine h.elim (fun e78 h=>?_)
 refine h.elim (fun e79 h=>?_)
 refine h.elim (fun e80 h=>?_)
 refine h.elim (fun e81 h=>?_)
 refine h.elim (fun e82 h=>?_)
 refine h.elim (fun e83 h=>?_)
 refine h.elim (fun e84 h=>?_)
 refine h.elim (fun e85 h=>?_)
 refine h.elim (fun e86 h=>?_)
 refine h.elim (fun e87 h=>?_)
 refine h.elim (fun e88 h=>?_)
 refine h.elim (fun e89 h=>?_)
 refine h.elim (fun e90 h=>?_)
 refine h.elim (fun e91 h=>?_)
 refine h.elim (fun e92 h=>?_)
 refine h.elim (fun e93 h=>?_)
 refine h.elim (fun e94 h=>?_)
 refine h.elim (fun e95 h=>?_)
 refine h.elim (fun e96 h=>?_)
 refine h.elim (fun e97 h=>?_)
 refine h.elim (fun e98 h=>?_)
 refine h.elim (fun e99 h=>?_)
 refine h.elim (fun e100 h=>?_)
 refine h.elim (fun e101 h=>?_)
 refine h.elim (fun e102 h=>?_)
 refine h.elim (fun e103 h=>?_)
 refine h.elim (fun e104 h=>?_)
 refine h.elim (fun e105 h=>?_)
 refine h.elim (fun e106 h=>?_)
 refine h.elim (fun e107 h=>?_)
 refine h.elim (fun e108 h=>?_)
 refine h.elim (fun e109 h=>?_)
 refine h.elim (fun e110 h=>?_)
 refine h.elim (fun e111 h=>?_)
 refine h.elim (fun e112 h=>?_)
 refine h.elim (fun e113 h=>?_)
 refine h.elim (fun e114 h=>?_)
 refine h.elim (fun e115 h=>?_)
 refine h.elim (fun e116 h=>?_)
 refine h.elim (fun e117 h=>?_)
 refine h.elim (fun e118 h=>?_)
 refine h.elim (fun e119 h=>?_)
 refine h.elim (fun e120 h=>?_)
 refine h.elim (fun e121 h=>?_)
 refine h.elim (fun e122 h=>?_)
 refine h.elim (fun e123 h=>?_)
 refine h.elim (fun e124 h=>?_)
 refine h.elim (fun e125 h=>?_)
 refine h.elim (fun e126 h=>?_)
 refine h.elim (fun e127 h=>?_)
 refine h.elim (fun e128 h=>?_)
 refine h.elim (fun e129 h=>?_)
 refine h.elim (fun e130 h=>?_)
 refine h.elim (fun e131 h=>?_)
 refine h.elim (fun e132 h=>?_)
 refine h.elim (fun e133 h=>?_)
 refine h.elim (fun e134 h=>?_)
 refine h.elim (fun e135 h=>?_)
 refine h.elim (fun e136 h=>?_)
 refine h.elim (fun e137 h=>?_)
 refine h.elim (fun e138 h=>?_)
 refine h.elim (fun e139 h=>?_)
 refine h.elim (fun e140 h=>?_)
 refine h.elim (fun e141 h=>?_)
 refine h.elim (fun e142 h=>?_)
 refine h.elim (fun e143 h=>?_)
 refine h.elim (fun e144 h=>?_)
 refine h.elim (fun e145 h=>?_)
 refine h.elim (fun e146 h=>?_)
 refine h.elim (fun e147 h=>?_)
 refine h.elim (fun e148 h=>?_)
 refine h.elim (fun e149 h=>?_)
 refine h.elim (fun e150 h=>?_)
 refine h.elim (fun e151 h=>?_)
 refine h.elim (fun e152 h=>?_)
 refine h.elim (fun e153 h=>?_)
 refine h.elim (fun e154 h=>?_)
 exact Norm.mk ⟨AL2,cL2,K2,fun n=>(#[.bool false,.bool false,.bool false,.bool false,e4,.bool false,.bool false,.bool false,.bool false,e9,e10,e11,e12,e13,e14,e15,e16,e17,e18,.bool false,.bool false,.bool false,.bool false,.bool false,.bool false,.bool false,.bool false,.bool false,.bool false,.bool false,.bool false,.bool false,.bool false,.bool false,e34,e35,e36,e37,e38,e39,e40,e41,e42,e43,e44,e45,e46,e47,e48,e49,e50,e51,e52,e53,e54,e55,e56,e57,e58,e59,e60,e61,e62,e63,e64,e65,e66,e67,e68,e69,e70,e71,e72,e73,e74,e75,e76,e77,e78,e79,e80,e81,e82,e83,e84,e85,e86,e87,e88,e89,e90,e91,e92,e93,e94,e95,e96,e97,e98,e99,e100,e101,e102,e103,e104,e105,e106,e107,e108,e109,e110,e111,e112,e113,e114,e115,e116,e117,e118,e119,e120,e121,e122,e123,e124,e125,e126,e127,e128,e129,e130,e131,e132,e133,e134,e135,e136,e137,e138,e139,e140,e141,e142,e143,e144,e145,e146,e147,e148,e149,e150,e151,e152,e153,e154,.bool false,.bool false,.bool false,.bool false,.bool false,.bool false,.bool false,.bool false,.bool false,.bool false,.bool false,.bool false,.bool false,.bool false,.bool false,.bool false,.bool false,.bool false,.bool false,.bool false,.bool false,.bool false,.bool false,.bool false,.bool false,.bool false,.bool false,.bool false,.bool false,.bool false,.bool false,.bool false,.bool false,.bool false,.bool false,.bool false,.bool false,.bool false,.bool false,.bool false,.bool false,.bool false,.bool false,.bool false,.bool false,.bool false,.bool false,.bool false,.bool false,.bool false,.bool false,.bool false,.bool false,.bool false,.bool false,.bool false,.bool false,.bool false,.bool false,.bool false,.bool false,.bool false,.bool false]:Array Value).getD n (.bool false),h.1.trans rfl,h.2⟩
end Go.Proofs.Ythmeojeehemlaaa.Bk
end
section
namespace Go.Proofs.Ythmeojeehemlaaa.Bk
open Go.RowKit Go.Proofs.YthmeojeehemlaaaW.PrintWords Go.Proofs.Ythmeojeehemlaaa.Mem Go.Proofs.Ythmeojeehemlaaa.Lnd Go.Proofs.Ythmeojeehemlaaa.PM
attribute [local go_sem] isSome_setCell
theorem C1f (w0:World) (K cL:Nat) (AL:Option Addr) (los:List Value) (hL:Ls w0 (.slice AL K cL) los) (hl:los.length=K) (hK:K≤8388608) {y0 y1 y2 y3 y4 y5 y6 y7 y9 y10 y11 y12 y13 y14 y15 y16 y17 y18 y19 y20 y21 y22 y23 y24 y25 y26 y27 y28 y29 y30 y31 y32 y33 y34 y35 y36 y37 y38 y39 y40 y41 y42 y43 y44 y45 y46 y47 y48 y49 y50 y51 y52 y53 y54 y55 y56 y57 y58 y59 y60 y61 y62 y63 y64 y65 y66 y67 y68 y69 y70 y71 y72 y73 y74 y75 y76 y77 y78 y79 y80 y81 y82 y83 y84 y85 y86 y87 y88 y89 y90 y91 y92 y93 y94 y95 y96 y97 y98 y99 y100 y101 y102 y103 y104 y105 y106 y107 y108 y109 y110 y111 y112 y113 y114 y115 y116 y117 y118 y119 y120 y121 y122 y123 y124 y125 y126 y127 y128 y129 y130 y131 y132 y133 y134 y135 y136 y137 y138 y139 y140 y141 y142 y143 y144 y145 y146 y147 y148 y149 y150 y151 y152 y153 y154 y155 y156 y157 y158 y159 y160 y161 y162 y163 y164 y165 y166 y167 y168 y169 y170 y171 y172 y173 y174 y175 y176 y177 y178 y179 y180 y181 y182 y183 y184 y185 y186 y187 y188 y189 y190 y191 y192 y193 y194 y195 y196 y197 y198 y199 y200 y201 y202 y203 y204 y205 y206 y207 y208 y209 y210 y211 y212 y213 y214 y215 y216 y217:Value} :
  Code.wp Try.prog (left (postC 6 (Try.f6.body.getD .skip))) (Norm fun a W=>∃ (f:Nat→Value),a={ tmps:=#[y0,y1,y2,y3,(f 4),y5,y6,y7,(.slice AL K cL),y9,y10,y11,y12,y13,y14,y15,y16,y17,y18,(f 19),(f 20),y21,y22,y23,y24,y25,y26,y27,y28,y29,y30,y31,y32,y33,y34,y35,y36,y37,y38,y39,y40,y41,y42,y43,y44,y45,y46,y47,y48,y49,y50,y51,y52,y53,y54,y55,y56,y57,y58,y59,y60,y61,y62,y63,y64,y65,y66,y67,y68,y69,y70,y71,y72,y73,y74,y75,y76,y77,y78,y79,y80,y81,y82,y83,y84,y85,y86,y87,y88,y89,y90,y91,y92,y93,y94,y95,y96,y97,y98,y99,y100,y101,y102,y103,y104,y105,y106,y107,y108,y109,y110,y111,y112,y113,y114,y115,y116,y117,y118,y119,y120,y121,y122,y123,y124,y125,y126,y127,y128,y129,y130,y131,y132,y133,y134,y135,y136,y137,y138,y139,y140,y141,y142,y143,y144,y145,y146,y147,y148,y149,y150,y151,y152,y153,y154,(f 155),(f 156),(f 157),(f 158),(f 159),(f 160),(f 161),(f 162),(f 163),(f 164),(f 165),(f 166),(f 167),(f 168),(f 169),(f 170),(f 171),(f 172),(f 173),(f 174),(f 175),(f 176),(f 177),(f 178),(f 179),(f 180),(f 181),(f 182),(f 183),(f 184),(f 185),(f 186),(f 187),(f 188),(f 189),(f 190),(f 191),(f 192),(f 193),(f 194),(f 195),(f 196),(f 197),y198,y199,y200,y201,y202,y203,y204,y205,y206,y207,y208,y209,y210,y211,y212,y213,y214,y215,y216,y217],defers:=[] }∧W=w0) { tmps:=#[y0,y1,y2,y3,y4,y5,y6,y7,(.slice AL K cL),y9,y10,y11,y12,y13,y14,y15,y16,y17,y18,y19,y20,y21,y22,y23,y24,y25,y26,y27,y28,y29,y30,y31,y32,y33,y34,y35,y36,y37,y38,y39,y40,y41,y42,y43,y44,y45,y46,y47,y48,y49,y50,y51,y52,y53,y54,y55,y56,y57,y58,y59,y60,y61,y62,y63,y64,y65,y66,y67,y68,y69,y70,y71,y72,y73,y74,y75,y76,y77,y78,y79,y80,y81,y82,y83,y84,y85,y86,y87,y88,y89,y90,y91,y92,y93,y94,y95,y96,y97,y98,y99,y100,y101,y102,y103,y104,y105,y106,y107,y108,y109,y110,y111,y112,y113,y114,y115,y116,y117,y118,y119,y120,y121,y122,y123,y124,y125,y126,y127,y128,y129,y130,y131,y132,y133,y134,y135,y136,y137,y138,y139,y140,y141,y142,y143,y144,y145,y146,y147,y148,y149,y150,y151,y152,y153,y154,y155,y156,y157,y158,y159,y160,y161,y162,y163,y164,y165,y166,y167,y168,y169,y170,y171,y172,y173,y174,y175,y176,y177,y178,y179,y180,y181,y182,y183,y184,y185,y186,y187,y188,y189,y190,y191,y192,y193,y194,y195,y196,y197,y198,y199,y200,y201,y202,y203,y204,y205,y206,y207,y208,y209,y210,y211,y212,y213,y214,y215,y216,y217],defers:=[] } w0:=by
 refine Code.wp_mono (Norm.elim ?_) (C1 w0 K cL AL los hL hl hK)
 clear hL hl hK
 intro a' W h
 refine h.elim (fun e4 h=>?_)
 refine h.elim (fun e19 h=>?_)
 refine h.elim (fun e20 h=>?_)
 refine h.elim (fun e155 h=>?_)
 refine h.elim (fun e156 h=>?_)
 refine h.elim (fun e157 h=>?_)
 refine h.elim (fun e158 h=>?_)
 refine h.elim (fun e159 h=>?_)
 refine h.elim (fun e160 h=>?_)
 refine h.elim (fun e161 h=>?_)
 refine h.elim (fun e162 h=>?_)
 refine h.elim (fun e163 h=>?_)
 refine h.elim (fun e164 h=>?_)
 refine h.elim (fun e165 h=>?_)
 refine h.elim (fun e166 h=>?_)
 refine h.elim (fun e167 h=>?_)
 refine h.elim (fun e168 h=>?_)
 refine h.elim (fun e169 h=>?_)
 refine h.elim (fun e170 h=>?_)
 refine h.elim (fun e171 h=>?_)
 refine h.elim (fun e172 h=>?_)
 refine h.elim (fun e173 h=>?_)
 refine h.elim (fun e174 h=>?_)
 refine h.elim (fun e175 h=>?_)
 refine h.elim (fun e176 h=>?_)
 refine h.elim (fun e177 h=>?_)
 refine h.elim (fun e178 h=>?_)
 refine h.elim (fun e179 h=>?_)
 refine h.elim (fun e180 h=>?_)
 refine h.elim (fun e181 h=>?_)
 refine h.elim (fun e182 h=>?_)
 refine h.elim (fun e183 h=>?_)
 refine h.elim (fun e184 h=>?_)
 refine h.elim (fun e185 h=>?_)
 refine h.elim (fun e186 h=>?_)
 refine h.elim (fun e187 h=>?_)
 refine h.elim (fun e188 h=>?_)
 refine h.elim (fun e189 h=>?_)
 refine h.elim (fun e190 h=>?_)
 refine h.elim (fun e191 h=>?_)
 refine h.elim (fun e192 h=>?_)
 refine h.elim (fun e193 h=>?_)
 refine h.elim (fun e194 h=>?_)
 refine h.elim (fun e195 h=>?_)
 refine h.elim (fun e196 h=>?_)
 refine h.elim (fun e197 h=>?_)
 exact Norm.mk ⟨fun n=>(#[.bool false,.bool false,.bool false,.bool false,e4,.bool false,.bool false,.bool false,.bool false,.bool false,.bool false,.bool false,.bool false,.bool false,.bool false,.bool false,.bool false,.bool false,.bool false,e19,e20,.bool false,.bool false,.bool false,.bool false,.bool false,.bool false,.bool false,.bool false,.bool false,.bool false,.bool false,.bool false,.bool false,.bool false,.bool false,.bool false,.bool false,.bool false,.bool false,.bool false,.bool false,.bool false,.bool false,.bool false,.bool false,.bool false,.bool false,.bool false,.bool false,.bool false,.bool false,.bool false,.bool false,.bool false,.bool false,.bool false,.bool false,.bool false,.bool false,.bool false,.bool false,.bool false,.bool false,.bool false,.bool false,.bool false,.bool false,.bool false,.bool false,.bool false,.bool false,.bool false,.bool false,.bool false,.bool false,.bool false,.bool false,.bool false,.bool false,.bool false,.bool false,.bool false,.bool false,.bool false,.bool false,.bool false,.bool false,.bool false,.bool false,.bool false,.bool false,.bool false,.bool false,.bool false,.bool false,.bool false,.bool false,.bool false,.bool false,.bool false,.bool false,.bool false,.bool false,.bool false,.bool false,.bool false,.bool false,.bool false,.bool false,.bool false,.bool false,.bool false,.bool false,.bool false,.bool false,.bool false,.bool false,.bool false,.bool false,.bool false,.bool false,.bool false,.bool false,.bool false,.bool false,.bool false,.bool false,.bool false,.bool false,.bool false,.bool false,.bool false,.bool false,.bool false,.bool false,.bool false,.bool false,.bool false,.bool false,.bool false,.bool false,.bool false,.bool false,.bool false,.bool false,.bool false,.bool false,.bool false,.bool false,.bool false,.bool false,.bool false,.bool false,.bool false,e155,e156,e157,e158,e159,e160,e161,e162,e163,e164,e165,e166,e167,e168,e169,e170,e171,e172,e173,e174,e175,e176,e177,e178,e179,e180,e181,e182,e183,e184,e185,e186,e187,e188,e189,e190,e191,e192,e193,e194,e195,e196,e197,.bool false,.bool false,.bool false,.bool false,.bool false,.bool false,.bool false,.bool false,.bool false,.bool false,.bool false,.bool false,.bool false,.bool false,.bool false,.bool false,.bool false,.bool false,.bool false,.bool false]:Array Value).getD n (.bool false),h.1.trans rfl,h.2⟩
theorem Sc.begin {w w1:World} {F ok:Nat→Prop} {g n:Nat} {P0:Option Addr} {rl:List S39} {rs:List Reg} (hD:DeskAt w1 F ok g P0 rl rs) (hb:Below w.heap.size w w1) (hF:∀ k,F k→w.heap.size≤k) (hok:∀ k,ok k→w.heap.size≤k) (hr:rl.length≤n) :
  Sc w (w1.alloc (.cells #[.int .i64 0,.int .i64 0,.bool false,.slice none 0 0,.slice none 0 0,.slice none 0 0,.slice none 0 0,.slice none 0 0] 55)) g w1.heap.size P0 n 0 none 0 0:=
 ⟨F,ok,rl,rs,0,0,_,_,[],Mo.first hD hb hF hok,⟨rfl,rfl,Nat.zero_le _,hr,Nat.zero_le _,Nat.zero_le _,by decide,by decide⟩⟩
theorem mown_ (w:World) (A1 A3:Option Addr) (n1 n3 c1 c3:Nat) (xs:List S39) (ac:List S46) (h1:Kd.C k39 w A1 n1 xs) (h3:Kd.C k46 w A3 n3 ac) (l1:n1≤c1) (l3:n3≤c3)
  (hx:∀ y∈xs,Small y) (ha:∀ a∈ac,Fit46 a) (hn3:n3≤149900) (hn:n1+n3≤500000) :
  Calls Try.prog 6 #[.slice A1 n1 c1,.slice A3 n3 c3] w fun e w'=>e=.returned (.bool true)∧Below w.heap.size w w':=by
 have HC1:=Lib.hid h1
 have HC3:=Lib.hid h3
 have HL1:=Lib.hid h1.1
 have HX:=Lib.hid hx
 have HA:=Lib.hid ha
 clear h1 h3 hx ha
 go_enter Try.func6,Try.ntmps6
 refine wp_seq_k (fun K hK=>?_)
 have HK:=Lib.hid hK
 clear hK
 go_wp2
 refine HK.out _ _ ?_
 clear HK
 refine wp_seq_k (fun K hK=>?_)
 have HK:=Lib.hid hK
 clear hK
 go_wp2_with (go_at_call 14;refine (open2_ w A1 n1 c1 xs HC1.out l1 (by omega) HX.out).mono ?_;rintro e w1 ⟨g,F,ok,P0,rl,rs,rfl,hD,hb,hF,hok,hrl⟩;have HS:=Lib.hid (Sc.begin (n:=n1) hD hb hF hok (by rw [← HL1.out];exact hrl));clear hD hb hF hok hrl)
 refine HK.out _ _ ?_
 clear HK
 refine wp_seq_k (fun K hK=>?_)
 have HK:=Lib.hid hK
 clear hK
 go_wp2
 refine HK.out _ _ ?_
 clear HK
 refine wp_seq_k (fun K hK=>?_)
 have HK:=Lib.hid hK
 clear hK
 go_wp2
 refine HK.out _ _ ?_
 clear HK
 refine wp_seq_k (fun K hK=>?_)
 have HK:=Lib.hid hK
 clear hK
 go_wp2
 refine HK.out _ _ ?_
 clear HK
 refine wp_seq_k (fun K hK=>?_)
 have HK:=Lib.hid hK
 clear hK
 refine Code.wp_mono (Norm.elim ?_) (K3f w _ g _ n1 n3 c3 A3 P0 ac HS.out HC3.out HA.out hn3 l3 hn)
 rintro a' w2 ⟨AL,cL,K2,f,rfl,hY⟩
 refine HK.out _ _ ?_
 clear HK HS
 obtain ⟨F2,ok2,rl2,rs2,c,t,v,ct,los,hm,hN⟩:=hY.out
 have HM:=Lib.hid hm
 have HN:=Lib.hid hN
 clear hm hN hY
 refine wp_seq_k (fun K hK=>?_)
 have HK:=Lib.hid hK
 clear hK
 refine Code.wp_mono (Norm.elim ?_) (C1f w2 K2 cL AL los HM.out.ls HN.out.len (by have:=HN.out.Ka;omega))
 rintro a' w3 ⟨f3,rfl,rfl⟩
 refine HK.out _ _ ?_
 clear HK
 refine wp_seq_k (fun K hK=>?_)
 have HK:=Lib.hid hK
 clear hK
 go_wp2_with (go_at_call 19;refine (together_ _ F2 ok2 g P0 rl2 rs2 HM.out.desk (by have:=HN.out.rlen;omega)).mono ?_;rintro e w4 ⟨rfl,hc⟩;have HM4:=Lib.hid (HM.out.never hc);clear hc)
 refine HK.out _ _ ?_
 clear HK
 refine wp_seq_k (fun K hK=>?_)
 have HK:=Lib.hid hK
 clear hK
 go_wp2_with (go_at_call 16;refine (HM4.out.asks 0 7 0 0 0 none 0 0 (.inr rfl) (by decide) (by decide) (by decide) (by decide) (by have:=HN.out.rlen;omega)).mono ?_;rintro e w5 ⟨F5,ok5,rl5,rs5,M5,B1,B2,d1,d2,xs5,os5,rfl,had⟩;have HM5:=Lib.hid had.mo;clear had)
 refine HK.out _ _ ?_
 clear HK HM HM4
 refine wp_seq_k (fun K hK=>?_)
 have HK:=Lib.hid hK
 clear hK
 go_wp2_with (first|(go_at_call 18;refine (holds_ _ _ c t v ct HM5.out.bo.bk HM5.out.bo.fh (by have:=HN.out.b0;omega) HM5.out.bo.kw (by have:=HN.out.b3;omega)).mono ?_;rintro e w6 ⟨rfl,hc⟩;have HM6:=Lib.hid (HM5.out.never hc);clear hc)|(go_at_call 9;refine (awake_ _).mono ?_;rintro e w7 ⟨rfl,hb7⟩;have HB7:=Lib.hid hb7;clear hb7))
 refine HK.out _ _ ?_
 clear HK
 go_wp2
 go_ret
 have hb6:=below_of_ch HM6.out.ch
 exact ⟨rfl,hb6.trans (HB7.out.mono hb6.size)⟩
end Go.Proofs.Ythmeojeehemlaaa.Bk
end
