/- Parts of the proof, laid together by a program of this session (pack.py): ZA9. Of the kit's print what the claim does not use is left out. -/
import Derived.Test.YthmeojeehemlaaaZC8
import Derived.Deep.RegionHeld3
set_option linter.unusedVariables false
set_option linter.unusedSimpArgs false
set_option maxRecDepth 100000
set_option maxHeartbeats 16000000
section
section
namespace Go.Proofs.Ythmeojeehemlaaa.Mem
open Go.RowKit Go.Proofs.YthmeojeehemlaaaW.PrintWords
open Go.Proofs.Ythmeojeehemlaaa.PM
attribute [local go_sem] isSome_setCell
theorem rput_ (P:Nat→Prop) (w:World) (A:Option Addr) (c:Nat) (xs:List S39) (rs:List Reg) (x:Int) (Ab:Option Addr) (nb cb:Nat) (bs:List Int) (hV:Kd.V k39 39 w w.heap.size P (.slice A xs.length c) xs) (hR:Rel xs rs) (hC:Kd.C (Kd.int .u8) w Ab nb bs) (hbs:Bytes bs) (hx0:0≤x) (hx1:x<18446744073709551616) (hl:xs.length≤1048576) (hs:∀ y∈xs,Small y) (hnb:nb≤1048576) :
  Calls Try.prog 49 #[.agg #[.slice A xs.length c],.int .u64 x,.slice Ab nb cb] w (PutPost P w xs rs (putOf rs x bs)):=by
 have hlb:=hC.1
 by_cases hz:nb=0
 ·have hp:putOf rs x bs=some rs:=by unfold putOf;rw [if_pos (by omega)]
  rw [hp]
  subst hz
  have HV:=Lib.hid hV
  have HR:=Lib.hid hR
  have HS:=Lib.hid hs
  clear hV hR hC hs hlb
  go_enter Try.func49,Try.ntmps49
  go_wp2
  refine bodyPost_ret (results_ct rfl _ _ (w.heap.size+1) 78 #[.slice A xs.length c] (0,0) _ rfl (blk_new1 _ _ _ _) Try.underlying78 rfl (by kernel_rfl)) rfl ?_
  have hB:=below2 w (.cells #[.slice A xs.length c] 78) (.cells #[.slice A xs.length c] 78)
  exact ⟨_,xs,0,rfl,Kd.V_below (Kd.V_mono HV.out (fun k hk=>.inl hk)) hB,hB,rfl,HR.out,rfl,HS.out⟩
 have hz1:((nb:Int) == 0)=false:=by rw [beq_eq_false_iff_ne];omega
 have hz2:(nb == 0)=false:=by rw [beq_eq_false_iff_ne];exact hz
 have hz3:¬ (nb:Int)=0:=by omega
 rw [putOf_pos rs x bs nb hlb hz]
 obtain ⟨j,hf,hj⟩:=find_view hR hl hs x nb hx0 hx1 (by omega) (by omega) (xs.length+1) (by omega)
 have HK1:=Lib.hid (Kd.V_reads' hV).2.2
 have HL1:=Lib.hid (Kd.V_reads' hV).2.1
 have HF:=Lib.hid hf
 have HV:=Lib.hid hV
 have HR:=Lib.hid hR
 have HS:=Lib.hid hs
 have HC:=Lib.hid hC
 have HBS:=Lib.hid (And.intro hlb hbs)
 have HB2:=Lib.hid (below2 w (.cells #[.slice A xs.length c] 78) (.cells #[.slice none 0 0] 78))
 have HQ0:=Lib.hid ((Blk.new w 78 #[.slice A xs.length c]).alloc (.cells #[.slice none 0 0] 78))
 have HQ1:=Lib.hid (blk_new1 w (.cells #[.slice A xs.length c] 78) 78 #[.slice none 0 0])
 have HSZ:=Lib.hid (size2_ w (.cells #[.slice A xs.length c] 78) (.cells #[.slice none 0 0] 78))
 have HNX:=Lib.hid (And.intro hl hnb)
 rcases hj with ⟨rfl,hv⟩|⟨t,r,o,rfl,⟨ht,he⟩,hr,hv,hxo,hol⟩
 ·rw [hv]
  clear hf hV hR hs hC hlb hbs hv
  go_enter Try.func49,Try.ntmps49
  go_wp2_with (go_at_call 77;refine (rfind_ _ A xs.length c xs x nb _ (xs.length+1) (Kd.C_below HK1.out HB2.out) HL1.out HF.out).mono ?_;rintro e w3 ⟨rfl,hb⟩;have HB:=Lib.hid hb;have q0:=(HQ0.out.below HB.out (by rw [HSZ.out];omega)).c0;have q1:=(HQ1.out.below HB.out (by rw [HSZ.out];omega)).c0;have f1:=(HQ1.out.below HB.out (by rw [HSZ.out];omega)).frozen 0;clear hb)
  have HQ2:=Lib.hid ((HQ1.out.below HB.out (by rw [HSZ.out];omega)).set_ 0 (.slice A xs.length c))
  have HB3:=Lib.hid (below_set (g:=w.heap.size+1) (by omega) (HB2.out.trans (HB.out.mono (by rw [HSZ.out];omega))) 0 (.slice A xs.length c))
  refine bodyPost_ret (results_ct rfl _ _ (w.heap.size+1) 78 #[.slice A xs.length c] (0,0) _ rfl HQ2.out Try.underlying78 rfl (by kernel_rfl)) rfl ?_
  exact ⟨_,xs,200,rfl,Kd.V_below (Kd.V_mono HV.out (fun k hk=>.inl hk)) HB3.out,HB3.out,rfl,rfl⟩
 rw [hv]
 have HRO:=Lib.hid (And.intro hr (And.intro hxo hol))
 obtain ⟨f,hfr⟩:∃ f,f=r.first:=⟨_,rfl⟩
 have HFR:=Lib.hid hfr
 obtain ⟨dat,hda⟩:∃ dat,dat=r.data:=⟨_,rfl⟩
 have HDA:=Lib.hid hda
 have HTX:=Lib.hid (show ∃ h:t<xs.length,xs[t]=⟨f,dat⟩ from ⟨ht,by rw [he,hfr,hda];rfl⟩)
 have hol2:o+nb≤dat.length:=by rw [hda];exact hol
 have hdl:dat.length≤1048576:=by have:=(hs _ ((rel_mem hR).1 r hr)).2;rw [hda];exact this
 have hx:x=f+(o:Int):=by rw [hfr];exact hxo
 have hf01:0≤f∧f<18446744073709551616:=by
  have h:=(hR.ends r hr)
  rw [hfr];exact ⟨h.1,h.2.1⟩
 clear hf hV hR hs hC hlb hbs hv hr hxo hol he hfr hda
 subst hx
 have hlo:o<9223372036854775808:=by omega
 have hw1:IntKind.u64.wrap (f+(o:Int) - f)=(o:Int):=by rw [show f+(o:Int) - f=(o:Int) by omega];exact u64 _ (by omega) (by omega)
 go_enter Try.func49,Try.ntmps49
 go_wp2_with (first|(go_at_call 77;refine (rfind_ _ A xs.length c xs (f+(o:Int)) nb _ (xs.length+1) (Kd.C_below HK1.out HB2.out) HL1.out HF.out).mono ?_;rintro e w3 ⟨rfl,hb⟩;have HB:=Lib.hid hb;have q0:=(HQ0.out.below HB.out (by rw [HSZ.out];omega)).c0;have q1:=(HQ1.out.below HB.out (by rw [HSZ.out];omega)).c0;have f1:=(HQ1.out.below HB.out (by rw [HSZ.out];omega)).frozen 0;clear hb)|(go_at_call 71;refine (scopy_ _ A xs.length c xs (Kd.C_below HK1.out (HB2.out.trans (HB.out.mono (by rw [HSZ.out];omega)))) HL1.out HNX.out.1 (fun y hy=>(HS.out y hy).2)).mono ?_;rintro e w4 ⟨v,rfl,hS,hb⟩;obtain ⟨g,cap,A1,c1,oki,rfl,hg1,hg2,g0,g1,hrow,hoki,hH⟩  :=lend39 (Kd.S_mono (Kd.S_bound hS) (ok':=fun k=>w3.heap.size≤k) (fun k hk=>hk.2.1)) t HTX.out.1 _ HTX.out.2;obtain ⟨d,c2,cs,hsl,hod,hbd,hbk,hlc,hcz,hcs,hnew⟩:=R8_open hrow (by show 0<dat.length;omega);injection hsl with hA hn hcc;subst hA;subst hcc;have HD:=Lib.hid hbk;have HDC:=Lib.hid hcs;have HDN:=Lib.hid hnew;have HH:=Lib.hid hH;have HOK:=Lib.hid (And.intro hod hoki);have HB4:=Lib.hid hb;replace g0:=Lib.cell?_alloc_some (.cells #[.slice (some ⟨g,0,none⟩) xs.length cap] 78) g0;replace g1:=Lib.cell?_alloc_some (.cells #[.slice (some ⟨g,0,none⟩) xs.length cap] 78) g1;clear hS hb hrow hbk hcs hnew hH hod hoki hn))
 obtain ⟨w5,hw5⟩:∃ w5,w5=w4.alloc (.cells #[.slice (some ⟨g,0,none⟩) xs.length cap] 78):=⟨_,rfl⟩
 rw [← hw5] at g0 g1 ⊢
 have hd4:=HD.out.lt
 have hgd:g≠d:=fun e=>(HOK.out.2 d HOK.out.1).2 e.symm
 have hqd:w4.heap.size≠d:=by omega
 have q9:w5.cell? ⟨w4.heap.size,0,none⟩=some (.slice (some ⟨g,0,none⟩) xs.length cap):=by rw [hw5];exact (Blk.new w4 78 #[.slice (some ⟨g,0,none⟩) xs.length cap]).c0
 have H9:=Lib.hid (And.intro q9 (And.intro g1 (And.intro hgd hqd)))
 have HD5:=Lib.hid (show Blk w5 d 5 cs from by rw [hw5];exact HD.out.alloc _)
 have HI0:=Lib.hid (show Held8 cs (put dat o (bs.take 0)) from by
  rw [List.take_zero,put_zero dat o (by omega)]
  intro i hi;rw [HDC.out i hi,List.getElem?_eq_getElem hi];rfl)
 have HB5:=Lib.hid (show Below w.heap.size w w4 from (HB2.out.trans (HB.out.mono (by rw [HSZ.out];omega))).trans (HB4.out.mono (Nat.le_trans (by rw [HSZ.out];omega) HB.out.size)))
 have HW5:=Lib.hid hw5
 clear q9 g0 g1 q0 q1 f1 hgd hqd hw5 hw1
 go_loopw [11] (fun jv wr=>∃ (k:Nat) (cs':Array Value),k≤nb∧jv=.int .i64 (k:Int)∧Hid (Blk wr d 5 cs')∧Hid (cs'.size=cs.size)∧Hid (Held8 cs' (put dat o (bs.take k)))∧Hid (Only w5 wr d)) (fun jv _=>nb - (RowKit.intOf jv).toNat)
 case atStart=>exact ⟨0,cs,Nat.zero_le _,rfl,HD5,Lib.hid rfl,HI0,Lib.hid (Only.refl _ _)⟩
 case round =>
  obtain ⟨k,cs',hk,rfl,hD,hZ,hI,hO⟩:=hrel
  have q9:=hO.out.cell H9.out.1 H9.out.2.2.2
  have g1:=hO.out.cell H9.out.2.1 H9.out.2.2.1
  by_cases hlt:k<nb
  ·obtain ⟨b,off,rfl,hc⟩:=Lnd.Rd.of_C (a:=bs) (by rw [HBS.out.1];exact HC.out) (by rw [HBS.out.1];omega)
   have hkb:k<bs.length:=by rw [HBS.out.1];exact hlt
   replace hc:=hc k hkb
   have hbl:=World.block_lt_of_cell? w _ hc
   simp only at hbl
   have hbd2:b≠d:=by have:=HB.out.size;rw [HSZ.out] at this;omega
   replace hc:=hO.out.cell (by rw [HW5.out];exact Lib.cell?_alloc_some _ ((HB5.out.cell (p:=⟨b,off+k,none⟩) hbl).trans hc)) hbd2
   have cd:=(hD.out.cell (o+k)).trans (Array.getElem?_eq_getElem (by have:=hZ.out;omega))
   have fd:=hD.out.frozen (o+k)
   have h2:=Lib.hid (hD.out.set_ (o+k) (.int .u8 bs[k]))
   have h3:=Lib.hid ((hO.out.set_ (o+k) (.int .u8 bs[k])))
   have h4:=Lib.hid (hI.out.set_ hkb (by rw [HBS.out.1];omega) (by have:=hZ.out;omega))
   have h5:o+k<dat.length:=by omega
   clear hbl hbd2
   go_wp2
   go_region
   go_wp2
   go_roundw
   case rel=>exact ⟨k+1,_,by omega,by go_num,Lib.hid h2.out.drew,Lib.hid (by rw [Array.size_setIfInBounds];exact hZ.out),h4,Lib.hid h3.out.drew⟩
   case measure=>simp [RowKit.intOf];omega
  ·obtain rfl:k=nb:=by omega
   have hq1:=((((HQ1.out.below HB.out (by rw [HSZ.out];omega)).below HB4.out (by have:=HB.out.size;rw [HSZ.out] at this;omega)).alloc (.cells #[.slice (some ⟨g,0,none⟩) xs.length cap] 78)))
   rw [← HW5.out] at hq1
   replace hq1:=hO.out.blk hq1 (by have:=HB.out.size;rw [HSZ.out] at this;omega)
   have q1:=hq1.c0
   have f1:=hq1.frozen 0
   have HQ6:=Lib.hid (hq1.set_ 0 (.slice (some ⟨g,0,none⟩) xs.length cap))
   clear hq1
   go_wp2
   obtain ⟨wf,hwf⟩:∃ wf,wf=wr.setCell ⟨w.heap.size+1,0,none⟩ (.slice (some ⟨g,0,none⟩) xs.length cap):=⟨_,rfl⟩
   rw [← hwf]
   have hne:d≠w.heap.size+1:=by have:=HB.out.size;rw [HSZ.out] at this;omega
   have hDf:Blk wf d 5 cs':=by rw [hwf];exact hD.out.far (p:=⟨w.heap.size+1,0,none⟩) (fun e=>hne e.symm) _
   have hbs:o+bs.length≤dat.length:=by rw [HBS.out.1];exact hol2
   have hI2:Held8 cs' (put dat o bs):=by have h:=hI.out;rw [← HBS.out.1,List.take_length] at h;exact h
   have hRow:=HDN.out wf cs' (put dat o bs) hDf hZ.out (put_length dat o bs hbs) (fun i hi=>hI2.get i hi)
   have hbw:Below w.heap.size w wf:=by
    rw [hwf]
    refine below_set (g:=w.heap.size+1) (by omega) ?_ 0 _
    have h5:Below w.heap.size w w5:=by rw [HW5.out];exact below_push HB5.out.size HB5.out _
    exact h5.trans (hO.out.below (by have:=HB.out.size;rw [HSZ.out] at this;omega))
   have hHf:=Kd.H_step HH.out (w1:=wf) (fun i hi hni hil=>by
    have hi2:w3.heap.size≤i:=hi
    have hid:i≠d:=fun e=>hni (by rw [e];exact HOK.out.1)
    rw [hwf,Below.heap_setCell _ _ _ _ (by show i≠w.heap.size+1;have:=HB.out.size;rw [HSZ.out] at this;omega),hO.out.block i hid,HW5.out]
    exact (below_push (Nat.le_refl _) (Below.refl w4.heap.size w4) _).block i hil)
   have hS:=Kd.H_back hHf (x':=(⟨f,put dat o bs⟩:S39)) (okp:=oki) (show k39.M wf _ oki ⟨f,put dat o bs⟩ _ from ⟨[.int .u64 f],[.slice (some ⟨d,0,none⟩) dat.length c1],rfl,rfl,_,rfl,hRow⟩) (fun _ h=>h)
   rw [Int.toNat_natCast] at hS
   refine bodyPost_ret (results_ct rfl _ _ (w.heap.size+1) 78 #[.slice (some ⟨g,0,none⟩) xs.length cap] (0,0) _ rfl (by rw [hwf];exact HQ6.out) Try.underlying78 rfl (by kernel_rfl)) rfl ?_
   refine ⟨_,xs.set t ⟨f,put dat o bs⟩,0,rfl,Kd.V_mono (Kd.S_V hS) (fun i hi=>.inr ?_),hbw,rfl,?_,by rw [List.length_set],small_set HS.out t HTX.out.1 f dat bs HTX.out.2 o HBS.out.2 hbs⟩
   ·have hi2:w3.heap.size≤i:=hi
    have:=HB.out.size;rw [HSZ.out] at this;omega
   ·have h:=HR.out.put r HRO.out.1 o bs (by rw [← HDA.out];exact hbs) t HTX.out.1 (by rw [HTX.out.2,HFR.out,HDA.out];rfl)
    rw [← HFR.out,← HDA.out] at h
    exact h
end Go.Proofs.Ythmeojeehemlaaa.Mem
end
section
namespace Go.Proofs.Ythmeojeehemlaaa.Mem
open Go.RowKit Go.Proofs.YthmeojeehemlaaaW.PrintWords
open Go.Proofs.Ythmeojeehemlaaa.PM
attribute [local go_sem] isSome_setCell
theorem le_snoc (k:Nat) (v:Int) (hv:0≤v):le (k+1) v=le k v ++ [v / 256 ^ k % 256]:=by
 apply List.ext_getElem?
 intro i
 have h1:=le_length (k+1) v
 have h2:=le_length k v
 by_cases hi:i<k
 ·rw [List.getElem?_append_left (by omega),le_get _ _ _ hv (by omega),le_get _ _ _ hv hi]
 ·by_cases he:i=k
  ·subst he
   rw [List.getElem?_append_right (by omega),le_get _ _ _ hv (by omega),h2,Nat.sub_self];rfl
  ·rw [List.getElem?_eq_none (by omega),List.getElem?_eq_none (by simp;omega)]
theorem own8_C {w:World} {base n:Nat} {V:Value} {l:List Int} (h:w.ownsRow base 5 1 V n (l.map (Value.int .u8))) (hn:n=l.length) (hp:0<n):∃ g c,V=.slice (some ⟨g,0,none⟩) n c∧n≤c∧base≤g∧Kd.C (Kd.int .u8) w (some ⟨g,0,none⟩) n l:=by
 obtain ⟨hl,h2⟩:=h
 rcases h2 with ⟨_,h0⟩|⟨g,cap,cur,rfl,hg,hh,hnc,hcm,hsz,ht⟩
 ·omega
 ·refine ⟨g,cap,rfl,hnc,hg,?_⟩
  rw [hn]
  refine C_at (o:=0) hh (by unfold maxLen at hcm;omega) (fun i hi=>?_)
  have e:=congrArg (fun l=>l[i]?) ht
  simp only [List.getElem?_take] at e
  rw [if_pos (by omega),List.getElem?_map,List.getElem?_eq_getElem hi] at e
  rw [Nat.zero_add]
  simpa using e
theorem new1 (w:World) (v:Value) (t:TypeId):∀ j u,([v]:List Value)[j]?=some u→(w.alloc (.cells #[v] t)).cell? ((⟨w.heap.size,0,none⟩:Addr).add j)=some u:=by
 intro j u hj
 have e:(⟨w.heap.size,0,none⟩:Addr).add j=⟨w.heap.size,j,none⟩:=by unfold Addr.add;split <;> simp_all
 rw [e,(Blk.new w t #[v]).cell j]
 rcases j with _|j
 ·exact hj
 ·simp at hj
theorem one1 (v:Value) (h:v.oneCell'=true):∀ u∈([v]:List Value),u.oneCell'=true:=by
 intro u hu
 rw [List.mem_singleton.1 hu];exact h
theorem rstore_eq (rs:List Reg) (x width v:Int) (n:Nat) (hn:n=wb width):storeOf rs x width v=putOf rs x (le n v):=by
 have hw:=wb_range width
 rw [putOf_pos rs x (le n v) n (le_length n v) (by omega)]
 unfold storeOf
 rw [← hn]
 cases viewOf rs x n with
 | none=>rfl
 | some ro=>rfl
theorem rstore_ (P:Nat→Prop) (w:World) (A:Option Addr) (c:Nat) (xs:List S39) (rs:List Reg) (x width v:Int) (hV:Kd.V k39 39 w w.heap.size P (.slice A xs.length c) xs) (hR:Rel xs rs) (hx0:0≤x) (hx1:x<18446744073709551616) (hv0:0≤v) (hv1:v<18446744073709551616) (hl:xs.length≤1048576) (hs:∀ y∈xs,Small y) :
  Calls Try.prog 45 #[.agg #[.slice A xs.length c],.int .u64 x,.int .i64 width,.int .u64 v] w (PutPost P w xs rs (storeOf rs x width v)):=by
 obtain ⟨n,hn⟩:∃ n,n=wb width:=⟨_,rfl⟩
 rw [rstore_eq rs x width v n hn]
 have hr4:=wb_range width
 rw [← hn] at hr4
 have hn8:n≤8:=by omega
 have hn1:1≤n:=by omega
 have HV:=Lib.hid hV
 have HR:=Lib.hid hR
 have HS:=Lib.hid hs
 have HWID:=Lib.hid (show spindleref20_wide.f width=some (n:Int) by rw [hn];exact wide_eq width)
 have HVR:=Lib.hid (And.intro hv0 hv1)
 have HB2:=Lib.hid (below2 w (.cells #[.slice A xs.length c] 78) (.cells #[.slice none 0 0] 78))
 have HQ0:=Lib.hid ((Blk.new w 78 #[.slice A xs.length c]).alloc (.cells #[.slice none 0 0] 78))
 have HQ1:=Lib.hid (blk_new1 w (.cells #[.slice A xs.length c] 78) 78 #[.slice none 0 0])
 have HSZ:=Lib.hid (size2_ w (.cells #[.slice A xs.length c] 78) (.cells #[.slice none 0 0] 78))
 obtain ⟨i0,hi,hz0,hz1,hz2⟩:=info_parts (P:=Try.prog) (e:=5) (z:=.int .u8 0) (size:=1) (bytes:=1) (by kernel_rfl)
 clear hV hR hs hn hr4 hv0 hv1
 go_enter Try.func45,Try.ntmps45
 go_wp2
 obtain ⟨w2,hw2⟩:∃ w2,w2=(w.alloc (.cells #[.slice A xs.length c] 78)).alloc (.cells #[.slice none 0 0] 78):=⟨_,rfl⟩
 rw [← hw2] at HB2 HQ0 HQ1 HSZ ⊢
 clear hw2
 go_loopw [3,10,11] (fun xv bv jv wr=>∃ (k:Nat) (y:Int),k≤n∧0≤y∧y<18446744073709551616∧xv=.int .u64 y∧jv=.int .i64 (k:Int)∧Hid (y=v / 256 ^ k)∧Hid (wr.ownsRow w2.heap.size 5 1 bv k ((le k v).map (Value.int .u8)))∧Hid (Below w2.heap.size w2 wr)) (fun _ _ jv _=>n - (RowKit.intOf jv).toNat)
 case atStart=>exact ⟨0,v,Nat.zero_le _,HVR.out.1,HVR.out.2,rfl,rfl,Lib.hid (by rw [Int.pow_zero,Int.ediv_one]),Lib.hid ⟨rfl,.inl ⟨rfl,rfl⟩⟩,Lib.hid (Below.refl _ _)⟩
 case round =>
  obtain ⟨k,y,hk,hy0,hy1,rfl,rfl,hY,hO,hB⟩:=hrel
  by_cases hlt:k<n
  ·have HOWN:=Lib.hid (show ∀ nd,((wr.drewN nd).alloc (.cells #[.int .u8 (y % 256)] 5)).ownsRow w2.heap.size 5 1 u10 k ((le k v).map (Value.int .u8)) from fun nd=>ownsRow_below hO.out (below_push (w:=wr.drewN nd) (Nat.le_refl wr.heap.size) (pw_below_drewN (Below.refl _ _) _) _))
   go_wp2_with (first|(go_at_call 76;refine (spindleref20_wide.calls width _ _ HWID.out).mono ?_;rintro e' w' ⟨rfl,⟨nd,rfl⟩⟩)|(at_builtin;refine wpList_append_own _ rfl _ _ 37 rfl w2.heap.size 5 i0 (.int .u8 0) 1 1 Try.underlying37 hi hz0 hz1 hz2 rfl (by decide) u10 k ((le k v).map (Value.int .u8)) rfl (HOWN.out _) ⟨wr.heap.size,0,none⟩ 1 1 [.int .u8 (y % 256)] rfl rfl (new1 (World.drewN wr _) _ _) (one1 _ rfl) (by unfold maxLen;omega) (by omega) (Nat.le_trans hB.out.size (act_size (World.drewN wr _) _)) ?_))
   intro v' w5 ho hgr hni
   have HST:=Lib.hid (show w5.ownsRow w2.heap.size 5 1 v' (k+1) ((le (k+1) v).map (Value.int .u8))∧Below w2.heap.size w2 w5∧y / 256=v / 256 ^ (k+1) from by
    have b2:Below w2.heap.size w2 ((wr.drewN nd).alloc (.cells #[.int .u8 (y % 256)] 5)):=below_push (w:=wr.drewN nd) hB.out.size (pw_below_drewN hB.out _) _
    refine ⟨?_,b2.grown hgr (by have:=b2.size;omega) (fun k hk=>((HOWN.out nd).lt k hk).1),?_⟩
    ·rw [le_snoc k v HVR.out.1,List.map_append,← hY.out];exact ho
    ·rw [hY.out,Int.pow_succ,Int.ediv_ediv_of_nonneg (Int.pow_nonneg (by decide))])
   clear ho hgr hni
   go_wp2
   go_roundw
   case rel=>exact ⟨k+1,y / 256,by omega,by omega,by omega,rfl,by go_num,Lib.hid HST.out.2.2,Lib.hid HST.out.1,Lib.hid HST.out.2.1⟩
   case measure=>simp [RowKit.intOf];omega
  ·obtain rfl:k=n:=by omega
   obtain ⟨g,cb,rfl,hcb,hgb,hCb⟩:=own8_C hO.out (le_length k v).symm hn1
   have HCB:=Lib.hid hCb
   have q0:=(HQ0.out.below hB.out (by rw [HSZ.out];omega)).c0
   have HQ1':=Lib.hid (HQ1.out.below hB.out (by rw [HSZ.out];omega))
   have HBW:=Lib.hid (HB2.out.trans (hB.out.mono HB2.out.size))
   have hdec:decide (k<k)=false:=decide_eq_false (by omega)
   clear hCb
   go_wp2_with (first|(go_at_call 76;refine (spindleref20_wide.calls width _ _ HWID.out).mono ?_;rintro e' w' ⟨rfl,⟨nd,rfl⟩⟩)|(go_at_call 49;refine (rput_ (fun i=>P i∧i<w.heap.size) (World.drewN wr nd) A c xs rs x (some ⟨g,0,none⟩) k cb (le k v) (Kd.V_below (Kd.V_bound HV.out) (pw_below_drewN HBW.out _)) HR.out (Kd.C_drewN HCB.out nd) (le_bytes _ _) hx0 hx1 hl HS.out (by omega)).mono ?_;rintro e' w' ⟨v,r1,r2,rfl,hv,hb,hp⟩;obtain ⟨A1,c1,rfl⟩:=Kd.V_slice hv;have HVV:=Lib.hid hv;have HBB:=Lib.hid hb;have HPP:=Lib.hid hp;have HQ2:=Lib.hid ((HQ1'.out.drewN nd).below HBB.out (by have:=HQ1'.out.lt;exact this));have q1:=HQ2.out.c0;have f1:=HQ2.out.frozen 0;clear hv hb hp))
   have hsz:w.heap.size+2≤wr.heap.size:=by have:=hB.out.size;rw [HSZ.out] at this;exact this
   refine bodyPost_ret (results_ct rfl _ _ (w.heap.size+1) 78 #[.slice A1 r1.length c1] (0,0) _ rfl (HQ2.out.set_ 0 _) Try.underlying78 rfl (by kernel_rfl)) rfl ?_
   refine ⟨_,r1,r2,rfl,Kd.V_mono (Kd.V_far HVV.out (p:=⟨w.heap.size+1,0,none⟩) (fun i hi=>?_) _) (fun i hi=>?_),below_set (g:=w.heap.size+1) (by omega) ((pw_below_drewN HBW.out nd).trans (HBB.out.mono ?_)) 0 _,HPP.out⟩
   ·rcases hi with h|h
    ·have:=h.2
     show i≠w.heap.size+1
     omega
    ·have h2:wr.heap.size≤i:=h
     show i≠w.heap.size+1
     omega
   ·rcases hi with h|h
    ·exact .inl h.1
    ·have h2:wr.heap.size≤i:=h
     exact .inr (by omega)
   ·show w.heap.size≤wr.heap.size
    omega
end Go.Proofs.Ythmeojeehemlaaa.Mem
end
section
namespace Go.Proofs.Ythmeojeehemlaaa.Mem
open Go.RowKit Go.Proofs.YthmeojeehemlaaaW.PrintWords
open Go.Proofs.Ythmeojeehemlaaa.PM
attribute [local go_sem] isSome_setCell
theorem bytesOf_pos (rs:List Reg) (x:Int) (n:Nat) (hn:n≠0):bytesOf rs x n=(viewOf rs x n).elim ([],200) fun ro=>((ro.1.data.drop ro.2).take n,0):=by
 unfold bytesOf
 rw [if_neg (by omega),if_neg (by omega),Int.toNat_natCast]
 cases viewOf rs x n with
 | none=>rfl
 | some ro=>rfl
theorem rbytes_ (w:World) (A:Option Addr) (c:Nat) (xs:List S39) (rs:List Reg) (x m:Int) (hC:Kd.C k39 w A xs.length xs) (hc:xs.length≤c) (hR:Rel xs rs) (hx0:0≤x) (hx1:x<18446744073709551616) (hm0:-9223372036854775808≤m) (hm1:m<9223372036854775808) (hl:xs.length≤1048576) (hs:∀ y∈xs,Small y) :
  Calls Try.prog 46 #[.agg #[.slice A xs.length c],.int .u64 x,.int .i64 m] w fun e w'=>∃ A' c',e=.returned (.tuple #[.slice A' (bytesOf rs x m).1.length c',.int .i64 (bytesOf rs x m).2])∧Dat w' A' c' (bytesOf rs x m).1∧Below w.heap.size w w':=by
 have nd:∀ (W:World) c,Dat W none c []↔c<9223372036854775808:=fun W c=>⟨fun h=>h.small,fun h=>⟨Nat.zero_le _,h,fun h=>absurd h (by simp)⟩⟩
 have hb0:=below_push (Nat.le_refl _) (Below.refl w.heap.size w) (.cells #[.slice A xs.length c] 78)
 by_cases hz:m=0
 ·have hb:bytesOf rs x m=([],0):=by unfold bytesOf;rw [if_neg (by omega),if_pos hz]
  rw [hb]
  subst hz
  have HB0:=Lib.hid hb0
  clear hC hR hs hb hb0
  go_enter Try.func46,Try.ntmps46
  go_wp2
  go_ret2
  exact ⟨none,0,rfl,(nd _ _).2 (by decide),HB0.out⟩
 have hz2:(m == 0)=false:=by rw [beq_eq_false_iff_ne];omega
 by_cases hneg:m<0
 ·have hb:bytesOf rs x m=([],200):=by unfold bytesOf;rw [if_pos hneg]
  rw [hb]
  have hzd:decide (m<0)=true:=decide_eq_true hneg
  have HB0:=Lib.hid hb0
  clear hC hR hs hb hb0
  go_enter Try.func46,Try.ntmps46
  go_wp2
  go_ret2
  exact ⟨none,0,rfl,(nd _ _).2 (by decide),HB0.out⟩
 obtain ⟨n,rfl⟩:∃ n:Nat,m=n:=⟨m.toNat,by omega⟩
 have hn0:1≤n:=by omega
 have hn1:n<9223372036854775808:=by omega
 rw [bytesOf_pos rs x n (by omega)]
 obtain ⟨j,hf,hj⟩:=find_view hR hl hs x n hx0 hx1 hn0 hn1 (xs.length+1) (by omega)
 have HC:=Lib.hid hC
 have HF:=Lib.hid hf
 have HCC:=Lib.hid hc
 have HB0:=Lib.hid hb0
 have HQ0:=Lib.hid (Blk.new w 78 #[.slice A xs.length c])
 have hsz:(w.alloc (.cells #[.slice A xs.length c] 78)).heap.size=w.heap.size+1:=Array.size_push _
 have HSZ:=Lib.hid hsz
 rcases hj with ⟨rfl,hv⟩|⟨t,r,o,rfl,⟨ht,he⟩,hr,hv,hxo,hol⟩
 ·rw [hv]
  clear hC hR hs hb0 hc hf hv hsz
  go_enter Try.func46,Try.ntmps46
  go_wp2_with (go_at_call 77;refine (rfind_ _ A xs.length c xs x n _ (xs.length+1) (Kd.C_below HC.out HB0.out) HCC.out HF.out).mono ?_;rintro e w3 ⟨rfl,hb⟩;have HB3:=Lib.hid hb;clear hb)
  go_ret2
  exact ⟨none,0,rfl,(nd _ _).2 (by decide),HB0.out.trans (HB3.out.mono (act_size w _))⟩
 ·rw [hv]
  obtain ⟨f,hfr⟩:∃ f,f=r.first:=⟨_,rfl⟩
  obtain ⟨dat,hda⟩:∃ dat,dat=r.data:=⟨_,rfl⟩
  have hdl:dat.length≤1048576:=by have:=(hs _ ((rel_mem hR).1 r hr)).2;rw [hda];exact this
  have hf01:0≤f∧f<18446744073709551616:=by
   have h:=(hR.ends r hr)
   rw [hfr];exact ⟨h.1,h.2.1⟩
  have hx:x=f+(o:Int):=by rw [hfr];exact hxo
  have hol2:o+n≤dat.length:=by rw [hda];exact hol
  obtain ⟨ad,A1,c1,rfl,e0,e1,l1,k1⟩:=at_T39 hC (t:Int) (by omega) (by omega)
  rw [Int.toNat_natCast,rd39 xs t ht,he] at e0 e1
  rw [rd39 xs t ht,he] at l1 k1
  simp only [s39] at e0 e1 l1 k1
  rw [← hfr] at e0
  rw [← hda] at e1 l1 k1
  show Calls _ _ _ _ fun e w'=>∃ A' c',e=.returned (.tuple #[.slice A' ((r.data.drop o).take n).length c',.int .i64 0])∧Dat w' A' c' ((r.data.drop o).take n)∧Below w.heap.size w w'
  rw [← hda]
  subst hx
  have HK:=Lib.hid k1
  have hw1:IntKind.u64.wrap (f+(o:Int) - f)=(o:Int):=by rw [show f+(o:Int) - f=(o:Int) by omega];exact u64 _ (by omega) (by omega)
  have HE:=Lib.hid (And.intro e0 e1)
  clear hC hR hs hb0 hc hf hv hsz hfr hda hxo hol he hr k1 e0 e1
  go_enter Try.func46,Try.ntmps46
  go_wp2_with fail
  have hdt:decide ((t:Int)<0)=false:=decide_eq_false (by omega)
  have hdt2:¬ (t:Int)<0:=by omega
  clear nd
  (go_at_call 77;refine (rfind_ _ (some ad) xs.length c xs (f+(o:Int)) n _ (xs.length+1) (Kd.C_below HC.out HB0.out) HCC.out HF.out).mono ?_;rintro e w3 ⟨rfl,hb⟩;have HB3:=Lib.hid hb;have q0:=(HQ0.out.below HB3.out (by rw [HSZ.out];omega)).c0;clear hb)
  clear hw1
  go_wp2_with fail
  have HBW:=Lib.hid (HB0.out.trans (HB3.out.mono (act_size w _)))
  have HSA:=Lib.hid (show ∀ W,Below w3.heap.size w3 W→(fun W=>W.cell? ⟨w.heap.size,0,none⟩=some (.slice (some ad) xs.length c)∧W.cell? (ad.add (t*2))=some (.int .u64 f)∧W.cell? ⟨(ad.add (t*2)).block,(ad.add (t*2)).off+1,none⟩=some (.slice A1 dat.length c1)) W from fun W hW=>by
   have h2:=HBW.out.trans (hW.mono HBW.out.size)
   exact ⟨(hW.cell (World.block_lt_of_cell? w3 _ q0)).trans q0,(h2.cell (World.block_lt_of_cell? w _ HE.out.1)).trans HE.out.1,(h2.cell (World.block_lt_of_cell? w _ HE.out.2)).trans HE.out.2⟩)
  have ht0:(0:Int)≤(t:Int):=by omega
  have ht1:(t:Int)<(xs.length:Int):=by omega
  have HFC:=Lib.hid (show ∀ W,Below w3.heap.size w3 W→Calls Try.prog 77 #[.agg #[.slice (some ad) xs.length c],.int .u64 (f+(o:Int)),.int .i64 (n:Int)] W fun e w'=>e=.returned (.int .i64 t)∧Below W.heap.size W w' from fun W hW=>rfind_ W (some ad) xs.length c xs (f+(o:Int)) n _ (xs.length+1) (Kd.C_below HC.out (HBW.out.trans (hW.mono HBW.out.size))) HCC.out HF.out)
  have HD0:=Lib.hid (below_drew (Below.refl w3.heap.size w3))
  have HD1:=Lib.hid (show ∀ o,Below w3.heap.size w3 (w3.drew.alloc o) from fun o=>below_push (w:=w3.drew) (Nat.le_refl _) HD0.out o)
  have HS0:=Lib.hid (HSA.out _ HD0.out)
  have HS1:=Lib.hid (fun o=>HSA.out _ (HD1.out o))
  refine Code.wp_mono (Q:=Norm fun a W=>∃ q,a={ tmps:=#[Value.agg #[Value.slice (some ad) xs.length c],Value.int IntKind.u64 (f+↑o),Value.int IntKind.i64 ↑n,Value.pointer (some { block:=w.heap.size,off:=0 }),undef,undef,Value.slice none 0 0,Value.int IntKind.i64 0,Value.pointer (some { block:=q,off:=0 }),undef,Value.int IntKind.i64 ↑n,Value.bool false,Value.int IntKind.i64 ↑n,Value.bool false,Value.bool false,Value.agg #[Value.slice (some ad) xs.length c],Value.int IntKind.u64 (f+↑o),Value.int IntKind.i64 ↑n,Value.int IntKind.i64 ↑t,Value.bool false,Value.bool false,Value.pointer (some { block:=w.heap.size,off:=0 }),Value.slice (some ad) xs.length c,Value.agg #[Value.slice (some ad) xs.length c],Value.int IntKind.u64 (f+↑o),Value.int IntKind.i64 ↑n,Value.int IntKind.i64 ↑t,Value.pointer (some (ad.add (t*2))),Value.agg #[Value.int IntKind.u64 f,Value.slice A1 dat.length c1],undef,undef,undef,undef,undef,undef,undef,undef,undef,undef,undef,undef,undef],defers:=[] }∧Hid (Blk W q 39 #[.int .u64 f,.slice A1 dat.length c1]∧Below w3.heap.size w3 W)) ?_ ?_
  rotate_left
  ·go_region_held3 (fun W=>W.cell? ⟨w.heap.size,0,none⟩=some (.slice (some ad) xs.length c)∧W.cell? (ad.add (t*2))=some (.int .u64 f)∧W.cell? ⟨(ad.add (t*2)).block,(ad.add (t*2)).off+1,none⟩=some (.slice A1 dat.length c1)) (first|exact HS0.out|exact HS1.out _|exact HSA.out _ HB4.out|exact HSA.out _ (below_push HB4.out.size HB4.out _)|exact HSA.out _ (below_set (Nat.le_refl _) (below_set (Nat.le_refl _) HB4.out _ _) _ _)) (first|(go_at_call 77;refine (HFC.out _ HD0.out).mono ?_;rintro e w4 ⟨rfl,hb4⟩;have HB4:=Lib.hid (HD0.out.trans hb4);clear hb4)|(go_at_call 77;refine (HFC.out _ (HD1.out _)).mono ?_;rintro e w4 ⟨rfl,hb4⟩;have HB4:=Lib.hid ((HD1.out _).trans (hb4.mono (HD1.out _).size));have HZ:=Lib.hid (show Blk w4 w3.heap.size 39 #[.int .u64 0,.slice none 0 0] from (Blk.new w3.drew 39 #[.int .u64 0,.slice none 0 0]).below hb4 (Blk.new w3.drew 39 #[.int .u64 0,.slice none 0 0]).lt);have z0:=HZ.out.cell 0;have z1:=HZ.out.cell 1;have y0:=HZ.out.frozen 0;have y1:=HZ.out.frozen 1;simp only [List.getElem?_toArray,List.getElem?_cons_zero,List.getElem?_cons_succ] at z0 z1;clear hb4))
   ·exact ⟨_,rfl,Lib.hid ⟨Blk.new _ _ _,below_push HB4.out.size HB4.out _⟩⟩
   ·exact ⟨_,rfl,Lib.hid ⟨(HZ.out.set_ 0 _).set_ 1 _,below_set (Nat.le_refl _) (below_set (Nat.le_refl _) HB4.out _ _) _ _⟩⟩
  refine Norm.elim ?_
  rintro a W ⟨q,rfl,hq⟩
  have q1:=hq.out.1.cell 0
  have q2:=hq.out.1.cell 1
  simp only [List.getElem?_toArray,List.getElem?_cons_zero,List.getElem?_cons_succ] at q1 q2
  have hbw:Below w.heap.size w W:=HBW.out.trans (hq.out.2.mono HBW.out.size)
  have HK2:=Kd.C_below HK.out hbw
  obtain ⟨b1,off1,rfl,hcell⟩:=Lnd.Rd.of_C HK2 (by omega)
  have HCELL:=Lib.hid hcell
  have HB6:=Lib.hid hbw
  have hw1:IntKind.u64.wrap (f+(o:Int) - f)=(o:Int):=by rw [show f+(o:Int) - f=(o:Int) by omega];exact u64 _ (by omega) (by omega)
  have hne:¬ c1=o:=by omega
  have hoc:o+n≤c1:=by omega
  have hoc2:o≤c1:=by omega
  obtain ⟨i0,hi,hz0,hz1,hz2'⟩:=info_parts (P:=Try.prog) (e:=5) (z:=.int .u8 0) (size:=1) (bytes:=1) (by kernel_rfl)
  clear hcell hbw HK2
  go_wp2_with (at_builtin;refine wpList_append_own _ rfl _ _ 37 rfl w.heap.size 5 i0 (.int .u8 0) 1 1 Try.underlying37 hi hz0 hz1 hz2' rfl (by decide) (.slice none 0 0) 0 [] rfl ⟨rfl,.inl ⟨rfl,rfl⟩⟩ ⟨b1,off1+o,none⟩ (o+n - o) (c1 - o) (((dat.drop o).take n).map (Value.int .u8)) rfl ?qc1 ?qc2 ?qc3 ?qc4 ?qc5 ?qc6 ?_)
  case qc1=>omega
  case qc2 =>
   intro j u hj
   rw [← List.map_drop,← List.map_take,List.getElem?_map] at hj
   obtain ⟨z,hz,rfl⟩:=Option.map_eq_some_iff.1 hj
   rw [List.getElem?_take] at hz
   split at hz
   ·rw [List.getElem?_drop] at hz
    obtain ⟨hl1,hl2⟩:=List.getElem?_eq_some_iff.1 hz
    rw [Nat.add_assoc,HCELL.out (o+j) hl1,hl2]
   ·cases hz
  case qc3 =>
   intro u hu
   rw [← List.map_drop,← List.map_take] at hu
   obtain ⟨z,_,rfl⟩:=List.mem_map.1 hu
   rfl
  case qc4=>unfold maxLen;omega
  case qc5=>omega
  case qc6=>exact HB6.out.size
  intro v' w' ho hgr hni
  have hlen:((dat.drop o).take n).length=n:=by simp;omega
  have hb7:Below w.heap.size w w':=HB6.out.grown hgr (by have:=HB6.out.size;omega) (fun k hk=>by cases hk)
  rw [← List.map_drop,← List.map_take] at ho
  try rw [show 0+(o+n - o)=n by omega] at ho
  try rw [show o+n - o=n by omega] at ho
  obtain ⟨g,cb,rfl,hcb,hgb,hCb⟩:=own8_C ho hlen.symm hn0
  have HO:=Lib.hid ho
  have HB7:=Lib.hid hb7
  clear ho hgr hni hb7 hCb
  go_wp2
  go_ret2
  rw [hlen]
  refine ⟨_,_,rfl,?_,HB7.out⟩
  rcases HO.out.2 with ⟨h0,_⟩|⟨g2,cap,cur,hv,hg,hh,hnc,hcm,hsz,ht⟩
  ·cases h0
  ·injection hv with e1 e2 e3
   cases e1
   subst e3
   refine ⟨by omega,by unfold maxLen at hcm;omega,fun _=>⟨g,cur,rfl,hh,by rw [hlen];omega,fun i hi=>?_⟩⟩
   have e:=congrArg (fun l=>l[i]?) ht
   simp only [List.getElem?_take] at e
   rw [if_pos (by omega),List.getElem?_map,List.getElem?_eq_getElem hi] at e
   simpa using e
end Go.Proofs.Ythmeojeehemlaaa.Mem
end
section
namespace Go.Proofs.Ythmeojeehemlaaa.Mem
open Go.RowKit Go.Proofs.YthmeojeehemlaaaW.PrintWords
open Go.Proofs.Ythmeojeehemlaaa.PM
attribute [local go_sem] isSome_setCell
theorem add_nil (w:World) (f:Int) (A:Option Addr) (n c:Nat):Calls Try.prog 20 #[.pointer none,.agg #[.int .u64 f,.slice A n c]] w fun e w'=>e=.returned (.int .i64 1)∧Below w.heap.size w w':=by
 have HB:=Lib.hid (below_push (Nat.le_refl _) (Below.refl w.heap.size w) (.cells #[.int .u64 f,.slice A n c] 39))
 go_enter Try.func20,Try.ntmps20
 go_wp2
 go_ret
 exact ⟨rfl,HB.out⟩
theorem remove_nil (w:World) (x:Int):Calls Try.prog 43 #[.pointer none,.int .u64 x] w fun e w'=>e=.returned (.int .i64 1)∧w'=w:=by
 go_enter Try.func43,Try.ntmps43
 go_wp2
 go_ret
 exact ⟨rfl,rfl⟩
theorem load_nil (w:World) (x n:Int):Calls Try.prog 12 #[.pointer none,.int .u64 x,.int .i64 n] w fun e w'=>e=.returned (.tuple #[.int .u64 0,.int .i64 1])∧w'=w:=by
 go_enter Try.func12,Try.ntmps12
 go_wp2
 go_ret2
 exact ⟨rfl,rfl⟩
theorem store_nil (w:World) (x n v:Int):Calls Try.prog 11 #[.pointer none,.int .u64 x,.int .i64 n,.int .u64 v] w fun e w'=>e=.returned (.int .i64 1)∧w'=w:=by
 go_enter Try.func11,Try.ntmps11
 go_wp2
 go_ret
 exact ⟨rfl,rfl⟩
theorem bytes_nil (w:World) (x n:Int):Calls Try.prog 47 #[.pointer none,.int .u64 x,.int .i64 n] w fun e w'=>e=.returned (.tuple #[.slice none 0 0,.int .i64 1])∧w'=w:=by
 go_enter Try.func47,Try.ntmps47
 go_wp2
 go_ret2
 exact ⟨rfl,rfl⟩
theorem put_nil (w:World) (x:Int) (A:Option Addr) (n c:Nat):Calls Try.prog 50 #[.pointer none,.int .u64 x,.slice A n c] w fun e w'=>e=.returned (.int .i64 1)∧w'=w:=by
 go_enter Try.func50,Try.ntmps50
 go_wp2
 go_ret
 exact ⟨rfl,rfl⟩
theorem act_cells {w w1:World} {g q:Nat} {cs:Array Value} {v0:Value} {a b c d e f:Value} (hg:Blk w g 87 cs) (h0:cs[0]?=some v0) (hw:w1=w.alloc (.cells #[a,b,c,d,e,f] 46)) (hq:q=w.heap.size):∀ W,Below w1.heap.size w1 W →
  (fun W=>W.cell? ⟨g,0,none⟩=some v0∧W.cell? ⟨q,2,none⟩=some c∧W.cell? ⟨q,3,none⟩=some d∧W.cell? ⟨q,4,none⟩=some e∧W.cell? ⟨q,5,none⟩=some f) W:=fun W hW=>by
 subst hw hq
 have h1:=(hg.alloc (.cells #[a,b,c,d,e,f] 46)).below hW (hg.alloc _).lt
 have h2:=(Blk.new w 46 #[a,b,c,d,e,f]).below hW (Blk.new w 46 _).lt
 exact ⟨(h1.cell 0).trans h0,h2.cell 2,h2.cell 3,h2.cell 4,h2.cell 5⟩
theorem nothing2_ (w:World) (g:Nat) (cs:Array Value) (hg:Blk w g 87 cs) (h0:cs[0]?=some (.pointer none)) (wh k x n v:Int) (A:Option Addr) (l c:Nat) :
  Calls Try.prog 38 #[.pointer (some ⟨g,0,none⟩),.agg #[.int .i64 wh,.int .i64 k,.int .u64 x,.int .i64 n,.int .u64 v,.slice A l c]] w fun e w'=>e=.returned (.bool true)∧Below w.heap.size w w':=by
 obtain ⟨w1,hw1⟩:∃ w1,w1=w.alloc (.cells #[.int .i64 wh,.int .i64 k,.int .u64 x,.int .i64 n,.int .u64 v,.slice A l c] 46):=⟨_,rfl⟩
 obtain ⟨q,hq⟩:∃ q,q=w.heap.size:=⟨_,rfl⟩
 have HSA:=Lib.hid (act_cells (a:=.int .i64 wh) (b:=.int .i64 k) (c:=.int .u64 x) (d:=.int .i64 n) (e:=.int .u64 v) (f:=.slice A l c) hg h0 hw1 hq)
 have HB:=Lib.hid (show Below w.heap.size w w1 by rw [hw1];exact below_push (Nat.le_refl _) (Below.refl w.heap.size w) _)
 have hD0:=below_drew (Below.refl w1.heap.size w1)
 have HS0:=Lib.hid (HSA.out _ hD0)
 have HD0:=Lib.hid hD0
 have c1:=(show w1.cell? ⟨q,1,none⟩=some (.int .i64 k) by rw [hw1,hq];exact (Blk.new w 46 _).cell 1)
 have c0:=(HSA.out w1 (Below.refl _ _)).1
 have HQ:=Lib.hid hq
 have HW:=Lib.hid hw1
 clear hg h0 hD0 hq hw1
 by_cases hk:k=1∨k=2∨k=3∨k=4∨k=5∨k=6∨k=7
 ·rcases hk with rfl|rfl|rfl|rfl|rfl|rfl|rfl
  ·go_enter Try.func38,Try.ntmps38
   go_wp2_with fail
   rw [← HW.out,← HQ.out]
   go_region_held3 (fun W=>W.cell? ⟨g,0,none⟩=some (.pointer none)∧W.cell? ⟨q,2,none⟩=some (.int .u64 x)∧W.cell? ⟨q,3,none⟩=some (.int .i64 n)∧W.cell? ⟨q,4,none⟩=some (.int .u64 v)∧W.cell? ⟨q,5,none⟩=some (.slice A l c)) (first|exact HS0.out|exact HSA.out _ HB2.out) (first|(go_at_call 20;refine (add_nil _ _ _ _ _).mono ?_;rintro e w2 ⟨rfl,hb2⟩;have HB2:=Lib.hid (HD0.out.trans hb2);clear hb2))
   go_wp2
   go_ret
   exact ⟨rfl,HB.out.trans (HB2.out.mono HB.out.size)⟩
  ·go_enter Try.func38,Try.ntmps38
   go_wp2_with fail
   rw [← HW.out,← HQ.out]
   go_region_held3 (fun W=>W.cell? ⟨g,0,none⟩=some (.pointer none)∧W.cell? ⟨q,2,none⟩=some (.int .u64 x)∧W.cell? ⟨q,3,none⟩=some (.int .i64 n)∧W.cell? ⟨q,4,none⟩=some (.int .u64 v)∧W.cell? ⟨q,5,none⟩=some (.slice A l c)) (first|exact HS0.out) (first|(go_at_call 43;refine (remove_nil _ _).mono ?_;rintro e w2 ⟨rfl,rfl⟩))
   go_wp2
   go_ret
   exact ⟨rfl,HB.out.trans (HD0.out.mono HB.out.size)⟩
  ·go_enter Try.func38,Try.ntmps38
   go_wp2_with fail
   rw [← HW.out,← HQ.out]
   go_region_held3 (fun W=>W.cell? ⟨g,0,none⟩=some (.pointer none)∧W.cell? ⟨q,2,none⟩=some (.int .u64 x)∧W.cell? ⟨q,3,none⟩=some (.int .i64 n)∧W.cell? ⟨q,4,none⟩=some (.int .u64 v)∧W.cell? ⟨q,5,none⟩=some (.slice A l c)) (first|exact HS0.out) (first|(go_at_call 12;refine (load_nil _ _ _).mono ?_;rintro e w2 ⟨rfl,rfl⟩))
   go_wp2
   go_ret
   exact ⟨rfl,HB.out.trans (HD0.out.mono HB.out.size)⟩
  ·go_enter Try.func38,Try.ntmps38
   go_wp2_with fail
   rw [← HW.out,← HQ.out]
   go_region_held3 (fun W=>W.cell? ⟨g,0,none⟩=some (.pointer none)∧W.cell? ⟨q,2,none⟩=some (.int .u64 x)∧W.cell? ⟨q,3,none⟩=some (.int .i64 n)∧W.cell? ⟨q,4,none⟩=some (.int .u64 v)∧W.cell? ⟨q,5,none⟩=some (.slice A l c)) (first|exact HS0.out) (first|(go_at_call 11;refine (store_nil _ _ _ _).mono ?_;rintro e w2 ⟨rfl,rfl⟩))
   go_wp2
   go_ret
   exact ⟨rfl,HB.out.trans (HD0.out.mono HB.out.size)⟩
  ·go_enter Try.func38,Try.ntmps38
   go_wp2_with fail
   rw [← HW.out,← HQ.out]
   go_region_held3 (fun W=>W.cell? ⟨g,0,none⟩=some (.pointer none)∧W.cell? ⟨q,2,none⟩=some (.int .u64 x)∧W.cell? ⟨q,3,none⟩=some (.int .i64 n)∧W.cell? ⟨q,4,none⟩=some (.int .u64 v)∧W.cell? ⟨q,5,none⟩=some (.slice A l c)) (first|exact HS0.out) (first|(go_at_call 47;refine (bytes_nil _ _ _).mono ?_;rintro e w2 ⟨rfl,rfl⟩))
   go_wp2
   go_ret
   exact ⟨rfl,HB.out.trans (HD0.out.mono HB.out.size)⟩
  ·go_enter Try.func38,Try.ntmps38
   go_wp2_with fail
   rw [← HW.out,← HQ.out]
   go_region_held3 (fun W=>W.cell? ⟨g,0,none⟩=some (.pointer none)∧W.cell? ⟨q,2,none⟩=some (.int .u64 x)∧W.cell? ⟨q,3,none⟩=some (.int .i64 n)∧W.cell? ⟨q,4,none⟩=some (.int .u64 v)∧W.cell? ⟨q,5,none⟩=some (.slice A l c)) (first|exact HS0.out) (first|(go_at_call 50;refine (put_nil _ _ _ _ _).mono ?_;rintro e w2 ⟨rfl,rfl⟩))
   go_wp2
   go_ret
   exact ⟨rfl,HB.out.trans (HD0.out.mono HB.out.size)⟩
  ·rw [HW.out] at c0
   go_enter Try.func38,Try.ntmps38
   go_wp2_with (go_at_call 22;refine (regions_nil _).mono ?_;rintro e w' ⟨rfl,rfl⟩)
   go_ret
   rw [← HW.out]
   exact ⟨rfl,HB.out⟩
 ·have k1:(k == 1)=false:=by rw [beq_eq_false_iff_ne];omega
  have k2:(k == 2)=false:=by rw [beq_eq_false_iff_ne];omega
  have k3:(k == 3)=false:=by rw [beq_eq_false_iff_ne];omega
  have k4:(k == 4)=false:=by rw [beq_eq_false_iff_ne];omega
  have k5:(k == 5)=false:=by rw [beq_eq_false_iff_ne];omega
  have k6:(k == 6)=false:=by rw [beq_eq_false_iff_ne];omega
  have k7:(k == 7)=false:=by rw [beq_eq_false_iff_ne];omega
  have n1:¬ k=1:=by omega
  have n2:¬ k=2:=by omega
  have n3:¬ k=3:=by omega
  have n4:¬ k=4:=by omega
  have n5:¬ k=5:=by omega
  have n6:¬ k=6:=by omega
  have n7:¬ k=7:=by omega
  clear hk
  go_enter Try.func38,Try.ntmps38
  go_wp2
  refine bodyPost_ret (v:=.bool true) (by simp [results,Try.results38,go_sem]) rfl ?_
  rw [← HW.out]
  exact ⟨rfl,HB.out⟩
end Go.Proofs.Ythmeojeehemlaaa.Mem
end
section
namespace Go.Proofs.Ythmeojeehemlaaa.Mem
open Go.RowKit Go.Proofs.YthmeojeehemlaaaW.PrintWords
open Go.Proofs.Ythmeojeehemlaaa.PM
attribute [local go_sem] isSome_setCell
def Lender (w:World) (g:Nat) (p0 p1:Value) (X:Nat→Prop):Prop:=
 ∃ (B:Option Addr) (L:Nat) (n:Int),Blk w g 87 #[p0,p1,.slice B L L,.int .i64 n]∧L<562949953421312∧((B=none∧L=0)∨∃ (gb:Nat) (ys:List Int),B=some ⟨gb,0,none⟩∧ys.length=L∧Blk w gb 5 (Lnd.ints ys)∧g≠gb∧X gb)
def LentAt (w:World) (g:Nat) (p0 p1:Value) (gb:Nat) (bs:List Int):Prop:=
 ∃ (L:Nat) (ys:List Int),Blk w g 87 #[p0,p1,.slice (some ⟨gb,0,none⟩) L L,.int .i64 bs.length]∧L<562949953421312∧ys.length=L∧Blk w gb 5 (Lnd.ints ys)∧g≠gb∧2*bs.length+70≤L∧ys.take (2*bs.length+70)=Lnd.T bs
theorem lendc_ (w:World) (g:Nat) (p0 p1:Value) (X:Nat→Prop) (A:Option Addr) (c:Nat) (bs:List Int) (h:Lender w g p0 p1 X) (hC:Kd.C (Kd.int .u8) w A bs.length bs) (hl:bs.length≤1048576) (hfg:Lnd.Far A bs.length g) (hfx:0<bs.length→∀ ad,A=some ad→¬ X ad.block) :
  Calls Try.prog 73 #[.pointer (some ⟨g,2,none⟩),.slice A bs.length c] w fun e w'=>∃ gb,e=.returned (.slice (some ⟨gb,0,none⟩) bs.length (2*bs.length+70))∧LentAt w' g p0 p1 gb bs∧(X gb∨w.heap.size≤gb)∧Chg (fun k=>k=g∨X k) w w':=by
 obtain ⟨B,L,n,hg,hL,hB⟩:=h
 have hR:=Lnd.Rd.of_C hC
 by_cases hbig:2*bs.length+70≤L
 ·rcases hB with ⟨rfl,h0⟩|⟨gb,ys,rfl,hy,hb,hne,hX⟩
  ·omega
  ·refine (Lnd.lend_old p0 p1 w g gb L c n A ys bs hy hbig hL hg hb hne hR hfg (fun hp ad he hbk=>hfx hp ad he (by rw [hbk];exact hX))).mono ?_
   rintro e w' ⟨zs,h1,rfl,h2,h3,h4,h5⟩
   exact ⟨gb,rfl,⟨L,zs,h2,hL,h1,h3,hne,hbig,h4⟩,.inl hX,h5.chg.mono (fun k _ hk=>hk.imp id (fun e=>by rw [e];exact hX))⟩
 ·refine (Lnd.lend_new p0 p1 w g L c n A B bs (by omega) (by omega) hg hR hfg).mono ?_
  rintro e w' ⟨zs,h1,rfl,h2,h3,h4,h5⟩
  refine ⟨w.heap.size,rfl,⟨4*bs.length+512,zs,h2,by omega,h1,h3,?_,by omega,h4⟩,.inr (Nat.le_refl _),h5.chg.mono (fun k hk hk2=>hk2.imp id (fun e=>absurd hk (by omega)))⟩
  have:=hg.lt
  omega
theorem LentAt.C {w:World} {g:Nat} {p0 p1:Value} {gb:Nat} {bs:List Int} (h:LentAt w g p0 p1 gb bs):Kd.C (Kd.int .u8) w (some ⟨gb,0,none⟩) bs.length bs:=by
 obtain ⟨L,ys,h1,hL,h2,h3,h4,h5,h6⟩:=h
 have h7:=Lnd.C_of_blk h3 bs.length (by omega) (by omega)
 have e:ys.take bs.length=bs:=by
  have h8:=congrArg (List.take bs.length) h6
  rw [List.take_take,Nat.min_eq_left (by omega)] at h8
  rw [h8,Lnd.T,List.take_append_of_le_length (Nat.le_refl _),List.take_length]
 rw [e] at h7
 exact h7
theorem backc_ (w:World) (g:Nat) (p0 p1:Value) (gb:Nat) (A:Option Addr) (c:Nat) (bs:List Int) (h:LentAt w g p0 p1 gb bs) (hC:Kd.C (Kd.int .u8) w A bs.length bs) (hfg:Lnd.Far A bs.length g) (hfb:Lnd.Far A bs.length gb) :
  Calls Try.prog 41 #[.pointer (some ⟨g,2,none⟩),.slice A bs.length c] w fun e w'=>e=.returned (.bool true)∧(∀ X:Nat→Prop,X gb→Lender w' g p0 p1 X)∧Chg (fun k=>k=g∨k=gb) w w':=by
 obtain ⟨L,ys,h1,hL,h2,h3,h4,h5,h6⟩:=h
 refine (Lnd.lback_ p0 p1 w g gb L c A ys bs h2 h5 hL h1 h3 h4 hC h6 hfg hfb).mono ?_
 rintro e w' ⟨rfl,zs,h7,h8,h9,h10⟩
 exact ⟨rfl,fun X hX=>⟨_,L,_,h8,hL,.inr ⟨gb,zs,rfl,h7,h9,h4,hX⟩⟩,h10.chg⟩
theorem lend_ (w:World) (g:Nat) (p0 p1:Value) (X:Nat→Prop) (wh k x n v:Int) (A:Option Addr) (c:Nat) (bs:List Int) (h:Lender w g p0 p1 X) (hC:Kd.C (Kd.int .u8) w A bs.length bs) (hl:bs.length≤1048576) (hfg:Lnd.Far A bs.length g) (hfx:0<bs.length→∀ ad,A=some ad→¬ X ad.block) :
  Calls Try.prog 40 #[.pointer (some ⟨g,0,none⟩),.agg #[.int .i64 wh,.int .i64 k,.int .u64 x,.int .i64 n,.int .u64 v,.slice A bs.length c]] w fun e w'=>∃ gb A' c',e=.returned (.slice A' bs.length c')∧Kd.C (Kd.int .u8) w' A' bs.length bs∧LentAt w' g p0 p1 gb bs∧(X gb∨w.heap.size≤gb)∧Chg (fun k=>k=g∨X k) w w':=by
 obtain ⟨w1,hw1⟩:∃ w1,w1=w.alloc (.cells #[.int .i64 wh,.int .i64 k,.int .u64 x,.int .i64 n,.int .u64 v,.slice A bs.length c] 46):=⟨_,rfl⟩
 obtain ⟨q,hq⟩:∃ q,q=w.heap.size:=⟨_,rfl⟩
 have hb1:Below w.heap.size w w1:=by rw [hw1];exact below_push (Nat.le_refl _) (Below.refl w.heap.size w) _
 have hlt:g<w.heap.size:=by obtain ⟨_,_,_,hg,_⟩:=h;exact hg.lt
 have hbq:Blk w1 q 46 #[.int .i64 wh,.int .i64 k,.int .u64 x,.int .i64 n,.int .u64 v,.slice A bs.length c]:=by rw [hw1,hq];exact Blk.new _ _ _
 have h1:Lender w1.drew g p0 p1 (fun k=>X k∧k<w.heap.size):=by
  obtain ⟨B,L,m,hg,hL,hB⟩:=h
  refine ⟨B,L,m,(hg.below hb1 hg.lt).drew,hL,?_⟩
  rcases hB with hB|⟨gb,ys,e,hy,hb,hne,hX⟩
  ·exact .inl hB
  ·exact .inr ⟨gb,ys,e,hy,(hb.below hb1 hb.lt).drew,hne,hX,hb.lt⟩
 have HSA:=Lib.hid (show ∀ W,Chg (fun k=>k=g∨(X k∧k<w.heap.size)) w1.drew W→(fun W=>W.cell? ⟨q,4,none⟩=some (.int .u64 v)∧W.cell? ⟨q,5,none⟩=some (.slice A bs.length c)) W from fun W hW=>by
  have hbl:W.heap[q]?=w1.heap[q]?:=hW.block q hbq.lt (fun hx=>by rcases hx with h|h <;> omega)
  have hbq2:Blk W q 46 _:=hbl.trans hbq
  exact ⟨hbq2.cell 4,hbq2.cell 5⟩)
 have HS0:=Lib.hid (HSA.out w1.drew (Chg.refl _ _))
 have HLC:=Lib.hid (lendc_ w1.drew g p0 p1 _ A c bs h1 (Kd.C_drewN (Kd.C_below hC hb1) 1) hl hfg (fun hp ad he hx=>hfx hp ad he hx.1))
 have HB1:=Lib.hid hb1
 have HQ:=Lib.hid hq
 have HW:=Lib.hid hw1
 clear h hC hfg hfx hb1 hbq h1 hq hw1
 go_enter Try.func40,Try.ntmps40
 go_wp2_with fail
 rw [← HW.out,← HQ.out]
 go_region_held3 (fun W=>W.cell? ⟨q,4,none⟩=some (.int .u64 v)∧W.cell? ⟨q,5,none⟩=some (.slice A bs.length c)) (first|exact HS0.out|exact HSA.out _ HCH.out) (first|(go_at_call 73;refine HLC.out.mono ?_;rintro e w2 ⟨gb,rfl,hla,hgb,hch⟩;have HLA:=Lib.hid hla;have HGB:=Lib.hid hgb;have HCH:=Lib.hid hch;clear hla hgb hch))
 have HFIN:=Lib.hid (show LentAt w2 g p0 p1 gb bs∧(X gb∨w.heap.size≤gb)∧Chg (fun k=>k=g∨X k) w w2 from ⟨HLA.out,HGB.out.imp (fun h=>h.1) (fun h=>Nat.le_trans HB1.out.size h),(Chg.of_below (pw_below_drewN HB1.out 1) (Nat.le_refl _)).trans (HCH.out.mono (fun k _ hk=>hk.imp id (fun h=>h.1)))⟩)
 have HC2:=Lib.hid HLA.out.C
 have c4:=(HSA.out _ HCH.out).1
 have c5:=(HSA.out _ HCH.out).2
 by_cases hz:bs.length=0
 ·obtain rfl:bs=[]:=List.length_eq_zero_iff.1 hz
  clear hz
  simp only [List.length_nil] at c5 ⊢
  go_wp2_with fail
  all_goals
   go_ret
   first|exact ⟨gb,none,0,rfl,⟨rfl,by decide,fun h=>absurd h (by decide)⟩,HFIN.out⟩|exact ⟨gb,_,_,rfl,HC2.out,HFIN.out⟩
 ·have hz1:((bs.length:Int) == 0)=false:=by rw [beq_eq_false_iff_ne];omega
  have hz2:(bs.length == 0)=false:=by rw [beq_eq_false_iff_ne];omega
  have hz3:¬ bs=[]:=fun e=>hz (by rw [e];rfl)
  go_wp2
  go_ret
  exact ⟨gb,_,_,rfl,HC2.out,HFIN.out⟩
end Go.Proofs.Ythmeojeehemlaaa.Mem
end
end
