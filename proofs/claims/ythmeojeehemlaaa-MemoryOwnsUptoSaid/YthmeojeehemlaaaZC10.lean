/- Parts of the proof, laid together by a program of this session (pack.py): Ow1, Ow2, YA10. -/
import Derived.Test.YthmeojeehemlaaaZC9
set_option linter.unusedVariables false
set_option linter.unusedSimpArgs false
set_option maxRecDepth 100000
set_option maxHeartbeats 16000000
section
namespace Go.Proofs.Ythmeojeehemlaaa.Mem
open Go.RowKit Go.Proofs.YthmeojeehemlaaaW.PrintWords
open Go.Proofs.Ythmeojeehemlaaa.PM
attribute [local go_sem] isSome_setCell
abbrev OwnB (w:World) (base:Nat) (A:Option Addr) (c:Nat) (l:List Int):Prop:=w.ownsRow base 5 1 (.slice A l.length c) l.length (l.map (Value.int .u8))
theorem Dat.of_own {w:World} {base c:Nat} {A:Option Addr} {l:List Int} (h:OwnB w base A c l):Dat w A c l:=by
 rcases h.2 with ⟨hv,h0⟩|⟨g,cap,cur,hv,hg,hh,hnc,hcm,hsz,ht⟩
 ·obtain ⟨rfl,_,rfl⟩:=Value.slice.inj hv
  exact ⟨by omega,by decide,fun h=>by omega⟩
 ·obtain ⟨rfl,_,rfl⟩:=Value.slice.inj hv
  refine ⟨hnc,by unfold maxLen at hcm;omega,fun hp=>⟨g,cur,rfl,hh,by omega,fun i hi=>?_⟩⟩
  have e1:(cur.toList.take (l.length*1))[i]?=some (.int .u8 l[i]):=by
   rw [ht,List.getElem?_map,List.getElem?_eq_getElem hi];rfl
  rw [List.getElem?_take] at e1
  split at e1
  ·simpa using e1
  ·cases e1
theorem OwnB.below {w w':World} {base c:Nat} {A:Option Addr} {l:List Int} (h:OwnB w base A c l) (hb:Below w.heap.size w w'):OwnB w' base A c l:=ownsRow_below h hb
theorem OwnB.base {w:World} {b b' c:Nat} {A:Option Addr} {l:List Int} (h:OwnB w b A c l) (hb:b'≤b):OwnB w b' A c l:=by
 refine ⟨h.1,?_⟩
 rcases h.2 with hn|⟨g,cap,cur,hv,hg,rest⟩
 ·exact .inl hn
 ·exact .inr ⟨g,cap,cur,hv,by omega,rest⟩
theorem cloneR_ (w:World) (A:Option Addr) (n c:Nat) (l:List Int) (hC:Kd.C (Kd.int .u8) w A n l) (hbig:n≤140737488355328) :
  Calls Try.prog 57 #[.slice A n c] w fun e w'=>∃ A' c',e=.returned (.slice A' l.length c')∧OwnB w' w.heap.size A' c' l∧Below w.heap.size w w':=by
 obtain ⟨hl,hc⟩:=Kd.C_byte hC
 cases A with
 | none =>
  have h0:n=0:=by
   rcases Nat.eq_zero_or_pos n with h|h
   ·exact h
   ·obtain ⟨ad,_,e,_⟩:=Kd.C_get hC (0:Int) 0 (by omega) (by omega)
    cases e
  refine (clone_nil n c w).mono ?_
  rintro e w' ⟨rfl,rfl⟩
  obtain rfl:l=[]:=List.eq_nil_of_length_eq_zero (by omega)
  exact ⟨none,0,rfl,World.ownsRow_nil _ _ _ _,Below.refl _ _⟩
 | some ad =>
  refine (clone_ ad n c l w hl.symm hbig (hc ad rfl)).mono ?_
  rintro e w' ⟨v',rfl,ho,hne,hb⟩
  subst hl
  rcases ho.2 with ⟨hv,_⟩|⟨g,cap,cur,rfl,rest⟩
  ·exact absurd hv hne
  ·exact ⟨_,cap,rfl,ho,hb⟩
theorem bytesR_ (w:World) (s:Nat) (rs:List Reg) (x n:Int) (h:SpaceAt w s rs) (hr:Rising rs) (hd:∀ r∈rs,r.data.length≤140737488355328) (hx0:0≤x) (hx1:x<18446744073709551616) (hn0:-9223372036854775808≤n) (hn1:n<9223372036854775808) :
  Calls Try.prog 47 #[.pointer (some ⟨s,0,none⟩),.int .u64 x,.int .i64 n] w fun e w'=>∃ A' c',e=.returned (.tuple #[.slice A' (bytesOf rs x n).1.length c',.int .i64 (bytesOf rs x n).2])∧OwnB w' w.heap.size A' c' (bytesOf rs x n).1∧Below w.heap.size w w':=by
 by_cases hneg:n<0
 ·have hb:bytesOf rs x n=([],200):=by unfold bytesOf;rw [if_pos hneg]
  rw [hb]
  have hz:decide (n<0)=true:=decide_eq_true hneg
  clear h
  go_enter Try.func47,Try.ntmps47
  go_wp2
  go_ret2
  exact ⟨none,0,rfl,World.ownsRow_nil _ _ _ _,Below.refl _ _⟩
 by_cases hz:n=0
 ·have hb:bytesOf rs x n=([],0):=by unfold bytesOf;rw [if_neg hneg,if_pos hz]
  rw [hb]
  subst hz
  clear h
  go_enter Try.func47,Try.ntmps47
  go_wp2
  go_ret2
  exact ⟨none,0,rfl,World.ownsRow_nil _ _ _ _,Below.refl _ _⟩
 obtain ⟨m,rfl⟩:∃ m:Nat,n=m:=⟨n.toNat,by omega⟩
 have hm0:1≤m:=by omega
 have hm1:m<9223372036854775808:=by omega
 have hz2:((m:Int) == 0)=false:=by rw [beq_eq_false_iff_ne];omega
 have HS:=Lib.hid h
 have HR:=Lib.hid hr
 have HX:=Lib.hid (And.intro hx0 hx1)
 have HD:=Lib.hid hd
 have HB:=Lib.hid (show bytesOf rs x m=match viewOf rs x m with
  | some (r,o)=>((r.data.drop o).take m,0)
  | none=>([],200) from by unfold bytesOf;rw [if_neg hneg,if_neg hz,Int.toNat_natCast];cases viewOf rs x m <;> rfl)
 cases hv:viewOf rs x m with
 | none =>
  rw [HB.out,hv]
  have HV:=Lib.hid hv
  clear h hr hd hx0 hx1 hv HB
  go_enter Try.func47,Try.ntmps47
  go_wp2_with (first|(go_at_call 23;refine (view_ _ _ rs x m HS.out HR.out hm0 hm1 HX.out.1 HX.out.2).mono ?_;rintro e' w' ⟨rfl,⟨nd2,rfl⟩⟩;rw [HV.out,show viewVal m none=.tuple #[.slice none 0 0,.int .i64 200] from rfl])|(go_at_call 57;refine (cloneR_ _ none 0 0 [] (C_nil _) (by decide)).mono ?_;rintro e' w' ⟨A',c',rfl,hd,hb⟩;have HDD:=Lib.hid hd;have HBB:=Lib.hid hb;clear hd hb))
  go_ret2
  exact ⟨A',c',rfl,HDD.out,(pw_below_drewN (Below.refl _ _) _).trans HBB.out⟩
 | some ro =>
  obtain ⟨r,o⟩:=ro
  obtain ⟨hm,hlen,hxo⟩:=viewOf_some rs x m r o hv
  clear hxo
  obtain ⟨P,cap,hbk,hrow⟩:=h
  have hreg:=hrow.regs r hm
  obtain ⟨d,cs,hA,hB,hsz,hdat⟩:=hreg.row (by omega)
  have HC:=Lib.hid (view_C hreg o m hlen)
  rw [HB.out,hv]
  have HV:=Lib.hid hv
  have HVV:=Lib.hid (viewVal_some m r o d hA)
  have HCA:=Lib.hid (show (r.A.map fun a=>a.add o)=some ⟨d,o,none⟩ from by
   have:=viewVal_some m r o d hA
   unfold viewVal at this
   injection this with this
   have:=congrArg (fun a=>a[0]?) this
   simp at this
   simpa using this)
  have hmb:m≤140737488355328:=by have:=hd r hm;omega
  clear hrow hbk hreg hA hB hsz hdat hr hd hx0 hx1 hv hm hlen HB
  go_enter Try.func47,Try.ntmps47
  go_wp2_with (first|(go_at_call 23;refine (view_ _ _ rs x m HS.out HR.out hm0 hm1 HX.out.1 HX.out.2).mono ?_;rintro e' w' ⟨rfl,⟨nd2,rfl⟩⟩;rw [HV.out,HVV.out])|(go_at_call 57;refine (cloneR_ _ (some ⟨d,o,none⟩) m _ ((r.data.drop o).take m) (by rw [← HCA.out];exact Kd.C_drewN HC.out _) hmb).mono ?_;rintro e' w' ⟨A',c',rfl,hd,hb⟩;have HDD:=Lib.hid hd;have HBB:=Lib.hid hb;clear hd hb))
  go_ret2
  exact ⟨A',c',by rw [List.length_take,List.length_drop];rfl,HDD.out,(pw_below_drewN (Below.refl _ _) _).trans HBB.out⟩
end Go.Proofs.Ythmeojeehemlaaa.Mem
end
section
namespace Go.Proofs.Ythmeojeehemlaaa.Mem
open Go.RowKit Go.Proofs.YthmeojeehemlaaaW.PrintWords
open Go.Proofs.Ythmeojeehemlaaa.PM
attribute [local go_sem] isSome_setCell
def oval (o:Out):Value:=.slice o.A o.data.length o.cap
def SepO (os:List Out):Prop:=os.Pairwise fun a b=>∀ g,(oval a).ownBlock=some g→(oval b).ownBlock≠some g
structure OutsR (w:World) (base:Nat) (v:Value) (os:List Out):Prop where
 row:w.ownsRow base 39 2 v os.length (outCells os)
 dat:∀ o∈os,OwnB w base o.A o.cap o.data
 sep:SepO os
theorem OutsR.below {w w':World} {base:Nat} {v:Value} {os:List Out} (h:OutsR w base v os) (hb:Below w.heap.size w w'):OutsR w' base v os:=
 ⟨ownsRow_below h.row hb,fun o ho=>(h.dat o ho).below hb,h.sep⟩
theorem own_ne {w:World} {b b' n m s s':Nat} {e e':TypeId} {u v:Value} {xs ys:List Value} (h:w.ownsRow b e s u n xs) (h':w.ownsRow b' e' s' v m ys) (hne:e≠e'):u.ownBlock=none∨u.ownBlock≠v.ownBlock:=by
 rcases h.2 with ⟨rfl,_⟩|⟨g,cap,cur,rfl,_,hh,_⟩
 ·exact .inl rfl
 ·rcases h'.2 with ⟨rfl,_⟩|⟨g',cap',cur',rfl,_,hh',_⟩
  ·right;simp [Value.ownBlock]
  ·right
   intro e1
   have:g=g':=by simpa [Value.ownBlock] using e1
   subst this
   rw [hh] at hh'
   exact hne (by simpa using (congrArg (fun x=>match x with|some (Obj.cells _ t _)=>t|_=>0) hh'))
theorem outs_stepR {w wr w' w2:World} {v v':Value} {os:List Out} {f:Int} {A':Option Addr} {c':Nat} {l:List Int} (hO:OutsR wr w.heap.size v os) (hD:OwnB w' wr.drew.heap.size A' c' l) (hB:Below w.heap.size w wr) (hb:Below wr.drew.heap.size wr.drew w')
  (ho:w2.ownsRow w.heap.size 39 2 v' (os.length+1) (outCells os ++ [.int .u64 f,.slice A' l.length c'])) (hg:(w'.alloc (.cells #[.int .u64 f,.slice A' l.length c'] 39)).grownBy w2 v.ownBlock) :
  OutsR w2 w.heap.size v' (os ++ [⟨f,A',c',l⟩])∧Below w.heap.size w w2:=by
 have hsz:w.heap.size≤wr.heap.size:=hB.size
 have bd:Below wr.heap.size wr w':=(below_drew (Below.refl _ wr)).trans hb
 have b1:Below w.heap.size w w':=hB.trans (bd.mono hsz)
 have hO1:=(hO.below bd)
 have pu:=below_push (Nat.le_refl _) (Below.refl w'.heap.size w') (.cells #[.int .u64 f,.slice A' l.length c'] 39)
 have hO2:=hO1.below pu
 have hD2:=hD.below pu
 have b2:Below w.heap.size w (w'.alloc (.cells #[.int .u64 f,.slice A' l.length c'] 39)):=below_push b1.size b1 _
 refine ⟨⟨by simpa [outCells,List.flatMap_append] using ho,fun o hm=>?_,?_⟩,b2.grown hg (by have:=b2.size;omega) (fun k hk=>(World.ownsRow.lt hO2.row k hk).1)⟩
 ·rcases List.mem_append.1 hm with h|h
  ·exact (hO2.dat o h).kept hg (own_ne (hO2.dat o h) hO2.row (by decide))
  ·rw [List.mem_singleton.1 h]
   exact (hD2.base hsz).kept hg (own_ne hD2 hO2.row (by decide))
 ·refine List.pairwise_append.2 ⟨hO.sep,List.pairwise_singleton _ _,fun a ha b hb' g hga hgb=>?_⟩
  rw [List.mem_singleton] at hb'
  subst hb'
  have h1:=(World.ownsRow.lt (hO.dat a ha) g hga).2
  have h2:=(World.ownsRow.lt hD g hgb).1
  have h3:wr.drew.heap.size=wr.heap.size:=rfl
  omega
theorem regionsR_ (B:Nat) (w:World) (s:Nat) (rs:List Reg) (h:St B w s rs) (hd:∀ r∈rs,r.data.length≤140737488355328) :
  Calls Try.prog 22 #[.pointer (some ⟨s,0,none⟩)] w fun e w'=>∃ v os,e=.returned (.tuple #[v,.int .i64 0])∧OutsR w' w.heap.size v os∧os.map (fun o=>(o.first,o.data))=rs.map toOut∧Below w.heap.size w w':=by
 obtain ⟨P,cap,hsp,hrow,hPB⟩:=h.sp
 have cs0:=hsp.cell 0
 simp only [List.getElem?_toArray,List.getElem?_cons_zero] at cs0
 have HST:=Lib.hid h
 have HROW:=Lib.hid hrow
 have HD:=Lib.hid hd
 obtain ⟨n,hn⟩:∃ n,n=rs.length:=⟨_,rfl⟩
 have hn2:n<4398046511104:=by rw [hn];exact hrow.big
 rw [← hn] at cs0
 have HN:=Lib.hid hn
 clear hsp hrow hPB h hd hn
 obtain ⟨i0,hi,hz0,hz1,hz2⟩:=info_parts (P:=Try.prog) (e:=39) (z:=.agg #[.int .u64 0,.slice none 0 0]) (size:=2) (bytes:=32) (by kernel_rfl)
 go_enter Try.func22,Try.ntmps22
 go_wp2
 go_loopw [4,14] (fun v i wr=>∃ (k:Nat) (os:List Out),k≤n∧i=.int .i64 (k:Int)∧Hid (OutsR wr w.heap.size v os)∧Hid (os.map (fun o=>(o.first,o.data))=(rs.take k).map toOut)∧Hid (Below w.heap.size w wr)) (fun _ i _=>n - (RowKit.intOf i).toNat)
 case atStart=>exact ⟨0,[],Nat.zero_le _,rfl,Lib.hid ⟨⟨rfl,.inl ⟨rfl,rfl⟩⟩,fun _ h=>absurd h List.not_mem_nil,List.Pairwise.nil⟩,Lib.hid rfl,Lib.hid (Below.refl _ _)⟩
 case round =>
  obtain ⟨k,os,hk,rfl,hO,hE,hB⟩:=hrel
  by_cases hlt:k<n
  ·obtain ⟨p,hP,c0,hreg⟩:=(HROW.out.below hB.out).at_ k (by rw [← HN.out];exact hlt)
   subst hP
   obtain ⟨R,hR⟩:∃ R,R=rs[k]'(by rw [← HN.out];exact hlt):=⟨_,rfl⟩
   rw [← hR] at c0 hreg
   have c1:=hreg.f
   have c2:=hreg.d
   have HREG:=Lib.hid hreg
   have HDL:=Lib.hid (show R.data.length≤140737488355328 from HD.out R (by rw [hR];exact List.getElem_mem _))
   have HR:=Lib.hid (show ∃ h:k<rs.length,rs[k]=R from ⟨by rw [← HN.out];exact hlt,hR.symm⟩)
   have HC:=Lib.hid (show Kd.C (Kd.int .u8) wr R.A R.data.length R.data from reg_C hreg)
   have HOL:=Lib.hid (show os.length<4398046511104 by
    have h1:=congrArg List.length hE.out
    simp at h1
    omega)
   clear hreg hR
   go_wp2
   refine Code.wp_mono (Q:=Norm fun a W=>∃ v' A' c' g,a={ tmps:=#[Value.pointer (some ⟨s,0,none⟩),undef,Value.slice none 0 0,Value.int IntKind.i64 0,v',undef,Value.pointer (some ⟨R.b,0,none⟩),Value.pointer (some ⟨s,0,none⟩),Value.bool false,Value.pointer (some ⟨s,0,none⟩),Value.pointer (some ⟨s,0,none⟩),Value.pointer (some ⟨s,0,none⟩),Value.slice (some ⟨p,0,none⟩) n cap,Value.int IntKind.i64 (n:Int),Value.int IntKind.i64 (k:Int),Value.bool true,Value.pointer (some ⟨p,k,none⟩),Value.pointer (some ⟨R.b,0,none⟩),u4,Value.pointer (some ⟨R.b,0,none⟩),Value.pointer (some ⟨R.b,0,none⟩),Value.pointer (some ⟨R.b,0,none⟩),Value.int IntKind.u64 R.first,Value.pointer (some ⟨R.b,0,none⟩),Value.pointer (some ⟨R.b,0,none⟩),Value.pointer (some ⟨R.b,1,none⟩),Value.slice R.A R.data.length R.cap,Value.slice A' R.data.length c',Value.agg #[Value.int IntKind.u64 R.first,Value.slice A' R.data.length c'],Value.slice (some ⟨g,0,none⟩) 1 1,v',u31,undef],defers:=[] }∧Hid (OutsR W w.heap.size v' (os ++ [⟨R.first,A',c',R.data⟩]))∧Hid (Below w.heap.size w W)) ?_ ?_
   rotate_left
   ·go_region_law (first|(go_simp;go_at_call 57;go_wp2_with (go_at_call 57;refine (cloneR_ _ R.A _ _ R.data (Kd.C_drewN HC.out 1) HDL.out).mono ?_;rintro e w' ⟨A',c',rfl,hd,hb⟩;have cr0:=((HREG.out.blk.drew).below hb HREG.out.blk.lt).cell 0;simp only [List.getElem?_toArray,List.getElem?_cons_zero] at cr0;have HDT:=Lib.hid hd;have HBL:=Lib.hid hb;have HO2:=Lib.hid (hO.out.below ((below_drew (Below.refl _ wr)).trans hb));clear hd hb))|(refine step_append_own rfl (.tmp 18) (.tmp 29) 22 rfl w.heap.size 39 i0 (.agg #[.int .u64 0,.slice none 0 0]) 2 32 Try.underlying22 hi hz0 hz1 hz2 rfl (by decide) u4 os.length (outCells os) rfl (ownsRow_below HO2.out.row (below_push (Nat.le_refl _) (Below.refl _ _) _)) ⟨w'.heap.size,0,none⟩ 1 1 [.int .u64 R.first,.slice A' R.data.length c'] rfl rfl (new_cells _ _ _ _) (one_cells _) (by have:=HOL.out;unfold maxLen;omega) (by have:=HOL.out;omega) (base_le hB.out HBL.out _) ?_;intro v' w2 ho hgr hni;have HW2:=Lib.hid (outs_stepR hO.out HDT.out hB.out HBL.out ho hgr);clear ho hgr hni))
    all_goals exact ⟨_,_,_,⟨_,rfl⟩,Lib.hid HW2.out.1,Lib.hid HW2.out.2⟩
   refine Norm.elim ?_
   rintro a W ⟨v',A',c',g,rfl,HO3,HB3⟩
   go_wp2
   go_roundw
   case rel =>
    refine ⟨k+1,os ++ [⟨R.first,A',c',R.data⟩],by omega,by go_num,HO3,Lib.hid ?_,HB3⟩
    obtain ⟨h,e⟩:=HR.out
    rw [List.take_succ_eq_append_getElem h,List.map_append,List.map_append,hE.out,e]
    rfl
   case measure=>simp [RowKit.intOf];omega
  ·obtain rfl:k=n:=by omega
   go_wp2
   go_ret2
   have h1:=hE.out
   rw [List.take_of_length_le (by rw [← HN.out];exact Nat.le_refl _)] at h1
   exact ⟨_,os,rfl,hO.out,h1,hB.out⟩
end Go.Proofs.Ythmeojeehemlaaa.Mem
end
section
section
namespace Go.Proofs.Ythmeojeehemlaaa.Mem
open Go.RowKit Go.Proofs.YthmeojeehemlaaaW.PrintWords
open Go.Proofs.Ythmeojeehemlaaa.PM
theorem Blk.chg {F:Nat→Prop} {w w':World} {g:Nat} {t:TypeId} {cs:Array Value} (h:Blk w g t cs) (hc:Chg F w w') (hn:¬ F g):Blk w' g t cs:=(hc.block g h.lt hn).trans h
theorem StF.chg {F G:Nat→Prop} {w w':World} {s:Nat} {rs:List Reg} (h:StF F w s rs) (hc:Chg G w w') (hd:∀ k,F k→¬ G k):StF F w' s rs:=by
 obtain ⟨P,cap,h1,h2,h3⟩:=h.sp
 refine ⟨⟨P,cap,h1.chg hc (hd s h.base),⟨h2.big,h2.len,h2.small,?_,fun r hr2=>?_⟩,h3⟩,h.base,h.data,h.apart,h.rising,h.bytes,h.regs⟩
 ·rcases h2.row with hn|⟨p,cs,e,hb,hs,hc2⟩
  ·exact .inl hn
  ·exact .inr ⟨p,cs,e,hb.chg hc (hd _ (h3 _ e)),hs,hc2⟩
 ·have hq:=h2.regs r hr2
  refine ⟨hq.blk.chg hc (hd _ (h.regs r hr2)),hq.len,hq.small,hq.first0,hq.first1,fun hp=>?_⟩
  obtain ⟨d,cs,e,hb,hl,hc2⟩:=hq.row hp
  exact ⟨d,cs,e,hb.chg hc (hd d (h.data r hr2 d e hp)),hl,hc2⟩
theorem StF.mono {F G:Nat→Prop} {w:World} {s:Nat} {rs:List Reg} (h:StF F w s rs) (hg:∀ k,k<w.heap.size→F k→G k):StF G w s rs:=by
 obtain ⟨P,cap,h1,h2,h3⟩:=h.sp
 refine ⟨⟨P,cap,h1,h2,fun p e=>hg _ ?_ (h3 p e)⟩,hg s h1.lt h.base,fun r hr d e hp=>hg d ?_ (h.data r hr d e hp),h.apart,h.rising,h.bytes,fun r hr=>hg _ (h2.regs r hr).blk.lt (h.regs r hr)⟩
 ·rcases h2.row with ⟨hn,_⟩|⟨q,cs,e2,hb,_⟩
  ·rw [hn] at e;cases e
  ·rw [e] at e2;cases e2;exact hb.lt
 ·obtain ⟨d2,cs,e2,hb,_⟩:=(h2.regs r hr).row hp
  rw [e] at e2;cases e2;exact hb.lt
theorem StF.shrink {F:Nat→Prop} {w:World} {s:Nat} {rs:List Reg} (h:StF F w s rs):StF (fun k=>F k∧k<w.heap.size) w s rs:=h.mono fun k hk hf=>⟨hf,hk⟩
theorem Lender.chg {G X:Nat→Prop} {w w':World} {g:Nat} {p0 p1:Value} (h:Lender w g p0 p1 X) (hc:Chg G w w') (hg:¬ G g) (hx:∀ k,X k→¬ G k):Lender w' g p0 p1 X:=by
 obtain ⟨B,L,n,h1,hL,h2⟩:=h
 refine ⟨B,L,n,h1.chg hc hg,hL,?_⟩
 rcases h2 with h2|⟨gb,ys,e,hy,hb,hne,hX⟩
 ·exact .inl h2
 ·exact .inr ⟨gb,ys,e,hy,hb.chg hc (hx gb hX),hne,hX⟩
theorem Lender.shrink {X:Nat→Prop} {w:World} {g:Nat} {p0 p1:Value} (h:Lender w g p0 p1 X):Lender w g p0 p1 (fun k=>X k∧k<w.heap.size∧k≠g):=by
 obtain ⟨B,L,n,h1,hL,h2⟩:=h
 refine ⟨B,L,n,h1,hL,?_⟩
 rcases h2 with h2|⟨gb,ys,e,hy,hb,hne,hX⟩
 ·exact .inl h2
 ·exact .inr ⟨gb,ys,e,hy,hb,hne,hX,hb.lt,hne.symm⟩
theorem Lender.set1 {X:Nat→Prop} {w:World} {g:Nat} {p0 p1:Value} (h:Lender w g p0 p1 X) (v:Value):Lender (w.setCell ⟨g,1,none⟩ v) g p0 v X:=by
 obtain ⟨B,L,n,h1,hL,h2⟩:=h
 refine ⟨B,L,n,h1.set_ 1 v,hL,?_⟩
 rcases h2 with h2|⟨gb,ys,e,hy,hb,hne,hX⟩
 ·exact .inl h2
 ·exact .inr ⟨gb,ys,e,hy,hb.far (p:=⟨g,1,none⟩) hne _,hne,hX⟩
theorem LentAt.chg {G:Nat→Prop} {w w':World} {g gb:Nat} {p0 p1:Value} {bs:List Int} (h:LentAt w g p0 p1 gb bs) (hc:Chg G w w') (hg:¬ G g) (hx:¬ G gb):LentAt w' g p0 p1 gb bs:=by
 obtain ⟨L,ys,h1,hL,h2,h3,h4,h5,h6⟩:=h
 exact ⟨L,ys,h1.chg hc hg,hL,h2,h3.chg hc hx,h4,h5,h6⟩
theorem LentAt.lt {w:World} {g gb:Nat} {p0 p1:Value} {bs:List Int} (h:LentAt w g p0 p1 gb bs):gb<w.heap.size∧g≠gb:=by
 obtain ⟨L,ys,h1,hL,h2,h3,h4,h5,h6⟩:=h
 exact ⟨h3.lt,h4⟩
theorem LentAt.blk {w:World} {g gb:Nat} {p0 p1:Value} {bs:List Int} (h:LentAt w g p0 p1 gb bs):∃ a b,Blk w g 87 #[p0,p1,a,b]:=by
 obtain ⟨L,ys,h1,hL,h2,h3,h4,h5,h6⟩:=h
 exact ⟨_,_,h1⟩
theorem Lender.blk {w:World} {g:Nat} {p0 p1:Value} {X:Nat→Prop} (h:Lender w g p0 p1 X):∃ a b,Blk w g 87 #[p0,p1,a,b]:=by
 obtain ⟨B,L,n,h1,_⟩:=h
 exact ⟨_,_,h1⟩
theorem V_chg {G ok:Nat→Prop} {w w':World} {v:Value} {xs:List S39} {b:Nat} (h:Kd.V k39 39 w b ok v xs) (hc:Chg G w w') (hd:∀ k,ok k→¬ G k):Kd.V k39 39 w' b ok v xs:=Kd.V_step h fun k hk hlt=>hc.block k hlt (hd k hk)
structure DeskAt (w:World) (F ok:Nat→Prop) (g:Nat) (P0:Option Addr) (rl:List S39) (rs:List Reg):Prop where
 parts:∃ (A1:Option Addr) (c1:Nat) (S X:Nat→Prop),Lender w g (.pointer P0) (.slice A1 rl.length c1) X∧Kd.V k39 39 w 0 ok (.slice A1 rl.length c1) rl∧((P0=none∧rl=[]∧rs=[])∨∃ s,P0=some ⟨s,0,none⟩∧StF S w s rs∧Rel rl rs) ∧
  (∀ k,S k→F k)∧(∀ k,X k→F k)∧(∀ k,S k→¬ X k)∧¬ S g∧¬ X g
 own:F g
 lt:∀ k,F k→k<w.heap.size
 apart:∀ k,ok k→¬ F k
 small:∀ y∈rl,Small y
 oklt:∀ k,ok k→k<w.heap.size
theorem DeskAt.chg {G F ok:Nat→Prop} {w w':World} {g:Nat} {P0:Option Addr} {rl:List S39} {rs:List Reg} (h:DeskAt w F ok g P0 rl rs) (hc:Chg G w w') (h1:∀ k,F k→¬ G k) (h2:∀ k,ok k→¬ G k):DeskAt w' F ok g P0 rl rs:=by
 obtain ⟨A1,c1,S,X,hL,hV,hS,q1,q2,q3,q4,q5⟩:=h.parts
 refine ⟨⟨A1,c1,S,X,hL.chg hc (h1 g h.own) (fun k hk=>h1 k (q2 k hk)),V_chg hV hc h2,?_,q1,q2,q3,q4,q5⟩,h.own,fun k hk=>Nat.lt_of_lt_of_le (h.lt k hk) hc.size,h.apart,h.small,fun k hk=>Nat.lt_of_lt_of_le (h.oklt k hk) hc.size⟩
 rcases hS with hS|⟨s,e,hst,hr⟩
 ·exact .inl hS
 ·exact .inr ⟨s,e,hst.chg hc (fun k hk=>h1 k (q1 k hk)),hr⟩
theorem DeskAt.below {F ok:Nat→Prop} {w w':World} {g:Nat} {P0:Option Addr} {rl:List S39} {rs:List Reg} (h:DeskAt w F ok g P0 rl rs) (hb:Below w.heap.size w w'):DeskAt w' F ok g P0 rl rs:=
 h.chg (G:=fun _=>False) (Chg.of_below hb (Nat.le_refl _)) (fun _ _ h=>h) (fun _ _ h=>h)
theorem DeskAt.glt {F ok:Nat→Prop} {w:World} {g:Nat} {P0:Option Addr} {rl:List S39} {rs:List Reg} (h:DeskAt w F ok g P0 rl rs):g<w.heap.size:=h.lt g h.own
theorem OutsR.nil (w:World) (base:Nat):OutsR w base (.slice none 0 0) []:=⟨World.ownsRow_nil _ _ _ _,(fun o h=>nomatch h),List.Pairwise.nil⟩
structure Hands (w w':World) (nr:Nat) (F' ok':Nat→Prop) (v1 v2:Value):Prop where
 b:∃ xs A c,v1=.slice A xs.length c∧OwnB w' w.heap.size A c xs∧xs.length≤1048576
 r:∃ os A c,v2=.slice A os.length c∧OutsR w' w.heap.size v2 os∧os.length≤nr∧∀ o∈os,o.data.length≤1048576
 far:(v1=.slice none 0 0∧v2=.slice none 0 0)∨∀ k,F' k∨ok' k→k<w.heap.size
 one:v1=.slice none 0 0∨v2=.slice none 0 0
theorem Hands.nil {w w':World} {nr:Nat} {F' ok':Nat→Prop}:Hands w w' nr F' ok' (.slice none 0 0) (.slice none 0 0):=
 ⟨⟨[],none,0,rfl,World.ownsRow_nil _ _ _ _,by decide⟩,⟨[],none,0,rfl,OutsR.nil _ _,Nat.zero_le _,(fun o h=>nomatch h)⟩,.inl ⟨rfl,rfl⟩,.inl rfl⟩
theorem Hands.below {w w' w2:World} {nr:Nat} {F' ok':Nat→Prop} {v1 v2:Value} (h:Hands w w' nr F' ok' v1 v2) (hb:Below w'.heap.size w' w2):Hands w w2 nr F' ok' v1 v2:=by
 obtain ⟨xs,A,c,e,h1,h2⟩:=h.b
 obtain ⟨os,A',c',e',h1',h2',h3'⟩:=h.r
 exact ⟨⟨xs,A,c,e,h1.below hb,h2⟩,⟨os,A',c',e',h1'.below hb,h2',h3'⟩,h.far,h.one⟩
def ActPost (F ok:Nat→Prop) (w:World) (g:Nat) (P0:Option Addr) (rl:List S39) (e:Ending) (w':World):Prop:=
 ∃ v1 v2 F' ok' rl' rs',(e=.returned (.tuple #[.bool true,v1,v2])∧Hands w w' rl.length F' ok' v1 v2)∧DeskAt w' F' ok' g P0 rl' rs'∧rl'.length≤rl.length+1∧Chg F w w'∧(∀ k,F' k→F k∨w.heap.size≤k)∧(∀ k,ok' k→ok k∨w.heap.size≤k)
def ActSame (F ok:Nat→Prop) (w:World) (g:Nat) (P0:Option Addr) (rl:List S39) (rs:List Reg) (e:Ending) (w':World):Prop:=
 ∃ v1 v2,e=.returned (.tuple #[.bool true,v1,v2])∧Hands w w' rl.length F ok v1 v2∧DeskAt w' F ok g P0 rl rs∧Below w.heap.size w w'
theorem ActSame.post {F ok:Nat→Prop} {w w':World} {g:Nat} {P0:Option Addr} {rl:List S39} {rs:List Reg} {e:Ending} (h:ActSame F ok w g P0 rl rs e w'):ActPost F ok w g P0 rl e w':=by
 obtain ⟨v1,v2,he,hh,hd,hb⟩:=h
 exact ⟨v1,v2,F,ok,rl,rs,⟨he,hh⟩,hd,by omega,Chg.of_below hb (Nat.le_refl _),fun k hk=>.inl hk,fun k hk=>.inl hk⟩
theorem actSame_ {F ok:Nat→Prop} {w w':World} {g:Nat} {P0:Option Addr} {rl:List S39} {rs:List Reg} {v1 v2:Value} (h:DeskAt w F ok g P0 rl rs) (hb:Below w.heap.size w w') (hh:Hands w w' rl.length F ok v1 v2):ActSame F ok w g P0 rl rs (.returned (.tuple #[.bool true,v1,v2])) w':=
 ⟨v1,v2,rfl,hh,h.below hb,hb⟩
theorem actPost_same {F ok:Nat→Prop} {w w':World} {g:Nat} {P0:Option Addr} {rl:List S39} {rs:List Reg} {v1 v2:Value} (h:DeskAt w F ok g P0 rl rs) (hb:Below w.heap.size w w') (hh:Hands w w' rl.length F ok v1 v2):ActPost F ok w g P0 rl (.returned (.tuple #[.bool true,v1,v2])) w':=
 ⟨v1,v2,F,ok,rl,rs,⟨rfl,hh⟩,h.below hb,by omega,Chg.of_below hb (Nat.le_refl _),fun k hk=>.inl hk,fun k hk=>.inl hk⟩
end Go.Proofs.Ythmeojeehemlaaa.Mem
end
section
namespace Go.Proofs.Ythmeojeehemlaaa.Mem
open Go.RowKit Go.Proofs.YthmeojeehemlaaaW.PrintWords
open Go.Proofs.Ythmeojeehemlaaa.PM
theorem C8_chg {G:Nat→Prop} {w w':World} {A:Option Addr} {n:Nat} {l:List Int} (h:Kd.C (Kd.int .u8) w A n l) (hc:Chg G w w') (hn:0<n→∀ ad,A=some ad→¬ G ad.block):Kd.C (Kd.int .u8) w' A n l:=by
 refine ⟨h.1,h.2.1,fun hp=>?_⟩
 obtain ⟨ad,e,hcell⟩:=h.2.2 hp
 refine ⟨ad,e,fun j p hj=>?_⟩
 obtain ⟨c,hs,hr,hcc⟩:=hcell j p hj
 refine ⟨c,hs,hr,fun i u hu=>?_⟩
 have h1:=hcc i u hu
 have hb:=World.block_lt_of_cell? w _ h1
 have e2:(ad.add (j*(Kd.int IntKind.u8).sz+i)).block=ad.block:=by unfold Addr.add;split <;> rfl
 rw [e2] at hb
 rw [← h1]
 unfold World.cell?
 rw [e2,hc.block ad.block hb (hn hp ad e)]
structure Parts (w:World) (F ok:Nat→Prop) (g s:Nat) (A1:Option Addr) (c1:Nat) (Sp X:Nat→Prop) (rl:List S39) (rs:List Reg):Prop where
 len:Lender w g (.pointer (some ⟨s,0,none⟩)) (.slice A1 rl.length c1) X
 val:Kd.V k39 39 w 0 ok (.slice A1 rl.length c1) rl
 st:StF Sp w s rs
 rel:Rel rl rs
 s1:∀ k,Sp k→F k
 s2:∀ k,X k→F k
 s3:∀ k,Sp k→¬ X k
 s4:¬ Sp g
 s5:¬ X g
 own:F g
 lt:∀ k,F k→k<w.heap.size
 apart:∀ k,ok k→¬ F k
 small:∀ y∈rl,Small y
theorem DeskAt.open_ {w:World} {F ok:Nat→Prop} {g s:Nat} {rl:List S39} {rs:List Reg} (h:DeskAt w F ok g (some ⟨s,0,none⟩) rl rs):∃ A1 c1 Sp X,Parts w F ok g s A1 c1 Sp X rl rs:=by
 obtain ⟨A1,c1,S,X,hL,hV,hS,q1,q2,q3,q4,q5⟩:=h.parts
 rcases hS with ⟨h0,_⟩|⟨s',e,hst,hr⟩
 ·cases h0
 ·cases e
  exact ⟨A1,c1,S,X,hL,hV,hst,hr,q1,q2,q3,q4,q5,h.own,h.lt,h.apart,h.small⟩
theorem chg_w {w W:World} {F:Nat→Prop} (h:Below w.heap.size w W):Chg F w W:=Chg.of_below h (Nat.le_refl _)
structure Made (w W:World) (ok:Nat→Prop) (r:Nat) (A2:Option Addr) (c2:Nat) (r1:List S39):Prop where
 bel:Below w.heap.size w W
 blk:Blk W r 78 #[.slice A2 r1.length c2]
 new:w.heap.size≤r
 val:Kd.V k39 39 W 0 (fun k=>ok k∨w.heap.size≤k) (.slice A2 r1.length c2) r1
theorem act_fin0 {w W w7:World} {F ok:Nat→Prop} {g s r:Nat} {A1 A2:Option Addr} {c1 c2:Nat} {Sp X:Nat→Prop} {rl r1:List S39} {rs rs':List Reg} (h:Parts w F ok g s A1 c1 Sp X rl rs) (hM:Made w W (fun k=>ok k∧k<w.heap.size) r A2 c2 r1)
  (hc:Chg (fun k=>Sp k∨W.heap.size≤k) W w7) (hst:StF (fun k=>Sp k∨W.heap.size≤k) w7 s rs') (hrel:Rel r1 rs') (hsm:∀ y∈r1,Small y) (hlen:r1.length≤rl.length+1) :
  ActPost F ok w g (some ⟨s,0,none⟩) rl (.returned (.tuple #[.bool true,.slice none 0 0,.slice none 0 0])) (w7.setCell ⟨g,1,none⟩ (.slice A2 r1.length c2)):=by
 have hgl:=h.lt g h.own
 have hWs:=hM.bel.size
 have hXl:∀ k,X k→k<w.heap.size:=fun k hk=>h.lt k (h.s2 k hk)
 have hSl:∀ k,Sp k→k<w.heap.size:=fun k hk=>h.lt k (h.s1 k hk)
 have hcF:Chg F w w7:=(chg_w hM.bel).trans (hc.mono (F:=fun k=>Sp k∨W.heap.size≤k) (G:=F) (fun k hk h2=>h2.elim (h.s1 k) (fun h3=>by omega)))
 have hc9:Chg F w (w7.setCell ⟨g,1,none⟩ (.slice A2 r1.length c2)):=chg_set h.own hcF 1 _
 have hs9:(w7.setCell ⟨g,1,none⟩ (.slice A2 r1.length c2)).heap.size=w7.heap.size:=by simp [World.setCell]
 have hset:Chg (fun k=>k=g) w7 (w7.setCell ⟨g,1,none⟩ (.slice A2 r1.length c2)):=chg_set (F:=fun k=>k=g) rfl (Chg.refl _ _) 1 _
 have hL7:Lender w7 g (.pointer (some ⟨s,0,none⟩)) (.slice A1 rl.length c1) X:=(h.len.chg (chg_w (F:=fun _=>False) hM.bel) (fun h=>h) (fun _ _ h=>h)).chg hc (fun h2=>h2.elim h.s4 (fun h3=>by omega)) (fun k hk h2=>h2.elim (fun h3=>h.s3 k h3 hk) (fun h3=>by have:=hXl k hk;omega))
 have hV:Kd.V k39 39 W 0 (fun k=>((ok k∧k<w.heap.size)∨w.heap.size≤k)∧k<W.heap.size) (.slice A2 r1.length c2) r1:=Kd.V_bound hM.val
 refine ⟨.slice none 0 0,.slice none 0 0,fun k=>k=g∨X k∨((Sp k∨W.heap.size≤k)∧k<w7.heap.size),fun k=>((ok k∧k<w.heap.size)∨w.heap.size≤k)∧k<W.heap.size,r1,rs',⟨rfl,Hands.nil⟩,⟨⟨A2,c2,fun k=>(Sp k∨W.heap.size≤k)∧k<w7.heap.size,X,hL7.set1 _,?_,.inr ⟨s,rfl,?_,hrel⟩,fun k hk=>.inr (.inr hk),fun k hk=>.inr (.inl hk),?_,?_,h.s5⟩,.inl rfl,?_,?_,hsm,fun k hk=>by rw [hs9];have h1:=hk.2;have h2:=hc.size;omega⟩,hlen,hc9,?_,?_⟩
 ·refine V_chg (V_chg hV hc (fun k hk h2=>?_)) hset (fun k hk h2=>?_)
  ·rcases h2 with h2|h2
   ·rcases hk.1 with h3|h3
    ·exact h.apart k h3.1 (h.s1 k h2)
    ·have:=hSl k h2;omega
   ·omega
  ·subst h2
   rcases hk.1 with h3|h3
   ·exact h.apart _ h3.1 h.own
   ·omega
 ·exact hst.shrink.chg hset (fun k hk h2=>by
   subst h2
   rcases hk.1 with h3|h3
   ·exact h.s4 h3
   ·omega)
 ·intro k hk hx
  rcases hk.1 with h3|h3
  ·exact h.s3 k h3 hx
  ·have:=hXl k hx;omega
 ·rintro ⟨h3|h3,_⟩
  ·exact h.s4 h3
  ·omega
 ·intro k hk
  rw [hs9]
  have h7:=hcF.size
  rcases hk with rfl|hk|hk
  ·omega
  ·have:=hXl k hk;omega
  ·exact hk.2
 ·intro k hk hf
  rcases hf with rfl|hf|hf
  ·rcases hk.1 with h3|h3
   ·exact h.apart _ h3.1 h.own
   ·omega
  ·rcases hk.1 with h3|h3
   ·exact h.apart k h3.1 (h.s2 k hf)
   ·have:=hXl k hf;omega
  ·rcases hf.1 with h4|h4
   ·rcases hk.1 with h3|h3
    ·exact h.apart k h3.1 (h.s1 k h4)
    ·have:=hSl k h4;omega
   ·omega
 ·intro k hk
  rcases hk with rfl|hk|hk
  ·exact .inl h.own
  ·exact .inl (h.s2 k hk)
  ·rcases hk.1 with h3|h3
   ·exact .inl (h.s1 k h3)
   ·exact .inr (by omega)
 ·intro k hk
  rcases hk.1 with h3|h3
  ·exact .inl h3.1
  ·exact .inr h3
theorem act_fin1 {w W w6 w7 w8:World} {F ok:Nat→Prop} {g s r gb:Nat} {A1 A2:Option Addr} {c1 c2:Nat} {Sp X:Nat→Prop} {rl r1:List S39} {rs rs':List Reg} (h:Parts w F ok g s A1 c1 Sp X rl rs) (hM:Made w W (fun k=>ok k∧k<w.heap.size) r A2 c2 r1)
  (hc6:Chg (fun k=>k=g∨X k) W w6) (hgb:X gb∨W.heap.size≤gb) (hgb6:gb<w6.heap.size∧g≠gb)
  (hc:Chg (fun k=>Sp k∨w6.heap.size≤k) w6 w7) (hst:StF (fun k=>Sp k∨w6.heap.size≤k) w7 s rs') (hrel:Rel r1 rs') (hsm:∀ y∈r1,Small y) (hlen:r1.length≤rl.length+1)
  (hc8:Chg (fun k=>k=g∨k=gb) w7 w8) (hL8:Lender w8 g (.pointer (some ⟨s,0,none⟩)) (.slice A1 rl.length c1) (fun k=>k=gb)) :
  ActPost F ok w g (some ⟨s,0,none⟩) rl (.returned (.tuple #[.bool true,.slice none 0 0,.slice none 0 0])) (w8.setCell ⟨g,1,none⟩ (.slice A2 r1.length c2)):=by
 have hgl:=h.lt g h.own
 have hWs:=hM.bel.size
 have h6s:=hc6.size
 have h7s:=hc.size
 have h8s:=hc8.size
 have hXl:∀ k,X k→k<w.heap.size:=fun k hk=>h.lt k (h.s2 k hk)
 have hSl:∀ k,Sp k→k<w.heap.size:=fun k hk=>h.lt k (h.s1 k hk)
 have hgbS:¬ Sp gb:=fun h2=>hgb.elim (h.s3 gb h2) (fun h3=>by have:=hSl gb h2;omega)
 have hcF7:Chg F w w7:=((chg_w hM.bel).trans (hc6.mono (G:=F) (fun k hk h2=>h2.elim (fun e=>by rw [e];exact h.own) (h.s2 k)))).trans (hc.mono (G:=fun k=>F k∨w.heap.size≤k) (fun k hk h2=>h2.elim (fun h3=>.inl (h.s1 k h3)) (fun h3=>by omega)) |>.mono (G:=fun k=>F k∨w.heap.size≤k) (fun _ _ h=>h) |> fun hh=>⟨hh.os,hh.tape,hh.output,hh.size,fun k hk hf=>by
  by_cases hk2:Sp k∨w6.heap.size≤k
  ·exact absurd (hk2.elim (h.s1 k) (fun h3=>by omega)) hf
  ·exact hc.block k hk hk2⟩)
 have hcF:Chg F w w8:=⟨hc8.os.trans hcF7.os,hc8.tape.trans hcF7.tape,hc8.output.trans hcF7.output,Nat.le_trans hcF7.size hc8.size,fun k hk hf=>by
  rw [hc8.block k (by omega) (fun h2=>?_)]
  ·exact hcF7.block k hk hf
  ·rcases h2 with h2|h2
   ·exact hf (by rw [h2];exact h.own)
   ·rcases hgb with h3|h3
    ·exact hf (by rw [h2];exact h.s2 gb h3)
    ·omega⟩
 have hc9:Chg F w (w8.setCell ⟨g,1,none⟩ (.slice A2 r1.length c2)):=chg_set h.own hcF 1 _
 have hs9:(w8.setCell ⟨g,1,none⟩ (.slice A2 r1.length c2)).heap.size=w8.heap.size:=by simp [World.setCell]
 have hset:Chg (fun k=>k=g) w8 (w8.setCell ⟨g,1,none⟩ (.slice A2 r1.length c2)):=chg_set (F:=fun k=>k=g) rfl (Chg.refl _ _) 1 _
 have hV:Kd.V k39 39 W 0 (fun k=>((ok k∧k<w.heap.size)∨w.heap.size≤k)∧k<W.heap.size) (.slice A2 r1.length c2) r1:=Kd.V_bound hM.val
 have okg:∀ k,(((ok k∧k<w.heap.size)∨w.heap.size≤k)∧k<W.heap.size)→k≠g∧¬ X k∧¬ Sp k∧k≠gb:=by
  intro k hk
  rcases hk.1 with h3|h3
  ·refine ⟨fun e=>h.apart k h3.1 (by rw [e];exact h.own),fun h4=>h.apart k h3.1 (h.s2 k h4),fun h4=>h.apart k h3.1 (h.s1 k h4),fun e=>?_⟩
   rcases hgb with h4|h4
   ·exact h.apart k h3.1 (by rw [e];exact h.s2 gb h4)
   ·omega
  ·refine ⟨by omega,fun h4=>by have:=hXl k h4;omega,fun h4=>by have:=hSl k h4;omega,fun e=>?_⟩
   rcases hgb with h4|h4
   ·have:=hXl gb h4;omega
   ·omega
 refine ⟨.slice none 0 0,.slice none 0 0,fun k=>k=g∨k=gb∨((Sp k∨w6.heap.size≤k)∧k<w7.heap.size),fun k=>((ok k∧k<w.heap.size)∨w.heap.size≤k)∧k<W.heap.size,r1,rs',⟨rfl,Hands.nil⟩,⟨⟨A2,c2,fun k=>(Sp k∨w6.heap.size≤k)∧k<w7.heap.size,fun k=>k=gb,hL8.set1 _,?_,.inr ⟨s,rfl,?_,hrel⟩,fun k hk=>.inr (.inr hk),fun k hk=>.inr (.inl hk),?_,?_,fun e=>hgb6.2 e⟩,.inl rfl,?_,?_,hsm,fun k hk=>by rw [hs9];have h1:=hk.2;omega⟩,hlen,hc9,?_,?_⟩
 ·refine V_chg (V_chg (V_chg (V_chg hV hc6 (fun k hk h2=>?_)) hc (fun k hk h2=>?_)) hc8 (fun k hk h2=>?_)) hset (fun k hk h2=>(okg k hk).1 h2)
  ·exact h2.elim (okg k hk).1 (okg k hk).2.1
  ·exact h2.elim (okg k hk).2.2.1 (fun h3=>by omega)
  ·exact h2.elim (okg k hk).1 (okg k hk).2.2.2
 ·refine (hst.shrink.chg hc8 (fun k hk h2=>?_)).chg hset (fun k hk h2=>?_)
  ·rcases hk.1 with h3|h3
   ·rcases h2 with h2|h2
    ·subst h2;exact h.s4 h3
    ·subst h2;exact hgbS h3
   ·rcases h2 with h2|h2 <;> omega
  ·subst h2
   rcases hk.1 with h3|h3
   ·exact h.s4 h3
   ·omega
 ·intro k hk hx
  subst hx
  rcases hk.1 with h3|h3
  ·exact hgbS h3
  ·omega
 ·rintro ⟨h3|h3,_⟩
  ·exact h.s4 h3
  ·omega
 ·intro k hk
  rw [hs9]
  rcases hk with rfl|rfl|hk
  ·omega
  ·omega
  ·omega
 ·intro k hk hf
  have h4:=okg k hk
  rcases hf with hf|hf|hf
  ·exact h4.1 hf
  ·exact h4.2.2.2 hf
  ·exact hf.1.elim h4.2.2.1 (fun h5=>by omega)
 ·intro k hk
  rcases hk with rfl|rfl|hk
  ·exact .inl h.own
  ·exact hgb.imp (h.s2 _) (fun h3=>by omega)
  ·rcases hk.1 with h3|h3
   ·exact .inl (h.s1 k h3)
   ·exact .inr (by omega)
 ·intro k hk
  rcases hk.1 with h3|h3
  ·exact .inl h3.1
  ·exact .inr h3
end Go.Proofs.Ythmeojeehemlaaa.Mem
end
section
namespace Go.Proofs.Ythmeojeehemlaaa.Mem
open Go.RowKit Go.Proofs.YthmeojeehemlaaaW.PrintWords
open Go.Proofs.Ythmeojeehemlaaa.PM
attribute [local go_sem] isSome_setCell
theorem copyb_ (w:World) (A:Option Addr) (n c:Nat) (l:List Int) (hC:Kd.C (Kd.int .u8) w A n l) (hc:n≤c) (hl:l.length≤1048576) :
  Calls Try.prog 21 #[.slice A n c] w fun e w'=>∃ A' c',e=.returned (.slice A' n c')∧n≤c'∧Kd.C (Kd.int .u8) w' A' n l∧Below w.heap.size w w':=by
 obtain rfl:=hC.1
 refine (spindlelaw0_CopyBytes.calls A c l l w hC hc ?_).mono ?_
 ·unfold spindlelaw0_CopyBytes.f
  simp only [Option.bind_some]
  rw [if_pos (by simp;omega),List.nil_append]
 ·rintro e w' ⟨v,rfl,hv,hb⟩
  obtain ⟨A',c',rfl,h1,h2⟩:=Kd.R_reads hv
  exact ⟨A',c',rfl,h1,h2,hb⟩
theorem radd_ (P:Nat→Prop) (w:World) (A:Option Addr) (c:Nat) (xs:List S39) (x:Int) (Ab:Option Addr) (nb cb:Nat) (bs:List Int) (hV:Kd.V k39 39 w 0 P (.slice A xs.length c) xs) (hC:Kd.C (Kd.int .u8) w Ab nb bs) (hcb:nb≤cb) (hl:xs.length≤1048576) (hs:∀ y∈xs,Small y) (hx:Small ⟨x,bs⟩) :
  Calls Try.prog 39 #[.agg #[.slice A xs.length c],.agg #[.int .u64 x,.slice Ab nb cb]] w fun e w'=>∃ A' c' r1 r2,e=.returned (.tuple #[.agg #[.slice A' r1.length c'],.int .i64 r2])∧Kd.V k39 39 w' 0 (fun k=>P k∨w.heap.size≤k) (.slice A' r1.length c') r1∧Below w.heap.size w w'∧((r2=0∧Fine xs ⟨x,bs⟩∧r1=xs ++ [⟨x,bs⟩])∨(r2=201∧¬ Fine xs ⟨x,bs⟩∧r1=xs)):=by
 obtain rfl:=hC.1
 obtain ⟨b,hb,he⟩:=add_eq xs ⟨x,bs⟩ hl hs hx (2*xs.length+3) (by omega)
 cases b with
 | true =>
  rw [if_pos rfl] at he
  refine (spindleref20_Space_Add.calls (2*xs.length+3) P A c xs x Ab cb bs _ _ w hV hC hcb he).mono ?_
  rintro e w' ⟨v,rfl,hv,hbl⟩
  obtain ⟨A',c',rfl⟩:=Kd.V_slice hv
  exact ⟨A',c',_,_,rfl,hv,hbl,.inl ⟨rfl,hb.1 rfl,rfl⟩⟩
 | false =>
  rw [if_neg (by decide)] at he
  refine (spindleref20_Space_Add.calls (2*xs.length+3) P A c xs x Ab cb bs _ _ w hV hC hcb he).mono ?_
  rintro e w' ⟨v,rfl,hv,hbl⟩
  obtain ⟨A',c',rfl⟩:=Kd.V_slice hv
  exact ⟨A',c',_,_,rfl,hv,hbl,.inr ⟨rfl,(fun h=>by have:=hb.2 h;cases this),rfl⟩⟩
def Cells8 (W:World) (g q s:Nat) (A1:Option Addr) (n1 c1:Nat) (wh kd x m v:Int) (A:Option Addr) (n c:Nat):Prop:=
 (∃ a b,Blk W g 87 #[.pointer (some ⟨s,0,none⟩),.slice A1 n1 c1,a,b])∧Blk W q 46 #[.int .i64 wh,.int .i64 kd,.int .u64 x,.int .i64 m,.int .u64 v,.slice A n c]
theorem Cells8.all {W:World} {g q s:Nat} {A1:Option Addr} {n1 c1:Nat} {wh kd x m v:Int} {A:Option Addr} {n c:Nat} (h:Cells8 W g q s A1 n1 c1 wh kd x m v A n c) :
  W.cell? ⟨g,0,none⟩=some (.pointer (some ⟨s,0,none⟩))∧W.cell? ⟨g,1,none⟩=some (.slice A1 n1 c1)∧W.cell? ⟨q,0,none⟩=some (.int .i64 wh)∧W.cell? ⟨q,1,none⟩=some (.int .i64 kd)∧W.cell? ⟨q,2,none⟩=some (.int .u64 x)∧W.cell? ⟨q,3,none⟩=some (.int .i64 m)∧W.cell? ⟨q,4,none⟩=some (.int .u64 v)∧W.cell? ⟨q,5,none⟩=some (.slice A n c):=by
 obtain ⟨⟨a,b,h1⟩,h2⟩:=h
 exact ⟨h1.cell 0,h1.cell 1,h2.cell 0,h2.cell 1,h2.cell 2,h2.cell 3,h2.cell 4,h2.cell 5⟩
theorem Cells8.below {W W':World} {g q s:Nat} {A1:Option Addr} {n1 c1:Nat} {wh kd x m v:Int} {A:Option Addr} {n c B:Nat} (h:Cells8 W g q s A1 n1 c1 wh kd x m v A n c) (hb:Below B W W') (hg:g<B) (hq:q<B):Cells8 W' g q s A1 n1 c1 wh kd x m v A n c:=by
 obtain ⟨⟨a,b,h1⟩,h2⟩:=h
 exact ⟨⟨a,b,h1.below hb hg⟩,h2.below hb hq⟩
theorem size1 (w:World) (o:Obj):(w.alloc o).heap.size=w.heap.size+1:=Array.size_push _
theorem made_push {w w1 w3:World} {P:Nat→Prop} {B c2:Nat} {A2:Option Addr} {r1:List S39} (h1:Below w.heap.size w w1) (h3:Below w1.heap.size w1 w3) (hv:Kd.V k39 39 w3 0 (fun k=>P k∨B≤k) (.slice A2 r1.length c2) r1) (hB:w.heap.size≤B) :
  Made w (w3.alloc (.cells #[.slice A2 r1.length c2] 78)) P w3.heap.size A2 c2 r1∧Below w1.heap.size w1 (w3.alloc (.cells #[.slice A2 r1.length c2] 78)):=by
 have h4:=below_push h3.size h3 (.cells #[.slice A2 r1.length c2] 78)
 exact ⟨⟨h1.trans (h4.mono h1.size),Blk.new _ _ _,Nat.le_trans h1.size h3.size,Kd.V_below (Kd.V_mono hv (fun k hk=>hk.imp id (fun h=>Nat.le_trans hB h))) (below_push (Nat.le_refl _) (Below.refl _ _) _)⟩,h4⟩
theorem made_set {w w1 w3:World} {P:Nat→Prop} {B b c2:Nat} {A2:Option Addr} {r1:List S39} {v0:Value} (h1:Below w.heap.size w w1) (h3:Below w1.heap.size w1 w3) (hv:Kd.V k39 39 w3 0 (fun k=>P k∨B≤k) (.slice A2 r1.length c2) r1) (hz:Blk w3 b 78 #[v0]) (hb:w1.heap.size≤b) (hbB:b<B) (hP:∀ k,P k→k<w.heap.size) :
  Made w (w3.setCell ⟨b,0,none⟩ (.slice A2 r1.length c2)) P b A2 c2 r1∧Below w1.heap.size w1 (w3.setCell ⟨b,0,none⟩ (.slice A2 r1.length c2)):=by
 have h4:=below_set hb h3 0 (.slice A2 r1.length c2)
 have hs:=h1.size
 refine ⟨⟨h1.trans (h4.mono h1.size),hz.set_ 0 _,by omega,Kd.V_far (Kd.V_mono hv (ok':=fun k=>(P k∨w.heap.size≤k)∧k≠b) (fun k hk=>?_)) (p:=⟨b,0,none⟩) (fun k hk=>hk.2) _ |> fun h=>Kd.V_mono h (fun k hk=>hk.1)⟩,h4⟩
 rcases hk with h|h
 ·have:=hP k h;exact ⟨.inl h,by omega⟩
 ·exact ⟨.inr (by omega),by omega⟩
theorem ActPost.drewN {F ok:Nat→Prop} {w w':World} {g:Nat} {P0:Option Addr} {rl:List S39} {e:Ending} (h:ActPost F ok w g P0 rl e w') (n:Nat):ActPost F ok w g P0 rl e (w'.drewN n):=by
 obtain ⟨v1,v2,F',ok',rl',rs',⟨h1,hh⟩,h2,h3,h4,h5,h6⟩:=h
 have hb:=pw_below_drewN (Below.refl w'.heap.size w') n
 exact ⟨v1,v2,F',ok',rl',rs',⟨h1,hh.below hb⟩,h2.below hb,h3,⟨hb.os.trans h4.os,hb.tape.trans h4.tape,hb.output.trans h4.output,h4.size,h4.block⟩,h5,h6⟩
theorem act_add (w:World) (F ok:Nat→Prop) (g s:Nat) (rl:List S39) (rs:List Reg) (wh x m v:Int) (A:Option Addr) (c:Nat) (bs:List Int) (hD:DeskAt w F ok g (some ⟨s,0,none⟩) rl rs) (hC:Kd.C (Kd.int .u8) w A bs.length bs) (hc:bs.length≤c) (hbs:Small ⟨x,bs⟩) (hA:0<bs.length→∀ ad,A=some ad→¬ F ad.block) (hl:rl.length+1≤1048576) :
  Calls Try.prog 16 #[.pointer (some ⟨g,0,none⟩),.agg #[.int .i64 wh,.int .i64 1,.int .u64 x,.int .i64 m,.int .u64 v,.slice A bs.length c]] w (ActPost F ok w g (some ⟨s,0,none⟩) rl):=by
 obtain ⟨A1,c1,Sp,X,hP⟩:=hD.open_
 have hL:=hP.len
 have hV:=hP.val
 obtain ⟨w1,hw1⟩:∃ w1,w1=w.alloc (.cells #[.int .i64 wh,.int .i64 1,.int .u64 x,.int .i64 m,.int .u64 v,.slice A bs.length c] 46):=⟨_,rfl⟩
 obtain ⟨q,hq⟩:∃ q,q=w.heap.size:=⟨_,rfl⟩
 have hb1:Below w.heap.size w w1:=by rw [hw1];exact below_push (Nat.le_refl _) (Below.refl w.heap.size w) _
 have hs1:w1.heap.size=w.heap.size+1:=by rw [hw1];exact Array.size_push _
 have hC8:Cells8 w1 g q s A1 rl.length c1 wh 1 x m v A bs.length c:=by
  obtain ⟨a,b,h1⟩:=hL.blk
  exact ⟨⟨a,b,h1.below hb1 h1.lt⟩,by rw [hw1,hq];exact Blk.new _ _ _⟩
 have hgl:=hD.glt
 have HSA:=Lib.hid (show ∀ W,Below w1.heap.size w1 W→(fun W=>W.cell? ⟨g,0,none⟩=some (.pointer (some ⟨s,0,none⟩))∧W.cell? ⟨g,1,none⟩=some (.slice A1 rl.length c1)∧W.cell? ⟨q,0,none⟩=some (.int .i64 wh)∧W.cell? ⟨q,1,none⟩=some (.int .i64 1)∧W.cell? ⟨q,2,none⟩=some (.int .u64 x)∧W.cell? ⟨q,3,none⟩=some (.int .i64 m)∧W.cell? ⟨q,4,none⟩=some (.int .u64 v)∧W.cell? ⟨q,5,none⟩=some (.slice A bs.length c)) W from fun W hW=>(hC8.below hW (by omega) (by omega)).all)
 have hd0:=below_drew (Below.refl w1.heap.size w1)
 have HD0:=Lib.hid hd0
 have HD1:=Lib.hid (show ∀ o,Below w1.heap.size w1 (w1.drew.alloc o) from fun o=>below_push (w:=w1.drew) (Nat.le_refl _) hd0 o)
 have HS0:=Lib.hid (HSA.out _ hd0)
 have c0:=hC8.all.1
 rw [hw1] at c0
 have HC1:=Lib.hid (show ∀ W,Below w1.heap.size w1 W→Calls Try.prog 21 #[.slice A bs.length c] W fun e w'=>∃ A' c',e=.returned (.slice A' bs.length c')∧bs.length≤c'∧Kd.C (Kd.int .u8) w' A' bs.length bs∧Below W.heap.size W w' from fun W hW=>copyb_ W A _ c bs (Kd.C_below hC (hb1.trans (hW.mono hb1.size))) hc hbs.2)
 have HR1:=Lib.hid (show ∀ W A' c',Below w1.heap.size w1 W→bs.length≤c'→Kd.C (Kd.int .u8) W A' bs.length bs→Calls Try.prog 39 #[.agg #[.slice A1 rl.length c1],.agg #[.int .u64 x,.slice A' bs.length c']] W fun e w'=>∃ A2 c2 r1 r2,e=.returned (.tuple #[.agg #[.slice A2 r1.length c2],.int .i64 r2])∧Kd.V k39 39 w' 0 (fun k=>(ok k∧k<w.heap.size)∨W.heap.size≤k) (.slice A2 r1.length c2) r1∧Below W.heap.size W w'∧((r2=0∧Fine rl ⟨x,bs⟩∧r1=rl ++ [⟨x,bs⟩])∨(r2=201∧¬ Fine rl ⟨x,bs⟩∧r1=rl)) from fun W A' c' hW hc' hC'=>radd_ _ W A1 c1 rl x A' _ c' bs (Kd.V_below (Kd.V_bound hV) (hb1.trans (hW.mono hb1.size))) hC' hc' (by omega) hD.small hbs)
 have HW:=Lib.hid hw1
 have HQ:=Lib.hid hq
 have HP:=Lib.hid hP
 have HCC:=Lib.hid hC
 have HB1:=Lib.hid hb1
 have HC8:=Lib.hid hC8
 have HQL:=Lib.hid (show q<w1.heap.size by omega)
 clear hL hV hP hw1 hb1 hs1 hC8 hd0 hD hC hq
 go_enter Try.func16,Try.ntmps16
 go_wp2_with fail
 rw [← HW.out,← HQ.out]
 refine Code.wp_mono (Q:=Norm fun a W=>∃ r A2 c2 r1 r2 A' c',a={ tmps:=#[Value.pointer (some { block:=g,off:=0 }),Value.agg #[Value.int IntKind.i64 wh,Value.int IntKind.i64 1,Value.int IntKind.u64 x,Value.int IntKind.i64 m,Value.int IntKind.u64 v,Value.slice A bs.length c],undef,Value.pointer (some { block:=q,off:=0 }),Value.bool false,Value.slice none 0 0,Value.slice none 0 0,Value.pointer (some { block:=r,off:=0 }),Value.int IntKind.i64 r2,undef,undef,undef,undef,undef,undef,undef,undef,undef,undef,undef,undef,undef,undef,undef,undef,undef,undef,undef,undef,undef,undef,undef,Value.pointer (some { block:=g,off:=0 }),Value.pointer (some { block:=g,off:=0 }),Value.pointer (some { block:=g,off:=0 }),Value.pointer (some { block:=s,off:=0 }),Value.bool false,undef,undef,undef,Value.pointer (some { block:=q,off:=1 }),Value.int IntKind.i64 1,Value.bool true,Value.bool true,Value.tuple #[Value.agg #[Value.slice A2 r1.length c2],Value.int IntKind.i64 r2],Value.pointer (some { block:=g,off:=0 }),Value.pointer (some { block:=g,off:=0 }),Value.pointer (some { block:=g,off:=1 }),Value.agg #[Value.slice A1 rl.length c1],Value.pointer (some { block:=q,off:=2 }),Value.int IntKind.u64 x,Value.pointer (some { block:=q,off:=5 }),Value.slice A bs.length c,Value.slice A' bs.length c',Value.agg #[Value.int IntKind.u64 x,Value.slice A' bs.length c'],Value.tuple #[Value.agg #[Value.slice A2 r1.length c2],Value.int IntKind.i64 r2],Value.agg #[Value.slice A2 r1.length c2],Value.int IntKind.i64 r2,undef,undef,undef,undef,undef,undef,undef,undef,undef,undef,undef,undef,undef,undef,undef,undef,undef,undef,undef,undef,undef,undef,undef,undef,undef,undef,undef,undef,undef,undef,undef,undef,undef,undef,undef,undef,undef,undef,undef,undef,undef,undef,undef,undef,undef,undef,undef,undef,undef,undef,undef,undef,undef,undef,undef,undef,undef,undef,undef,undef,undef,undef,undef,undef,undef,undef,undef,undef,undef,undef,undef,undef,undef,undef,undef,undef,undef,undef,undef,undef,undef,undef,undef,undef,undef,undef,undef,undef,undef,undef,undef,undef,undef,undef,undef,undef,undef,undef,undef,undef,undef,undef,undef,undef,undef,undef,undef,undef,undef,undef,undef,undef,undef,undef,undef,undef,undef,undef,undef,undef,undef,undef,undef,undef,undef,undef,undef,undef,undef,undef,undef,undef,undef,undef,undef,undef,undef,undef,undef,undef,undef,undef,undef,undef,undef,undef,undef,undef,undef,undef,undef,undef,undef,undef,undef,undef,undef,undef,undef,undef,undef,undef,undef,undef,undef,undef,undef,undef,undef,undef,undef,undef,undef,undef,undef,undef,undef,undef,undef,undef,undef,undef,undef,undef,undef,undef,undef,undef,undef,undef,undef,undef,undef,undef,undef,undef,undef,undef,undef,undef,undef,undef,undef,undef,undef,undef,undef,undef,undef,undef,undef,undef,undef,undef,undef,undef,undef,undef,undef,undef,undef,undef,undef,undef,undef,undef],defers:=[] }∧Hid ((Made w W (fun k=>ok k∧k<w.heap.size) r A2 c2 r1∧Below w1.heap.size w1 W)∧((r2=0∧Fine rl ⟨x,bs⟩∧r1=rl ++ [⟨x,bs⟩])∨(r2=201∧¬ Fine rl ⟨x,bs⟩∧r1=rl)))) ?_ ?_
 rotate_left
 ·go_region_held3 (fun W=>W.cell? ⟨g,0,none⟩=some (.pointer (some ⟨s,0,none⟩))∧W.cell? ⟨g,1,none⟩=some (.slice A1 rl.length c1)∧W.cell? ⟨q,0,none⟩=some (.int .i64 wh)∧W.cell? ⟨q,1,none⟩=some (.int .i64 1)∧W.cell? ⟨q,2,none⟩=some (.int .u64 x)∧W.cell? ⟨q,3,none⟩=some (.int .i64 m)∧W.cell? ⟨q,4,none⟩=some (.int .u64 v)∧W.cell? ⟨q,5,none⟩=some (.slice A bs.length c)) (first|exact HS0.out|exact HSA.out _ (HD1.out _)|exact HSA.out _ HB2.out|exact HSA.out _ (below_push HB2.out.size HB2.out _)|exact HSA.out _ HB3.out|exact HSA.out _ (below_push HB3.out.size HB3.out _)|exact HSA.out _ (below_set (Nat.le_refl _) HB3.out _ _)|exact HSA.out _ (below_set HB2.out.size HB3.out _ _)) (first|(go_at_call 21;refine (HC1.out _ HD0.out).mono ?_;rintro e w2 ⟨A',c',rfl,hc',hk,hb⟩;have HB2:=Lib.hid (HD0.out.trans hb);have HK:=Lib.hid (And.intro hc' hk);have hsz2:=HB2.out.size;clear hk hb hc')|(go_at_call 21;refine (HC1.out _ (HD1.out _)).mono ?_;rintro e w2 ⟨A',c',rfl,hc',hk,hb⟩;have HB2:=Lib.hid ((HD1.out _).trans (hb.mono (HD1.out _).size));have HK:=Lib.hid (And.intro hc' hk);have HZ2:=Lib.hid (show Blk w2 w1.heap.size 78 #[.slice none 0 0] from (Blk.new w1.drew 78 #[.slice none 0 0]).below hb (Blk.new w1.drew 78 #[.slice none 0 0]).lt);have hsz2:=HB2.out.size;clear hk hb hc')|(go_at_call 39;refine (HR1.out w2 A' c' HB2.out HK.out.1 HK.out.2).mono ?_;rintro e w3 ⟨A2,c2,r1,r2,rfl,hv,hb,hr⟩;have HB3:=Lib.hid (HB2.out.trans (hb.mono HB2.out.size));have HV3:=Lib.hid hv;have HR3:=Lib.hid hr;have HZ:=Lib.hid (show Blk w3 w1.heap.size 78 #[.slice none 0 0] from HZ2.out.below hb HZ2.out.lt);have z0:=HZ.out.c0;have y0:=HZ.out.frozen 0;have hsz3:=HB3.out.size;clear hv hb hr)|(go_at_call 39;refine (HR1.out w2 A' c' HB2.out HK.out.1 HK.out.2).mono ?_;rintro e w3 ⟨A2,c2,r1,r2,rfl,hv,hb,hr⟩;have HB3:=Lib.hid (HB2.out.trans (hb.mono HB2.out.size));have HV3:=Lib.hid hv;have HR3:=Lib.hid hr;have hsz3:=HB3.out.size;clear hv hb hr)|(go_at_call 39;refine (HR1.out (w2.alloc (.cells #[.slice none 0 0] 78)) A' c' (below_push HB2.out.size HB2.out _) HK.out.1 (Kd.C_below HK.out.2 (below_push (Nat.le_refl _) (Below.refl _ _) _))).mono ?_;rintro e w3 ⟨A2,c2,r1,r2,rfl,hv,hb,hr⟩;have HB3:=Lib.hid ((below_push HB2.out.size HB2.out _).trans (hb.mono (Nat.le_trans HB2.out.size (act_size w2 _))));have HV3:=Lib.hid hv;have hsz4:=size1 w2 (.cells #[.slice none 0 0] 78);have HR3:=Lib.hid hr;have HZ:=Lib.hid (show Blk w3 w2.heap.size 78 #[.slice none 0 0] from (Blk.new w2 78 #[.slice none 0 0]).below hb (Blk.new w2 78 #[.slice none 0 0]).lt);have z0:=HZ.out.c0;have y0:=HZ.out.frozen 0;have hsz3:=HB3.out.size;clear hv hb hr))
  ·exact ⟨_,A2,c2,r1,r2,A',c',rfl,Lib.hid ⟨made_push HB1.out HB3.out HV3.out (Nat.le_trans HB1.out.size hsz2),HR3.out⟩⟩
  ·exact ⟨_,A2,c2,r1,r2,A',c',rfl,Lib.hid ⟨made_set HB1.out HB3.out HV3.out HZ.out hsz2 (by omega) (fun k hk=>hk.2),HR3.out⟩⟩
  ·exact ⟨_,A2,c2,r1,r2,A',c',rfl,Lib.hid ⟨made_set HB1.out HB3.out HV3.out HZ.out (Nat.le_refl _) (by have:=HZ2.out.lt;omega) (fun k hk=>hk.2),HR3.out⟩⟩
 refine Norm.elim ?_
 rintro a W ⟨r,A2,c2,r1,r2,A',c',rfl,HM⟩
 clear HS0 HC1 HR1 HD1
 have HLEND:=Lib.hid (show Calls Try.prog 40 #[.pointer (some ⟨g,0,none⟩),.agg #[.int .i64 wh,.int .i64 1,.int .u64 x,.int .i64 m,.int .u64 v,.slice A bs.length c]] W.drew fun e w'=>∃ gb A' c',e=.returned (.slice A' bs.length c')∧Kd.C (Kd.int .u8) w' A' bs.length bs∧LentAt w' g (.pointer (some ⟨s,0,none⟩)) (.slice A1 rl.length c1) gb bs∧(X gb∨W.drew.heap.size≤gb)∧Chg (fun k=>k=g∨X k) W.drew w' from
  lend_ W.drew g _ _ X wh 1 x m v A c bs ((HP.out.len.chg (chg_w (F:=fun _=>False) HM.out.1.1.bel) (fun h=>h) (fun _ _ h=>h)).chg (G:=fun _=>False) (chg_drew (Chg.refl _ _)) (fun h=>h) (fun _ _ h=>h)) (Kd.C_drewN (Kd.C_below HCC.out HM.out.1.1.bel) 1) hbs.2 (fun hp ad e hx=>hA hp ad e (by rw [hx];exact HP.out.own)) (fun hp ad e hx=>hA hp ad e (HP.out.s2 _ hx)))
 have HSW:=Lib.hid (show ∀ W7 a b,Blk W7 g 87 #[.pointer (some ⟨s,0,none⟩),.slice A1 rl.length c1,a,b]→W7.heap[q]?=w1.heap[q]?→(fun W=>W.cell? ⟨g,0,none⟩=some (.pointer (some ⟨s,0,none⟩))∧W.cell? ⟨g,1,none⟩=some (.slice A1 rl.length c1)∧W.cell? ⟨q,0,none⟩=some (.int .i64 wh)∧W.cell? ⟨q,1,none⟩=some (.int .i64 1)∧W.cell? ⟨q,2,none⟩=some (.int .u64 x)∧W.cell? ⟨q,3,none⟩=some (.int .i64 m)∧W.cell? ⟨q,4,none⟩=some (.int .u64 v)∧W.cell? ⟨q,5,none⟩=some (.slice A bs.length c)) W7 from fun W7 a b h1 h2=>Cells8.all ⟨⟨a,b,h1⟩,h2.trans HC8.out.2⟩)
 have HSD:=Lib.hid (HSA.out W.drew (below_drew HM.out.1.2))
 have HQW:=Lib.hid (HM.out.1.2.block q HQL.out)
 have hqg:q≠g:=by rw [HQ.out];omega
 have hqX:¬ X q:=fun h=>by have:=HP.out.lt q (HP.out.s2 q h);rw [HQ.out] at this;omega
 have hqS:¬ Sp q:=fun h=>by have:=HP.out.lt q (HP.out.s1 q h);rw [HQ.out] at this;omega
 have HQN:=Lib.hid (And.intro hqg (And.intro hqX hqS))
 have hWq:q<W.heap.size:=Nat.lt_of_lt_of_le HQL.out HM.out.1.2.size
 have HRES:=Lib.hid (show ∀ W6 A6 c6,Chg (fun k=>k=g∨X k) W W6→Kd.C (Kd.int .u8) W6 A6 bs.length bs→Calls Try.prog 20 #[.pointer (some ⟨s,0,none⟩),.agg #[.int .u64 x,.slice A6 bs.length c6]] W6 fun e w'=>e=.returned (.int .i64 r2)∧Chg (fun k=>Sp k∨W6.heap.size≤k) W6 w'∧∃ rs',StF (fun k=>Sp k∨W6.heap.size≤k) w' s rs'∧Rel r1 rs'∧∀ y∈r1,Small y from fun W6 A6 c6 h6 hC6=>by
  have hst6:StF (fun k=>Sp k∨W6.heap.size≤k) W6 s rs:=((HP.out.st.below HM.out.1.1.bel).chg h6 (fun k hk h2=>h2.elim (fun e=>HP.out.s4 (by rw [← e];exact hk)) (HP.out.s3 k hk))).mono (fun k _ hk=>.inl hk)
  refine (add_F _ W6 s rs x A6 _ c6 bs hst6 (fun k hk=>.inr hk) hC6 hbs.1.2.2.1 hbs.1.1 hbs.1.2.1 (by have h9:bs.length≤1048576:=hbs.2;omega) (by have:=HP.out.rel.len;omega)).mono ?_
  intro e w' hr
  have hfm:=may_fineR HP.out.rel (fun y hy=>(HP.out.small y hy).1) ⟨x,bs⟩ hbs.1
  unfold AddResF at hr
  rcases HM.out.2 with ⟨rfl,hf,rfl⟩|⟨rfl,hf,rfl⟩
  ·rw [if_pos (hfm.2 hf)] at hr
   obtain ⟨rfl,h1,rg,h2,h3,h4⟩:=hr
   refine ⟨rfl,h1,_,h4,HP.out.rel.add ⟨x,bs⟩ hbs.1 (hfm.2 hf) rg h2 h3,fun y hy=>?_⟩
   rcases List.mem_append.1 hy with h|h
   ·exact HP.out.small y h
   ·rw [List.mem_singleton.1 h];exact hbs
  ·rw [if_neg (fun h=>hf (hfm.1 h))] at hr
   obtain ⟨rfl,h1,h4⟩:=hr
   exact ⟨rfl,h1,_,h4,HP.out.rel,HP.out.small⟩)
 have hlen1:r1.length≤rl.length+1:=by
  rcases HM.out.2 with ⟨_,_,h⟩|⟨_,_,h⟩ <;> rw [h]
  ·simp
  ·omega
 have HLN:=Lib.hid hlen1
 clear hqg hqX hqS hlen1
 go_wp2_with fail
 go_region_held3 (fun W=>W.cell? ⟨g,0,none⟩=some (.pointer (some ⟨s,0,none⟩))∧W.cell? ⟨g,1,none⟩=some (.slice A1 rl.length c1)∧W.cell? ⟨q,0,none⟩=some (.int .i64 wh)∧W.cell? ⟨q,1,none⟩=some (.int .i64 1)∧W.cell? ⟨q,2,none⟩=some (.int .u64 x)∧W.cell? ⟨q,3,none⟩=some (.int .i64 m)∧W.cell? ⟨q,4,none⟩=some (.int .u64 v)∧W.cell? ⟨q,5,none⟩=some (.slice A bs.length c)) (first|exact HSD.out|exact HS6.out|exact HS7.out|exact HS6b.out _) (first|(go_at_call 40;refine HLEND.out.mono ?_;rintro e w6 ⟨gb,A6,c6,rfl,hk,hla,hgb,hch⟩;have HK6:=Lib.hid hk;have HLA:=Lib.hid hla;have HGB:=Lib.hid (show X gb∨W.heap.size≤gb from hgb);have HCH:=Lib.hid ((chg_drew (Chg.refl _ W)).trans hch);have HQ6:=Lib.hid ((HCH.out.block q hWq (fun h=>h.elim HQN.out.1 HQN.out.2.1)).trans HQW.out);have HS6:=Lib.hid (by obtain ⟨a,b,h⟩:=HLA.out.blk;exact HSW.out w6 a b h HQ6.out);clear hk hla hgb hch)|(go_at_call 20;refine (HRES.out w6 A6 c6 HCH.out HK6.out).mono ?_;rintro e w7 ⟨rfl,hc7,rs',hst,hrel,hsm⟩;have HC7:=Lib.hid hc7;have HST:=Lib.hid (And.intro hst (And.intro hrel hsm));have HL7:=Lib.hid (HLA.out.chg hc7 (fun h=>h.elim HP.out.s4 (fun h3=>by have:=HP.out.lt g HP.out.own;have:=HM.out.1.1.bel.size;have:=HCH.out.size;omega)) (fun h=>by have:=HLA.out.lt;rcases HGB.out with h4|h4 <;> rcases h with h5|h5 <;> first|exact HP.out.s3 gb h5 h4|omega|(have:=HP.out.lt gb (HP.out.s1 gb h5);have:=HM.out.1.1.bel.size;omega)));have HQ7:=Lib.hid ((hc7.block q (Nat.lt_of_lt_of_le hWq HCH.out.size) (fun h=>h.elim HQN.out.2.2 (fun h3=>by have:=HCH.out.size;omega))).trans HQ6.out);have HS7:=Lib.hid (by obtain ⟨a,b,h⟩:=HL7.out.blk;exact HSW.out w7 a b h HQ7.out);clear hc7 hst hrel hsm))
 have hcw7:Chg F w w7:=by
  have h6:Chg F w w6:=(chg_w HM.out.1.1.bel).trans (HCH.out.mono (fun k _ h2=>h2.elim (fun e=>by rw [e];exact HP.out.own) (HP.out.s2 k)))
  exact ⟨HC7.out.os.trans h6.os,HC7.out.tape.trans h6.tape,HC7.out.output.trans h6.output,Nat.le_trans h6.size HC7.out.size,fun k hk hf=>(HC7.out.block k (Nat.lt_of_lt_of_le hk h6.size) (fun h2=>h2.elim (fun h3=>hf (HP.out.s1 k h3)) (fun h3=>by have:=h6.size;omega))).trans (h6.block k hk hf)⟩
 have HAGB:=Lib.hid (show Lnd.Far A bs.length gb from fun hp ad e hx=>by
  obtain ⟨b,off,e2,hcell⟩:=Lnd.Rd.of_C HCC.out hp
  rw [e] at e2;cases e2
  have h1:=World.block_lt_of_cell? w _ (hcell 0 hp)
  rcases HGB.out with h4|h4
  ·exact hA hp _ e (by rw [hx];exact HP.out.s2 gb h4)
  ·have:=HM.out.1.1.bel.size
   simp only at h1 hx
   omega)
 have HBACK:=Lib.hid (backc_ w7.drew g _ _ gb A c bs (HL7.out.chg (G:=fun _=>False) (chg_drew (Chg.refl _ _)) (fun h=>h) (fun h=>h)) (Kd.C_drewN (C8_chg HCC.out hcw7 hA) 1) (fun hp ad e hx=>hA hp ad e (by rw [hx];exact HP.out.own)) HAGB.out)
 have hqgb:q≠gb:=by
  rcases HGB.out with h4|h4
  ·exact fun e=>HQN.out.2.1 (by rw [e];exact h4)
  ·omega
 have HS8:=Lib.hid (show (fun W=>W.cell? ⟨g,0,none⟩=some (.pointer (some ⟨s,0,none⟩))∧W.cell? ⟨g,1,none⟩=some (.slice A1 rl.length c1)∧W.cell? ⟨q,0,none⟩=some (.int .i64 wh)∧W.cell? ⟨q,1,none⟩=some (.int .i64 1)∧W.cell? ⟨q,2,none⟩=some (.int .u64 x)∧W.cell? ⟨q,3,none⟩=some (.int .i64 m)∧W.cell? ⟨q,4,none⟩=some (.int .u64 v)∧W.cell? ⟨q,5,none⟩=some (.slice A bs.length c)) w7.drew from HS7.out)
 clear hcw7
 go_wp2_with fail
 go_region_held3 (fun W=>W.cell? ⟨g,0,none⟩=some (.pointer (some ⟨s,0,none⟩))∧W.cell? ⟨g,1,none⟩=some (.slice A1 rl.length c1)∧W.cell? ⟨q,0,none⟩=some (.int .i64 wh)∧W.cell? ⟨q,1,none⟩=some (.int .i64 1)∧W.cell? ⟨q,2,none⟩=some (.int .u64 x)∧W.cell? ⟨q,3,none⟩=some (.int .i64 m)∧W.cell? ⟨q,4,none⟩=some (.int .u64 v)∧W.cell? ⟨q,5,none⟩=some (.slice A bs.length c)) (first|exact HS8.out|exact HS9.out) (first|(go_at_call 41;refine HBACK.out.mono ?_;rintro e w8 ⟨rfl,hlen8,hc8⟩;have HLEN:=Lib.hid (hlen8 (fun k=>k=gb) rfl);have HC8b:=Lib.hid ((chg_drew (Chg.refl _ w7)).trans hc8);have HQ8:=Lib.hid ((HC8b.out.block q (Nat.lt_of_lt_of_le (Nat.lt_of_lt_of_le hWq HCH.out.size) HC7.out.size) (fun h=>h.elim HQN.out.1 hqgb)).trans HQ7.out);have HS9:=Lib.hid (by obtain ⟨a,b,h⟩:=HLEN.out.blk;exact HSW.out w8 a b h HQ8.out);clear hlen8 hc8))
 have hr8:Blk w8 r 78 #[.slice A2 r1.length c2]:=by
  have hlr:=HM.out.1.1.blk.lt
  have hnr:=HM.out.1.1.new
  have hxr:¬ X r:=fun h=>by have:=HP.out.lt r (HP.out.s2 r h);omega
  have hsr:¬ Sp r:=fun h=>by have:=HP.out.lt r (HP.out.s1 r h);omega
  have hgr:r≠g:=by omega
  have hbr:r≠gb:=by
   rcases HGB.out with h4|h4
   ·exact fun e=>hxr (by rw [e];exact h4)
   ·omega
  exact ((HM.out.1.1.blk.chg HCH.out (fun h=>h.elim hgr hxr)).chg HC7.out (fun h=>h.elim hsr (fun h3=>by have:=HCH.out.size;omega))).chg HC8b.out (fun h=>h.elim hgr hbr)
 have r0:=hr8.c0
 obtain ⟨b2,b3,hg8⟩:=HLEN.out.blk
 have g1:=hg8.cell 1
 have f1:=hg8.frozen 1
 have g0:=hg8.cell 0
 simp only [List.getElem?_toArray,List.getElem?_cons_zero,List.getElem?_cons_succ] at g0 g1
 have HFIN:=Lib.hid (act_fin1 HP.out HM.out.1.1 HCH.out HGB.out HLA.out.lt HC7.out HST.out.1 HST.out.2.1 HST.out.2.2 HLN.out HC8b.out HLEN.out)
 clear hr8 hg8
 go_wp2_with (go_at_call 37;refine (spindlelaw0_Num.calls _ _ _ rfl).mono ?_;rintro e w9 ⟨rfl,⟨nd,rfl⟩⟩)
 go_ret3
 exact HFIN.out.drewN nd
end Go.Proofs.Ythmeojeehemlaaa.Mem
end
section
namespace Go.Proofs.Ythmeojeehemlaaa.Mem
open Go.RowKit Go.Proofs.YthmeojeehemlaaaW.PrintWords
open Go.Proofs.Ythmeojeehemlaaa.PM
attribute [local go_sem] isSome_setCell
theorem rput2_ (P:Nat→Prop) (w:World) (A:Option Addr) (c:Nat) (xs:List S39) (rs:List Reg) (x:Int) (Ab:Option Addr) (nb cb:Nat) (bs:List Int) (hV:Kd.V k39 39 w 0 P (.slice A xs.length c) xs) (hR:Rel xs rs) (hC:Kd.C (Kd.int .u8) w Ab nb bs) (hl:xs.length≤1048576) (hs:∀ y∈xs,Small y) (hx:Small ⟨x,bs⟩) :
  Calls Try.prog 49 #[.agg #[.slice A xs.length c],.int .u64 x,.slice Ab nb cb] w fun e w'=>∃ A' c' r1 r2,e=.returned (.tuple #[.agg #[.slice A' r1.length c'],.int .i64 r2])∧Kd.V k39 39 w' 0 (fun k=>P k∨w.heap.size≤k) (.slice A' r1.length c') r1∧Below w.heap.size w w'∧PutR xs rs (putOf rs x bs) r1 r2:=by
 refine (rput_ P w A c xs rs x Ab nb cb bs hV hR hC hx.1.2.2.1 hx.1.1 hx.1.2.1 hl hs (by have h:bs.length≤1048576:=hx.2;rw [← hC.1];exact h)).mono ?_
 rintro e w' ⟨v,r1,r2,rfl,hv,hb,hp⟩
 obtain ⟨A',c',rfl⟩:=Kd.V_slice hv
 exact ⟨A',c',r1,r2,rfl,hv,hb,hp⟩
theorem PutR.len {xs:List S39} {rs:List Reg} {ro:Option (List Reg)} {r1:List S39} {r2:Int} (h:PutR xs rs ro r1 r2):r1.length≤xs.length+1:=by
 unfold PutR at h
 cases ro with
 | some rs'=>rw [h.2.2.1];omega
 | none=>rw [h.2];omega
theorem act_put (w:World) (F ok:Nat→Prop) (g s:Nat) (rl:List S39) (rs:List Reg) (wh x m v:Int) (A:Option Addr) (c:Nat) (bs:List Int) (hD:DeskAt w F ok g (some ⟨s,0,none⟩) rl rs) (hC:Kd.C (Kd.int .u8) w A bs.length bs) (hc:bs.length≤c) (hbs:Small ⟨x,bs⟩) (hA:0<bs.length→∀ ad,A=some ad→¬ F ad.block) (hl:rl.length+1≤1048576) :
  Calls Try.prog 16 #[.pointer (some ⟨g,0,none⟩),.agg #[.int .i64 wh,.int .i64 6,.int .u64 x,.int .i64 m,.int .u64 v,.slice A bs.length c]] w (ActPost F ok w g (some ⟨s,0,none⟩) rl):=by
 obtain ⟨A1,c1,Sp,X,hP⟩:=hD.open_
 have hL:=hP.len
 have hV:=hP.val
 obtain ⟨w1,hw1⟩:∃ w1,w1=w.alloc (.cells #[.int .i64 wh,.int .i64 6,.int .u64 x,.int .i64 m,.int .u64 v,.slice A bs.length c] 46):=⟨_,rfl⟩
 obtain ⟨q,hq⟩:∃ q,q=w.heap.size:=⟨_,rfl⟩
 have hb1:Below w.heap.size w w1:=by rw [hw1];exact below_push (Nat.le_refl _) (Below.refl w.heap.size w) _
 have hs1:w1.heap.size=w.heap.size+1:=by rw [hw1];exact Array.size_push _
 have hC8:Cells8 w1 g q s A1 rl.length c1 wh 6 x m v A bs.length c:=by
  obtain ⟨a,b,h1⟩:=hL.blk
  exact ⟨⟨a,b,h1.below hb1 h1.lt⟩,by rw [hw1,hq];exact Blk.new _ _ _⟩
 have hgl:=hD.glt
 have HSA:=Lib.hid (show ∀ W,Below w1.heap.size w1 W→(fun W=>W.cell? ⟨g,0,none⟩=some (.pointer (some ⟨s,0,none⟩))∧W.cell? ⟨g,1,none⟩=some (.slice A1 rl.length c1)∧W.cell? ⟨q,0,none⟩=some (.int .i64 wh)∧W.cell? ⟨q,1,none⟩=some (.int .i64 6)∧W.cell? ⟨q,2,none⟩=some (.int .u64 x)∧W.cell? ⟨q,3,none⟩=some (.int .i64 m)∧W.cell? ⟨q,4,none⟩=some (.int .u64 v)∧W.cell? ⟨q,5,none⟩=some (.slice A bs.length c)) W from fun W hW=>(hC8.below hW (by omega) (by omega)).all)
 have hd0:=below_drew (Below.refl w1.heap.size w1)
 have HD0:=Lib.hid hd0
 have HD1:=Lib.hid (show ∀ o,Below w1.heap.size w1 (w1.drew.alloc o) from fun o=>below_push (w:=w1.drew) (Nat.le_refl _) hd0 o)
 have HS0:=Lib.hid (HSA.out _ hd0)
 have c0:=hC8.all.1
 rw [hw1] at c0
 have HC1:=Lib.hid (show ∀ W,Below w1.heap.size w1 W→Calls Try.prog 21 #[.slice A bs.length c] W fun e w'=>∃ A' c',e=.returned (.slice A' bs.length c')∧bs.length≤c'∧Kd.C (Kd.int .u8) w' A' bs.length bs∧Below W.heap.size W w' from fun W hW=>copyb_ W A _ c bs (Kd.C_below hC (hb1.trans (hW.mono hb1.size))) hc hbs.2)
 have HR1:=Lib.hid (show ∀ W A' c',Below w1.heap.size w1 W→bs.length≤c'→Kd.C (Kd.int .u8) W A' bs.length bs→Calls Try.prog 49 #[.agg #[.slice A1 rl.length c1],.int .u64 x,.slice A' bs.length c'] W fun e w'=>∃ A2 c2 r1 r2,e=.returned (.tuple #[.agg #[.slice A2 r1.length c2],.int .i64 r2])∧Kd.V k39 39 w' 0 (fun k=>(ok k∧k<w.heap.size)∨W.heap.size≤k) (.slice A2 r1.length c2) r1∧Below W.heap.size W w'∧PutR rl rs (putOf rs x bs) r1 r2 from fun W A' c' hW hc' hC'=>rput2_ _ W A1 c1 rl rs x A' _ c' bs (Kd.V_below (Kd.V_bound hV) (hb1.trans (hW.mono hb1.size))) hP.rel hC' (by omega) hD.small hbs)
 have HW:=Lib.hid hw1
 have HQ:=Lib.hid hq
 have HP:=Lib.hid hP
 have HCC:=Lib.hid hC
 have HB1:=Lib.hid hb1
 have HC8:=Lib.hid hC8
 have HQL:=Lib.hid (show q<w1.heap.size by omega)
 clear hL hV hP hw1 hb1 hs1 hC8 hd0 hD hC hq
 go_enter Try.func16,Try.ntmps16
 go_wp2_with fail
 rw [← HW.out,← HQ.out]
 refine Code.wp_mono (Q:=Norm fun a W=>∃ r A2 c2 r1 r2 A' c',a={ tmps:=#[Value.pointer (some { block:=g,off:=0 }),Value.agg #[Value.int IntKind.i64 wh,Value.int IntKind.i64 6,Value.int IntKind.u64 x,Value.int IntKind.i64 m,Value.int IntKind.u64 v,Value.slice A bs.length c],undef,Value.pointer (some { block:=q,off:=0 }),Value.bool false,Value.slice none 0 0,Value.slice none 0 0,undef,undef,undef,undef,undef,undef,undef,undef,undef,undef,undef,undef,undef,undef,undef,undef,undef,undef,Value.pointer (some { block:=r,off:=0 }),Value.int IntKind.i64 r2,undef,undef,undef,undef,undef,Value.pointer (some { block:=g,off:=0 }),Value.pointer (some { block:=g,off:=0 }),Value.pointer (some { block:=g,off:=0 }),Value.pointer (some { block:=s,off:=0 }),Value.bool false,undef,undef,undef,Value.pointer (some { block:=q,off:=1 }),Value.int IntKind.i64 6,Value.bool false,Value.bool false,undef,undef,undef,undef,undef,undef,undef,undef,undef,undef,undef,undef,undef,undef,undef,undef,undef,undef,undef,undef,undef,undef,undef,undef,undef,undef,undef,undef,undef,undef,undef,undef,undef,undef,undef,undef,undef,undef,undef,undef,undef,undef,Value.bool false,Value.bool false,undef,undef,undef,undef,undef,undef,undef,undef,undef,undef,undef,undef,undef,undef,undef,undef,undef,undef,undef,undef,undef,undef,undef,undef,undef,Value.bool false,Value.bool false,undef,undef,undef,undef,undef,undef,undef,undef,undef,undef,undef,undef,undef,undef,undef,undef,undef,undef,undef,undef,undef,undef,undef,undef,undef,undef,undef,undef,undef,undef,undef,undef,undef,Value.bool false,Value.bool false,undef,undef,undef,undef,undef,undef,undef,undef,undef,undef,undef,undef,undef,undef,undef,undef,undef,undef,undef,undef,undef,undef,undef,undef,undef,undef,undef,undef,undef,undef,undef,undef,undef,Value.bool false,Value.bool false,undef,undef,undef,undef,undef,undef,undef,undef,undef,undef,undef,undef,undef,undef,undef,undef,undef,undef,undef,undef,undef,undef,undef,undef,undef,undef,undef,undef,undef,undef,undef,undef,undef,undef,Value.bool true,Value.bool true,Value.tuple #[Value.agg #[Value.slice A2 r1.length c2],Value.int IntKind.i64 r2],Value.pointer (some { block:=g,off:=0 }),Value.pointer (some { block:=g,off:=0 }),Value.pointer (some { block:=g,off:=1 }),Value.agg #[Value.slice A1 rl.length c1],Value.pointer (some { block:=q,off:=2 }),Value.int IntKind.u64 x,Value.pointer (some { block:=q,off:=5 }),Value.slice A bs.length c,Value.slice A' bs.length c',Value.tuple #[Value.agg #[Value.slice A2 r1.length c2],Value.int IntKind.i64 r2],Value.agg #[Value.slice A2 r1.length c2],Value.int IntKind.i64 r2,undef,undef,undef,undef,undef,undef,undef,undef,undef,undef,undef,undef,undef,undef,undef,undef,undef,undef,undef,undef,undef,undef,undef,undef,undef,undef,undef,undef,undef,undef,undef,undef,undef,undef,undef,undef,undef,undef,undef,undef,undef,undef,undef,undef,undef,undef,undef,undef,undef,undef],defers:=[] }∧Hid ((Made w W (fun k=>ok k∧k<w.heap.size) r A2 c2 r1∧Below w1.heap.size w1 W)∧PutR rl rs (putOf rs x bs) r1 r2)) ?_ ?_
 rotate_left
 ·go_region_held3 (fun W=>W.cell? ⟨g,0,none⟩=some (.pointer (some ⟨s,0,none⟩))∧W.cell? ⟨g,1,none⟩=some (.slice A1 rl.length c1)∧W.cell? ⟨q,0,none⟩=some (.int .i64 wh)∧W.cell? ⟨q,1,none⟩=some (.int .i64 6)∧W.cell? ⟨q,2,none⟩=some (.int .u64 x)∧W.cell? ⟨q,3,none⟩=some (.int .i64 m)∧W.cell? ⟨q,4,none⟩=some (.int .u64 v)∧W.cell? ⟨q,5,none⟩=some (.slice A bs.length c)) (first|exact HS0.out|exact HSA.out _ (HD1.out _)|exact HSA.out _ HB2.out|exact HSA.out _ (below_push HB2.out.size HB2.out _)|exact HSA.out _ HB3.out|exact HSA.out _ (below_push HB3.out.size HB3.out _)|exact HSA.out _ (below_set (Nat.le_refl _) HB3.out _ _)|exact HSA.out _ (below_set HB2.out.size HB3.out _ _)) (first|(go_at_call 21;refine (HC1.out _ HD0.out).mono ?_;rintro e w2 ⟨A',c',rfl,hc',hk,hb⟩;have HB2:=Lib.hid (HD0.out.trans hb);have HK:=Lib.hid (And.intro hc' hk);have hsz2:=HB2.out.size;clear hk hb hc')|(go_at_call 21;refine (HC1.out _ (HD1.out _)).mono ?_;rintro e w2 ⟨A',c',rfl,hc',hk,hb⟩;have HB2:=Lib.hid ((HD1.out _).trans (hb.mono (HD1.out _).size));have HK:=Lib.hid (And.intro hc' hk);have HZ2:=Lib.hid (show Blk w2 w1.heap.size 78 #[.slice none 0 0] from (Blk.new w1.drew 78 #[.slice none 0 0]).below hb (Blk.new w1.drew 78 #[.slice none 0 0]).lt);have hsz2:=HB2.out.size;clear hk hb hc')|(go_at_call 49;refine (HR1.out w2 A' c' HB2.out HK.out.1 HK.out.2).mono ?_;rintro e w3 ⟨A2,c2,r1,r2,rfl,hv,hb,hr⟩;have HB3:=Lib.hid (HB2.out.trans (hb.mono HB2.out.size));have HV3:=Lib.hid hv;have HR3:=Lib.hid hr;have HZ:=Lib.hid (show Blk w3 w1.heap.size 78 #[.slice none 0 0] from HZ2.out.below hb HZ2.out.lt);have z0:=HZ.out.c0;have y0:=HZ.out.frozen 0;have hsz3:=HB3.out.size;clear hv hb hr)|(go_at_call 49;refine (HR1.out w2 A' c' HB2.out HK.out.1 HK.out.2).mono ?_;rintro e w3 ⟨A2,c2,r1,r2,rfl,hv,hb,hr⟩;have HB3:=Lib.hid (HB2.out.trans (hb.mono HB2.out.size));have HV3:=Lib.hid hv;have HR3:=Lib.hid hr;have hsz3:=HB3.out.size;clear hv hb hr)|(go_at_call 49;refine (HR1.out (w2.alloc (.cells #[.slice none 0 0] 78)) A' c' (below_push HB2.out.size HB2.out _) HK.out.1 (Kd.C_below HK.out.2 (below_push (Nat.le_refl _) (Below.refl _ _) _))).mono ?_;rintro e w3 ⟨A2,c2,r1,r2,rfl,hv,hb,hr⟩;have HB3:=Lib.hid ((below_push HB2.out.size HB2.out _).trans (hb.mono (Nat.le_trans HB2.out.size (act_size w2 _))));have HV3:=Lib.hid hv;have hsz4:=size1 w2 (.cells #[.slice none 0 0] 78);have HR3:=Lib.hid hr;have HZ:=Lib.hid (show Blk w3 w2.heap.size 78 #[.slice none 0 0] from (Blk.new w2 78 #[.slice none 0 0]).below hb (Blk.new w2 78 #[.slice none 0 0]).lt);have z0:=HZ.out.c0;have y0:=HZ.out.frozen 0;have hsz3:=HB3.out.size;clear hv hb hr))
  ·exact ⟨_,A2,c2,r1,r2,A',c',rfl,Lib.hid ⟨made_push HB1.out HB3.out HV3.out (Nat.le_trans HB1.out.size hsz2),HR3.out⟩⟩
  ·exact ⟨_,A2,c2,r1,r2,A',c',rfl,Lib.hid ⟨made_set HB1.out HB3.out HV3.out HZ.out hsz2 (by omega) (fun k hk=>hk.2),HR3.out⟩⟩
  ·exact ⟨_,A2,c2,r1,r2,A',c',rfl,Lib.hid ⟨made_set HB1.out HB3.out HV3.out HZ.out (Nat.le_refl _) (by have:=HZ2.out.lt;omega) (fun k hk=>hk.2),HR3.out⟩⟩
 refine Norm.elim ?_
 rintro a W ⟨r,A2,c2,r1,r2,A',c',rfl,HM⟩
 clear HS0 HC1 HR1 HD1
 have HLEND:=Lib.hid (show Calls Try.prog 40 #[.pointer (some ⟨g,0,none⟩),.agg #[.int .i64 wh,.int .i64 6,.int .u64 x,.int .i64 m,.int .u64 v,.slice A bs.length c]] W.drew fun e w'=>∃ gb A' c',e=.returned (.slice A' bs.length c')∧Kd.C (Kd.int .u8) w' A' bs.length bs∧LentAt w' g (.pointer (some ⟨s,0,none⟩)) (.slice A1 rl.length c1) gb bs∧(X gb∨W.drew.heap.size≤gb)∧Chg (fun k=>k=g∨X k) W.drew w' from
  lend_ W.drew g _ _ X wh 6 x m v A c bs ((HP.out.len.chg (chg_w (F:=fun _=>False) HM.out.1.1.bel) (fun h=>h) (fun _ _ h=>h)).chg (G:=fun _=>False) (chg_drew (Chg.refl _ _)) (fun h=>h) (fun _ _ h=>h)) (Kd.C_drewN (Kd.C_below HCC.out HM.out.1.1.bel) 1) hbs.2 (fun hp ad e hx=>hA hp ad e (by rw [hx];exact HP.out.own)) (fun hp ad e hx=>hA hp ad e (HP.out.s2 _ hx)))
 have HSW:=Lib.hid (show ∀ W7 a b,Blk W7 g 87 #[.pointer (some ⟨s,0,none⟩),.slice A1 rl.length c1,a,b]→W7.heap[q]?=w1.heap[q]?→(fun W=>W.cell? ⟨g,0,none⟩=some (.pointer (some ⟨s,0,none⟩))∧W.cell? ⟨g,1,none⟩=some (.slice A1 rl.length c1)∧W.cell? ⟨q,0,none⟩=some (.int .i64 wh)∧W.cell? ⟨q,1,none⟩=some (.int .i64 6)∧W.cell? ⟨q,2,none⟩=some (.int .u64 x)∧W.cell? ⟨q,3,none⟩=some (.int .i64 m)∧W.cell? ⟨q,4,none⟩=some (.int .u64 v)∧W.cell? ⟨q,5,none⟩=some (.slice A bs.length c)) W7 from fun W7 a b h1 h2=>Cells8.all ⟨⟨a,b,h1⟩,h2.trans HC8.out.2⟩)
 have HSD:=Lib.hid (HSA.out W.drew (below_drew HM.out.1.2))
 have HQW:=Lib.hid (HM.out.1.2.block q HQL.out)
 have hqg:q≠g:=by rw [HQ.out];omega
 have hqX:¬ X q:=fun h=>by have:=HP.out.lt q (HP.out.s2 q h);rw [HQ.out] at this;omega
 have hqS:¬ Sp q:=fun h=>by have:=HP.out.lt q (HP.out.s1 q h);rw [HQ.out] at this;omega
 have HQN:=Lib.hid (And.intro hqg (And.intro hqX hqS))
 have hWq:q<W.heap.size:=Nat.lt_of_lt_of_le HQL.out HM.out.1.2.size
 have HRES:=Lib.hid (show ∀ W6 A6 c6,Chg (fun k=>k=g∨X k) W W6→Kd.C (Kd.int .u8) W6 A6 bs.length bs→Calls Try.prog 50 #[.pointer (some ⟨s,0,none⟩),.int .u64 x,.slice A6 bs.length c6] W6 fun e w'=>e=.returned (.int .i64 r2)∧Chg (fun k=>Sp k∨W6.heap.size≤k) W6 w'∧∃ rs',StF (fun k=>Sp k∨W6.heap.size≤k) w' s rs'∧Rel r1 rs'∧∀ y∈r1,Small y from fun W6 A6 c6 h6 hC6=>by
  have hst6:StF (fun k=>Sp k∨W6.heap.size≤k) W6 s rs:=((HP.out.st.below HM.out.1.1.bel).chg h6 (fun k hk h2=>h2.elim (fun e=>HP.out.s4 (by rw [← e];exact hk)) (HP.out.s3 k hk))).mono (fun k _ hk=>.inl hk)
  refine (put_F _ W6 s rs x A6 _ c6 bs hst6 hC6 hbs.1.2.2.1 hbs.1.1 hbs.1.2.1 (by have h9:bs.length≤1048576:=hbs.2;omega)).mono ?_
  intro e w' hr
  have hm:=HM.out.2
  unfold PutRes at hr
  unfold PutR at hm
  cases hpo:putOf rs x bs with
  | some rs' =>
   rw [hpo] at hr hm
   obtain ⟨rfl,h1,h2⟩:=hr
   obtain ⟨rfl,h3,_,h4⟩:=hm
   exact ⟨rfl,h2,rs',h1,h3,h4⟩
  | none =>
   rw [hpo] at hr hm
   obtain ⟨rfl,n,rfl⟩:=hr
   obtain ⟨rfl,rfl⟩:=hm
   exact ⟨rfl,Chg.of_below (pw_below_drewN (Below.refl _ _) n) (Nat.le_refl _),rs,hst6.drewN n,HP.out.rel,HP.out.small⟩)
 have hlen1:r1.length≤rl.length+1:=HM.out.2.len
 have HLN:=Lib.hid hlen1
 clear hqg hqX hqS hlen1
 go_wp2_with fail
 go_region_held3 (fun W=>W.cell? ⟨g,0,none⟩=some (.pointer (some ⟨s,0,none⟩))∧W.cell? ⟨g,1,none⟩=some (.slice A1 rl.length c1)∧W.cell? ⟨q,0,none⟩=some (.int .i64 wh)∧W.cell? ⟨q,1,none⟩=some (.int .i64 6)∧W.cell? ⟨q,2,none⟩=some (.int .u64 x)∧W.cell? ⟨q,3,none⟩=some (.int .i64 m)∧W.cell? ⟨q,4,none⟩=some (.int .u64 v)∧W.cell? ⟨q,5,none⟩=some (.slice A bs.length c)) (first|exact HSD.out|exact HS6.out|exact HS7.out|exact HS6b.out _) (first|(go_at_call 40;refine HLEND.out.mono ?_;rintro e w6 ⟨gb,A6,c6,rfl,hk,hla,hgb,hch⟩;have HK6:=Lib.hid hk;have HLA:=Lib.hid hla;have HGB:=Lib.hid (show X gb∨W.heap.size≤gb from hgb);have HCH:=Lib.hid ((chg_drew (Chg.refl _ W)).trans hch);have HQ6:=Lib.hid ((HCH.out.block q hWq (fun h=>h.elim HQN.out.1 HQN.out.2.1)).trans HQW.out);have HS6:=Lib.hid (by obtain ⟨a,b,h⟩:=HLA.out.blk;exact HSW.out w6 a b h HQ6.out);clear hk hla hgb hch)|(go_at_call 50;refine (HRES.out w6 A6 c6 HCH.out HK6.out).mono ?_;rintro e w7 ⟨rfl,hc7,rs',hst,hrel,hsm⟩;have HC7:=Lib.hid hc7;have HST:=Lib.hid (And.intro hst (And.intro hrel hsm));have HL7:=Lib.hid (HLA.out.chg hc7 (fun h=>h.elim HP.out.s4 (fun h3=>by have:=HP.out.lt g HP.out.own;have:=HM.out.1.1.bel.size;have:=HCH.out.size;omega)) (fun h=>by have:=HLA.out.lt;rcases HGB.out with h4|h4 <;> rcases h with h5|h5 <;> first|exact HP.out.s3 gb h5 h4|omega|(have:=HP.out.lt gb (HP.out.s1 gb h5);have:=HM.out.1.1.bel.size;omega)));have HQ7:=Lib.hid ((hc7.block q (Nat.lt_of_lt_of_le hWq HCH.out.size) (fun h=>h.elim HQN.out.2.2 (fun h3=>by have:=HCH.out.size;omega))).trans HQ6.out);have HS7:=Lib.hid (by obtain ⟨a,b,h⟩:=HL7.out.blk;exact HSW.out w7 a b h HQ7.out);clear hc7 hst hrel hsm))
 have hcw7:Chg F w w7:=by
  have h6:Chg F w w6:=(chg_w HM.out.1.1.bel).trans (HCH.out.mono (fun k _ h2=>h2.elim (fun e=>by rw [e];exact HP.out.own) (HP.out.s2 k)))
  exact ⟨HC7.out.os.trans h6.os,HC7.out.tape.trans h6.tape,HC7.out.output.trans h6.output,Nat.le_trans h6.size HC7.out.size,fun k hk hf=>(HC7.out.block k (Nat.lt_of_lt_of_le hk h6.size) (fun h2=>h2.elim (fun h3=>hf (HP.out.s1 k h3)) (fun h3=>by have:=h6.size;omega))).trans (h6.block k hk hf)⟩
 have HAGB:=Lib.hid (show Lnd.Far A bs.length gb from fun hp ad e hx=>by
  obtain ⟨b,off,e2,hcell⟩:=Lnd.Rd.of_C HCC.out hp
  rw [e] at e2;cases e2
  have h1:=World.block_lt_of_cell? w _ (hcell 0 hp)
  rcases HGB.out with h4|h4
  ·exact hA hp _ e (by rw [hx];exact HP.out.s2 gb h4)
  ·have:=HM.out.1.1.bel.size
   simp only at h1 hx
   omega)
 have HBACK:=Lib.hid (backc_ w7.drew g _ _ gb A c bs (HL7.out.chg (G:=fun _=>False) (chg_drew (Chg.refl _ _)) (fun h=>h) (fun h=>h)) (Kd.C_drewN (C8_chg HCC.out hcw7 hA) 1) (fun hp ad e hx=>hA hp ad e (by rw [hx];exact HP.out.own)) HAGB.out)
 have hqgb:q≠gb:=by
  rcases HGB.out with h4|h4
  ·exact fun e=>HQN.out.2.1 (by rw [e];exact h4)
  ·omega
 have HS8:=Lib.hid (show (fun W=>W.cell? ⟨g,0,none⟩=some (.pointer (some ⟨s,0,none⟩))∧W.cell? ⟨g,1,none⟩=some (.slice A1 rl.length c1)∧W.cell? ⟨q,0,none⟩=some (.int .i64 wh)∧W.cell? ⟨q,1,none⟩=some (.int .i64 6)∧W.cell? ⟨q,2,none⟩=some (.int .u64 x)∧W.cell? ⟨q,3,none⟩=some (.int .i64 m)∧W.cell? ⟨q,4,none⟩=some (.int .u64 v)∧W.cell? ⟨q,5,none⟩=some (.slice A bs.length c)) w7.drew from HS7.out)
 clear hcw7
 go_wp2_with fail
 go_region_held3 (fun W=>W.cell? ⟨g,0,none⟩=some (.pointer (some ⟨s,0,none⟩))∧W.cell? ⟨g,1,none⟩=some (.slice A1 rl.length c1)∧W.cell? ⟨q,0,none⟩=some (.int .i64 wh)∧W.cell? ⟨q,1,none⟩=some (.int .i64 6)∧W.cell? ⟨q,2,none⟩=some (.int .u64 x)∧W.cell? ⟨q,3,none⟩=some (.int .i64 m)∧W.cell? ⟨q,4,none⟩=some (.int .u64 v)∧W.cell? ⟨q,5,none⟩=some (.slice A bs.length c)) (first|exact HS8.out|exact HS9.out) (first|(go_at_call 41;refine HBACK.out.mono ?_;rintro e w8 ⟨rfl,hlen8,hc8⟩;have HLEN:=Lib.hid (hlen8 (fun k=>k=gb) rfl);have HC8b:=Lib.hid ((chg_drew (Chg.refl _ w7)).trans hc8);have HQ8:=Lib.hid ((HC8b.out.block q (Nat.lt_of_lt_of_le (Nat.lt_of_lt_of_le hWq HCH.out.size) HC7.out.size) (fun h=>h.elim HQN.out.1 hqgb)).trans HQ7.out);have HS9:=Lib.hid (by obtain ⟨a,b,h⟩:=HLEN.out.blk;exact HSW.out w8 a b h HQ8.out);clear hlen8 hc8))
 have hr8:Blk w8 r 78 #[.slice A2 r1.length c2]:=by
  have hlr:=HM.out.1.1.blk.lt
  have hnr:=HM.out.1.1.new
  have hxr:¬ X r:=fun h=>by have:=HP.out.lt r (HP.out.s2 r h);omega
  have hsr:¬ Sp r:=fun h=>by have:=HP.out.lt r (HP.out.s1 r h);omega
  have hgr:r≠g:=by omega
  have hbr:r≠gb:=by
   rcases HGB.out with h4|h4
   ·exact fun e=>hxr (by rw [e];exact h4)
   ·omega
  exact ((HM.out.1.1.blk.chg HCH.out (fun h=>h.elim hgr hxr)).chg HC7.out (fun h=>h.elim hsr (fun h3=>by have:=HCH.out.size;omega))).chg HC8b.out (fun h=>h.elim hgr hbr)
 have r0:=hr8.c0
 obtain ⟨b2,b3,hg8⟩:=HLEN.out.blk
 have g1:=hg8.cell 1
 have f1:=hg8.frozen 1
 have g0:=hg8.cell 0
 simp only [List.getElem?_toArray,List.getElem?_cons_zero,List.getElem?_cons_succ] at g0 g1
 have HFIN:=Lib.hid (act_fin1 HP.out HM.out.1.1 HCH.out HGB.out HLA.out.lt HC7.out HST.out.1 HST.out.2.1 HST.out.2.2 HLN.out HC8b.out HLEN.out)
 clear hr8 hg8
 go_wp2_with (go_at_call 37;refine (spindlelaw0_Num.calls _ _ _ rfl).mono ?_;rintro e w9 ⟨rfl,⟨nd,rfl⟩⟩)
 go_ret3
 exact HFIN.out.drewN nd
end Go.Proofs.Ythmeojeehemlaaa.Mem
end
end
