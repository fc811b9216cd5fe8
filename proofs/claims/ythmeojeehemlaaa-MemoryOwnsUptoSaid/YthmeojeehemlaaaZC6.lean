/- Parts of the proof, laid together by a program of this session (pack.py): ZA6. Of the kit's print what the claim does not use is left out. -/
import Derived.Test.YthmeojeehemlaaaZC5
import Derived.Deep.RegionLaw
import Derived.Lib.SliceRun
import Derived.Lib.Walk
set_option linter.unusedVariables false
set_option linter.unusedSimpArgs false
set_option maxRecDepth 100000
set_option maxHeartbeats 16000000
section
section
namespace Go.Proofs.Ythmeojeehemlaaa.Mem
open Go.RowKit Go.Proofs.YthmeojeehemlaaaW.PrintWords
open Go.Proofs.Ythmeojeehemlaaa.PM
attribute [local go_sem] isSome_setCell
structure Out where
 first:Int
 A:Option Addr
 cap:Nat
 data:List Int
def outCells (os:List Out):List Value:=os.flatMap fun o=>[.int .u64 o.first,.slice o.A o.data.length o.cap]
def Outs (w:World) (base:Nat) (v:Value) (os:List Out):Prop:=
 w.ownsRow base 39 2 v os.length (outCells os)∧∀ o∈os,Dat w o.A o.cap o.data∧(0<o.data.length→∀ d,o.A=some ⟨d,0,none⟩→base≤d)
theorem reg_C {w:World} {r:Reg} (h:RegAt w r):Kd.C (Kd.int .u8) w r.A r.data.length r.data:=by
 have h1:=view_C h 0 r.data.length (by omega)
 have e:(r.A.map fun a=>a.add 0)=r.A:=by
  cases r.A with
  | none=>rfl
  | some a=>simp [Addr.add]
 rw [e,List.drop_zero,List.take_length] at h1
 exact h1
theorem step_append_own {P:Program} {ops:Array Oper} {o:Oper} {a:Act} {w:World} {K:Act→World→Prop} {Q:Exit→Act→World→Prop} {E:Prop}
  (hg:o.guard=none) (s x:Operand) (t:TypeId) (ho:o.op=.call { callee:=.builtin .append,args:=#[s,x],argTypes:=#[t,t] })
  (base:Nat) (e:TypeId) (i:TypeInfo) (z:Value) (size bytes:Nat) (ht:P.underlying t=some (.slice e)) (hi:P.info? e=some i) (hz:i.zero=some z)
  (hsize:i.size=size) (hby:i.bytes=bytes) (hzs:z.cells.size=size) (hsz:0<size)
  (v:Value) (n:Nat) (xs:List Value) (hs:a.eval s=v) (hown:w.ownsRow base e size v n xs)
  (ad:Addr) (m c:Nat) (news:List Value) (hx:a.eval x=.slice (some ad) m c) (hl:news.length=m*size) (hnews:∀ j u,news[j]?=some u→w.cell? (ad.add j)=some u) (h1:∀ u∈news,u.oneCell'=true)
  (h63:n+m≤maxLen) (hbytes:(n+m)*bytes≤140737488355328) (hbase:base≤w.heap.size)
  (h:∀ v' w',w'.ownsRow base e size v' (n+m) (xs ++ news)→w.grownBy w' v.ownBlock→(v'=.slice none 0 0↔v=.slice none 0 0∧m=0)→K (a.put o.dst v') w') :
  if Region.wanted o (yielded ops a.tmps)=true then Oper.wp P o a w K Q else E:=by
 have hw:Region.wanted o (yielded ops a.tmps)=true:=by simp [Region.wanted,hg]
 rw [if_pos hw]
 exact wp_append_own w s x t ho base e i z size bytes ht hi hz hsize hby hzs hsz v n xs hs hown ad m c news hx hl hnews h1 h63 hbytes hbase h
theorem ownsRow_below {w w':World} {base e size:Nat} {v:Value} {n:Nat} {xs:List Value} (h:w.ownsRow base e size v n xs) (hb:Below w.heap.size w w'):w'.ownsRow base e size v n xs:=by
 refine ⟨h.1,?_⟩
 rcases h.2 with hn|⟨g,cap,cur,hv,hg,hh,rest⟩
 ·exact .inl hn
 ·exact .inr ⟨g,cap,cur,hv,hg,(hb.block g (Array.getElem?_eq_some_iff.1 hh).1).trans hh,rest⟩
theorem Dat.below {w w':World} {A:Option Addr} {c:Nat} {l:List Int} (h:Dat w A c l) (hb:Below w.heap.size w w'):Dat w' A c l:=by
 refine ⟨h.len,h.small,fun hp=>?_⟩
 obtain ⟨d,cs,e,hd,hl,hc⟩:=h.row hp
 exact ⟨d,cs,e,hd.below hb hd.lt,hl,hc⟩
theorem Outs.below {w w':World} {base:Nat} {v:Value} {os:List Out} (h:Outs w base v os) (hb:Below w.heap.size w w'):Outs w' base v os:=
 ⟨ownsRow_below h.1 hb,fun o ho=>⟨(h.2 o ho).1.below hb,(h.2 o ho).2⟩⟩
theorem new_cells (w:World) (f:Int) (v:Value) (t:TypeId):∀ j u,([.int .u64 f,v]:List Value)[j]?=some u→(w.alloc (.cells #[.int .u64 f,v] t)).cell? ((⟨w.heap.size,0,none⟩:Addr).add j)=some u:=by
 intro j u hj
 have e:(⟨w.heap.size,0,none⟩:Addr).add j=⟨w.heap.size,j,none⟩:=by unfold Addr.add;split <;> simp_all
 rw [e,(Blk.new w t #[.int .u64 f,v]).cell j]
 simpa using hj
theorem one_cells (f:Int) {A:Option Addr} {n c:Nat}:∀ u∈([.int .u64 f,.slice A n c]:List Value),u.oneCell'=true:=by
 intro u hu
 rcases List.mem_cons.1 hu with rfl|hu
 ·rfl
 ·rw [List.mem_singleton.1 hu];rfl
theorem base_le {w wr w':World} (hB:Below w.heap.size w wr) (hb:Below wr.drew.heap.size wr.drew w') (o:Obj):w.heap.size≤(w'.alloc o).heap.size:=by
 have h1:=hB.size
 have h2:wr.heap.size≤w'.heap.size:=hb.size
 show w.heap.size≤(w'.heap.push o).size
 rw [Array.size_push]
 omega
def toOut (r:Reg):Int × List Int:=(r.first,r.data)
end Go.Proofs.Ythmeojeehemlaaa.Mem
end
section
namespace Go.Proofs.Ythmeojeehemlaaa.Mem
open Go.RowKit Go.Proofs.YthmeojeehemlaaaW.PrintWords
open Go.Proofs.Ythmeojeehemlaaa.PM
def Apt (rs:List Reg):Prop:=rs.Pairwise fun a b=>0<a.data.length→0<b.data.length→a.first+(a.data.length:Int)≤b.first
def Ends (rs:List Reg):Prop:=∀ r∈rs,0≤r.first∧r.first<18446744073709551616∧r.data.length≤140737488355328∧(0<r.data.length→r.first+(r.data.length:Int)≤18446744073709551616)
theorem full_iff (r:Reg):full r=true↔0<r.data.length:=by unfold full;simp
theorem fullDown_split (rs:List Reg) (n:Nat) (r:Reg) (h:fullDown rs n=some r):∃ pre post,rs.take n=pre ++ r :: post∧0<r.data.length∧∀ q∈post,¬ 0<q.data.length:=by
 unfold fullDown at h
 rw [List.find?_eq_some_iff_append] at h
 obtain ⟨hf,l1,l2,he,hn⟩:=h
 refine ⟨l2.reverse,l1.reverse,?_,(full_iff r).1 hf,fun q hq hc=>?_⟩
 ·have:=congrArg List.reverse he
  rw [List.reverse_reverse] at this
  rw [this];simp
 ·have:=hn q (List.mem_reverse.1 hq)
  rw [(full_iff q).2 hc] at this
  cases this
theorem fullDown_nothing (rs:List Reg) (n:Nat) (h:fullDown rs n=none):∀ q∈rs.take n,¬ 0<q.data.length:=by
 intro q hq hc
 unfold fullDown at h
 rw [List.find?_eq_none] at h
 exact h q (List.mem_reverse.2 hq) ((full_iff q).2 hc)
theorem fullUp_split (rs:List Reg) (n:Nat) (r:Reg) (h:fullUp rs n=some r):∃ pre post,rs.drop n=pre ++ r :: post∧0<r.data.length∧∀ q∈pre,¬ 0<q.data.length:=by
 unfold fullUp at h
 rw [List.find?_eq_some_iff_append] at h
 obtain ⟨hf,l1,l2,he,hn⟩:=h
 refine ⟨l1,l2,he,(full_iff r).1 hf,fun q hq hc=>?_⟩
 have:=hn q hq
 rw [(full_iff q).2 hc] at this
 cases this
theorem fullUp_nothing (rs:List Reg) (n:Nat) (h:fullUp rs n=none):∀ q∈rs.drop n,¬ 0<q.data.length:=by
 intro q hq hc
 unfold fullUp at h
 rw [List.find?_eq_none] at h
 exact h q hq ((full_iff q).2 hc)
theorem wlast_eq (f:Int) (n:Nat) (h0:0≤f) (hn:0<n) (h:f+(n:Int)≤18446744073709551616):wlast f n=f+n - 1:=by
 unfold wlast;rw [IntKind.wrap_u64];exact Int.emod_eq_of_lt (by omega) (by omega)
theorem wlast_fits (f:Int) (n:Nat) (h0:0≤f) (h1:f<18446744073709551616) (hn:0<n) (hs:n≤140737488355328) (h:¬ wlast f n<f):f+(n:Int)≤18446744073709551616:=by
 unfold wlast at h;rw [IntKind.wrap_u64] at h;omega
theorem good_ins (rs:List Reg) (rg:Reg) (hA:Apt rs) (hE:Ends rs) (hm:mayAdd rs rg.first rg.data=true) (h0:0≤rg.first) (h1:rg.first<18446744073709551616) (hs:rg.data.length≤140737488355328):Apt (ins rs (place rs rg.first) rg)∧Ends (ins rs (place rs rg.first) rg):=by
 unfold mayAdd at hm
 rw [Bool.and_eq_true] at hm
 obtain ⟨_,hm⟩:=hm
 have hT:(rs.take (place rs rg.first)).Pairwise _:=hA.sublist (List.take_sublist _ _)
 have hD:(rs.drop (place rs rg.first)).Pairwise _:=hA.sublist (List.drop_sublist _ _)
 have hX:=hA
 unfold Apt at hX
 rw [← List.take_append_drop (place rs rg.first) rs,List.pairwise_append] at hX
 have key:(0<rg.data.length→rg.first+(rg.data.length:Int)≤18446744073709551616)∧(∀ a∈rs.take (place rs rg.first),0<a.data.length→0<rg.data.length→a.first+(a.data.length:Int)≤rg.first)∧(∀ b∈rs.drop (place rs rg.first),0<rg.data.length→0<b.data.length→rg.first+(rg.data.length:Int)≤b.first):=by
  rcases Nat.eq_zero_or_pos rg.data.length with hz|hp
  ·exact ⟨fun h=>by omega,fun _ _ _ h=>by omega,fun _ _ h=>by omega⟩
  ·have he:rg.data.isEmpty=false:=by
    cases hd:rg.data with
    | nil=>rw [hd] at hp;simp at hp
    | cons _ _=>rfl
   rw [he,Bool.false_or,Bool.and_eq_true,Bool.and_eq_true] at hm
   obtain ⟨⟨hw,ha⟩,hb⟩:=hm
   have hw':¬ wlast rg.first rg.data.length<rg.first:=by simpa using hw
   have hend:=wlast_fits _ _ h0 h1 hp hs hw'
   have hwl:=wlast_eq _ _ h0 hp hend
   refine ⟨fun _=>hend,fun a ha1 hal _=>?_,fun b hb1 _ hbl=>?_⟩
   ·cases hfd:fullDown rs (place rs rg.first) with
    | none=>exact absurd hal (fullDown_nothing _ _ hfd a ha1)
    | some A =>
     obtain ⟨pre,post,hsp,hAl,hpost⟩:=fullDown_split _ _ _ hfd
     unfold aheadBad at ha
     rw [hfd] at ha
     have hA1:¬ rg.first≤wlast A.first A.data.length:=by simpa using ha
     have hAm:A∈rs:=List.mem_of_mem_take (by rw [hsp];simp)
     obtain ⟨e0,e1,e2,e3⟩:=hE A hAm
     rw [wlast_eq _ _ e0 hAl (e3 hAl)] at hA1
     rw [hsp] at ha1 hT
     rcases List.mem_append.1 ha1 with h|h
     ·have:=(List.pairwise_append.1 hT).2.2 a h A List.mem_cons_self hal hAl
      omega
     ·rcases List.mem_cons.1 h with rfl|h
      ·omega
      ·exact absurd hal (hpost a h)
   ·cases hfu:fullUp rs (place rs rg.first) with
    | none=>exact absurd hbl (fullUp_nothing _ _ hfu b hb1)
    | some C =>
     obtain ⟨pre,post,hsp,hCl,hpre⟩:=fullUp_split _ _ _ hfu
     unfold behindBad at hb
     rw [hfu] at hb
     have hC1:¬ C.first≤wlast rg.first rg.data.length:=by simpa using hb
     rw [hwl] at hC1
     rw [hsp] at hb1 hD
     rcases List.mem_append.1 hb1 with h|h
     ·exact absurd hbl (hpre b h)
     ·rcases List.mem_cons.1 h with rfl|h
      ·omega
      ·have:=(List.pairwise_cons.1 (List.pairwise_append.1 hD).2.1).1 b h hCl hbl
       omega
 refine ⟨?_,fun q hq=>?_⟩
 ·unfold Apt ins
  rw [List.pairwise_append]
  refine ⟨hT,List.pairwise_cons.2 ⟨fun b hb=>key.2.2 b hb,hD⟩,fun a ha b hb=>?_⟩
  rcases List.mem_cons.1 hb with rfl|hb
  ·exact key.2.1 a ha
  ·exact hX.2.2 a ha b hb
 ·rcases (mem_ins _ _ _ q).1 hq with rfl|hq
  ·exact ⟨h0,h1,hs,key.1⟩
  ·exact hE q hq
theorem adds_good {xs:List S39} {rs:List Reg} (h:Adds xs rs) (hF:∀ x∈xs,Fits x):Apt rs∧Ends rs:=by
 induction h with
 | nil=>exact ⟨List.Pairwise.nil,fun _ h=>absurd h List.not_mem_nil⟩
 | @snoc xs rs x rg _ hm h1 h2 ih =>
  obtain ⟨iA,iE⟩:=ih (fun y hy=>hF y (List.mem_append_left _ hy))
  obtain ⟨f0,f1,_,f3⟩:=hF x (by simp)
  rw [← h1,← h2] at hm
  rw [← h1]
  exact good_ins rs rg iA iE hm (by rw [h1];exact f0) (by rw [h1];exact f1) (by rw [h2];exact f3)
theorem fullDown_eq (rs:List Reg) (i:Nat) (hi:i<rs.length) (hf:0<rs[i].data.length):∀ n,i<n→(∀ j (hj:j<rs.length),i<j→j<n→¬ 0<rs[j].data.length)→fullDown rs n=some rs[i]:=by
 intro n
 induction n with
 | zero=>intro h;omega
 | succ n ih =>
  intro h hno
  by_cases hn:n<rs.length
  ·rw [fullDown_succ rs n hn]
   by_cases he:i=n
   ·subst he
    rw [if_pos ((full_iff _).2 hf)]
   ·have h2:=hno n hn (by omega) (by omega)
    rw [if_neg (fun h3=>h2 ((full_iff _).1 h3))]
    exact ih (by omega) (fun j hj h4 h5=>hno j hj h4 (by omega))
  ·have e:fullDown rs (n+1)=fullDown rs n:=by
    unfold fullDown
    rw [List.take_of_length_le (by omega),List.take_of_length_le (by omega)]
   rw [e]
   exact ih (by omega) (fun j hj h4 h5=>hno j hj h4 (by omega))
theorem upTo_le_x (rs:List Reg) (x:Int) (j:Nat) (hj:j<rs.length) (h:j<upTo rs x):rs[j].first≤x:=by
 unfold upTo at h
 split at h
 ·rename_i hh
  obtain ⟨h1,_,h2⟩:=hh
  by_cases hc:j<place rs x
  ·have:=place_below rs x j hj hc;omega
  ·obtain rfl:j=place rs x:=by omega
   omega
 ·have:=place_below rs x j hj h;omega
theorem fullDown_at (rs:List Reg) (hr:Rising rs) (hA:Apt rs) (i:Nat) (hi:i<rs.length) (o:Nat) (ho:o<rs[i].data.length):fullDown rs (upTo rs (rs[i].first+(o:Int)))=some rs[i]:=by
 refine fullDown_eq rs i hi (by omega) _ ?_ (fun j hj hij hju hjl=>?_)
 ·by_cases hz:o=0
  ·subst hz
   have hp:place rs (rs[i].first+((0:Nat):Int))=i:=place_unique rs _ i (by omega) (fun t ht hti=>by have:=rising_at rs hr t i hti hi;omega) (fun h=>by omega)
   have:upTo rs (rs[i].first+((0:Nat):Int))=i+1:=by
    unfold upTo
    rw [if_pos ⟨by rw [hp];exact hi,by simp only [hp];exact (full_iff _).2 (by omega),by simp only [hp];omega⟩,hp]
   omega
  ·have hp:i<place rs (rs[i].first+(o:Int)):=by
    rcases Nat.lt_or_ge i (place rs (rs[i].first+(o:Int))) with h|h
    ·exact h
    ·have h1:=place_at rs (rs[i].first+(o:Int)) (by omega)
     rcases Nat.lt_or_ge (place rs (rs[i].first+(o:Int))) i with h2|h2
     ·have:=rising_at rs hr _ i h2 hi;omega
     ·have e:place rs (rs[i].first+(o:Int))=i:=by omega
      simp only [e] at h1
      omega
   unfold upTo
   split <;> omega
 ·have h1:=upTo_le_x rs _ j hj hju
  have h2:=List.pairwise_iff_getElem.1 hA i j hi hj hij (by omega) hjl
  omega
theorem view_at (rs:List Reg) (hr:Rising rs) (hA:Apt rs) (i:Nat) (hi:i<rs.length) (o n:Nat) (ho:o<rs[i].data.length):viewOf rs (rs[i].first+(o:Int)) n=if rs[i].data.length - o<n then none else some (rs[i],o):=by
 unfold viewOf
 rw [fullDown_at rs hr hA i hi o ho]
 dsimp only
 rw [if_neg (by omega)]
 by_cases h:rs[i].data.length - o<n
 ·rw [if_pos (by omega),if_pos h]
 ·rw [if_neg (by omega),if_neg h,show (rs[i].first+(o:Int) - rs[i].first).toNat=o by omega]
theorem Dat.C {w:World} {A:Option Addr} {c:Nat} {l:List Int} (h:Dat w A c l):Kd.C (Kd.int .u8) w A l.length l:=by
 have hs:=h.small
 have hlen:=h.len
 refine ⟨rfl,by omega,fun hp=>?_⟩
 obtain ⟨d,cs,hA,hb,_,hc⟩:=h.row hp
 refine ⟨⟨d,0,none⟩,hA,fun j p hj=>⟨[.int .u8 p],rfl,rfl,fun i u hu=>?_⟩⟩
 have hi:i=0:=by
  have:=(List.getElem?_eq_some_iff.1 hu).1
  simpa using this
 subst hi
 have hu':Value.int .u8 p=u:=by simpa using hu
 subst hu'
 obtain ⟨hjn,hp2⟩:=List.getElem?_eq_some_iff.1 hj
 have ad:(⟨d,0,none⟩:Addr).add (j*(Kd.int .u8).sz+0)=⟨d,j,none⟩:=by
  show (⟨d,0,none⟩:Addr).add (j*1+0)=⟨d,j,none⟩
  unfold Addr.add;split <;> simp_all
 rw [ad,hb.cell j,hc j hjn,hp2]
theorem outCells_get:∀ (os:List Out) (j:Nat) (o:Out) (i:Nat),os[j]?=some o→i<2→(outCells os)[j*2+i]?=([.int .u64 o.first,.slice o.A o.data.length o.cap]:List Value)[i]?
 | [],j,o,i,h,_=>by simp at h
 | q :: os,0,o,i,h,hi=>by
  have e:q=o:=by simpa using h
  subst e
  show ([Value.int .u64 q.first,Value.slice q.A q.data.length q.cap] ++ outCells os)[0*2+i]?=_
  rw [Nat.zero_mul,Nat.zero_add,List.getElem?_append_left (by simpa using hi)]
 | q :: os,j+1,o,i,h,hi=>by
  show ([Value.int .u64 q.first,Value.slice q.A q.data.length q.cap] ++ outCells os)[(j+1)*2+i]?=_
  rw [List.getElem?_append_right (by simp;omega)]
  have:=outCells_get os j o i (by simpa using h) hi
  rw [← this]
  congr 1;simp;omega
theorem Outs.C {w:World} {base:Nat} {v:Value} {os:List Out} (h:Outs w base v os) (hbig:os.length<9223372036854775808):∃ A c,v=.slice A os.length c∧os.length≤c∧Kd.C k39 w A os.length (os.map fun o=>(⟨o.first,o.data⟩:S39)):=by
 obtain ⟨⟨hl,h2⟩,hd⟩:=h
 rcases h2 with ⟨rfl,h0⟩|⟨g,cap,cur,rfl,_,hh,hnc,_,hsz,ht⟩
 ·rw [h0]
  exact ⟨none,0,rfl,Nat.le_refl _,⟨by simpa using h0,by omega,fun h=>absurd h (by omega)⟩⟩
 ·refine ⟨_,cap,rfl,hnc,⟨by simp,by omega,fun hp=>⟨⟨g,0,none⟩,rfl,fun j p hj=>?_⟩⟩⟩
  rw [List.getElem?_map] at hj
  obtain ⟨o,ho,rfl⟩:=Option.map_eq_some_iff.1 hj
  have hdo:=(hd o (List.mem_of_getElem? ho)).1
  refine ⟨[.int .u64 o.first,.slice o.A o.data.length o.cap],rfl,k39_mk w ⟨o.first,o.data⟩ hdo.len hdo.C,fun i u hu=>?_⟩
  have hi:i<2:=by
   have:=(List.getElem?_eq_some_iff.1 hu).1
   simpa using this
  have hj':j<os.length:=(List.getElem?_eq_some_iff.1 ho).1
  have ad:(⟨g,0,none⟩:Addr).add (j*k39.sz+i)=⟨g,j*2+i,none⟩:=by
   show (⟨g,0,none⟩:Addr).add (j*2+i)=⟨g,j*2+i,none⟩
   unfold Addr.add;split <;> simp_all
  have hb:Blk w g 39 cur:=hh
  have e1:(cur.toList.take (os.length*2))[j*2+i]?=some u:=by
   rw [ht,outCells_get os j o i ho hi];exact hu
  rw [List.getElem?_take] at e1
  rw [ad,hb.cell]
  split at e1
  ·simpa using e1
  ·cases e1
end Go.Proofs.Ythmeojeehemlaaa.Mem
end
section
namespace Go.Proofs.Ythmeojeehemlaaa.Mem
open Go.RowKit Go.Proofs.YthmeojeehemlaaaW.PrintWords
open Go.Proofs.Ythmeojeehemlaaa.PM
attribute [local go_sem] isSome_setCell
def awakeX:S39:=⟨16,[1,2,3]⟩
theorem awake_arg (w:World):Kd.C k39 ((w.alloc (.cells #[.int .u8 1,.int .u8 2,.int .u8 3] 5)).alloc (.cells #[.int .u64 16,.slice (some ⟨w.heap.size,0,none⟩) 3 3] 39)) (some ⟨w.heap.size+1,0,none⟩) 1 [awakeX]:=by
 have b1:Blk ((w.alloc (.cells #[.int .u8 1,.int .u8 2,.int .u8 3] 5)).alloc (.cells #[.int .u64 16,.slice (some ⟨w.heap.size,0,none⟩) 3 3] 39)) w.heap.size 5 #[.int .u8 1,.int .u8 2,.int .u8 3]:=(Blk.new w 5 _).alloc _
 have b2:=Blk.new (w.alloc (.cells #[.int .u8 1,.int .u8 2,.int .u8 3] 5)) 39 #[.int .u64 16,.slice (some ⟨w.heap.size,0,none⟩) 3 3]
 have hs:(w.alloc (.cells #[.int .u8 1,.int .u8 2,.int .u8 3] 5)).heap.size=w.heap.size+1:=by
  show (w.heap.push _).size=_
  rw [Array.size_push]
 rw [hs] at b2
 have hd:Dat ((w.alloc (.cells #[.int .u8 1,.int .u8 2,.int .u8 3] 5)).alloc (.cells #[.int .u64 16,.slice (some ⟨w.heap.size,0,none⟩) 3 3] 39)) (some ⟨w.heap.size,0,none⟩) 3 [1,2,3]:=
  ⟨Nat.le_refl _,by decide,fun _=>⟨_,_,rfl,b1,Nat.le_refl _,fun i h=>by
   have h3:i<3:=h
   rcases i with _|_|_|i
   ·rfl
   ·rfl
   ·rfl
   ·omega⟩⟩
 refine ⟨rfl,by decide,fun _=>⟨⟨w.heap.size+1,0,none⟩,rfl,fun j p hj=>?_⟩⟩
 have hj0:j=0:=by
  have:=(List.getElem?_eq_some_iff.1 hj).1
  simpa using this
 subst hj0
 have hp:awakeX=p:=by simpa using hj
 subst hp
 refine ⟨[.int .u64 16,.slice (some ⟨w.heap.size,0,none⟩) 3 3],rfl,k39_mk _ awakeX hd.len hd.C,fun i u hu=>?_⟩
 have ad:(⟨w.heap.size+1,0,none⟩:Addr).add (0*k39.sz+i)=⟨w.heap.size+1,i,none⟩:=by
  rw [Nat.zero_mul,Nat.zero_add]
  unfold Addr.add;split <;> simp_all
 rw [ad,b2.cell]
 simpa using hu
theorem awake_adds {rs:List Reg} (h:Adds [awakeX] rs):∃ rg:Reg,rs=[rg]∧rg.first=16∧rg.data=[1,2,3]:=by
 generalize hx:[awakeX]=xs at h
 cases h with
 | nil=>cases hx
 | @snoc xs rs x rg h1 hm h2 h3 =>
  have e:=List.append_inj' (s₁:=[]) (t₁:=[awakeX]) (s₂:=xs) (t₂:=[x]) hx rfl
  obtain ⟨e1,e2⟩:=e
  subst e1
  have e3:awakeX=x:=by simpa using e2
  subst e3
  have hr:rs=[]:=by
   have:=h1.len
   exact List.length_eq_zero_iff.1 this
  subst hr
  exact ⟨rg,rfl,h2,h3⟩
theorem awake_may:mayAdd [] 16 [1,2,3]=true:=by
 unfold mayAdd aheadBad behindBad
 have e:wlast 16 3=18:=by unfold wlast;rw [IntKind.wrap_u64];rfl
 show (!decide (∃ r∈([]:List Reg),r.first=16) && _)=true
 rw [decide_eq_false (by rintro ⟨r,h,_⟩;cases h)]
 show (false || (!decide (wlast 16 3<16) && true && true))=true
 rw [e]
 decide
theorem awake_size (w:World):w.heap.size≤((w.alloc (.cells #[.int .u8 1,.int .u8 2,.int .u8 3] 5)).alloc (.cells #[.int .u64 16,.slice (some ⟨w.heap.size,0,none⟩) 3 3] 39)).heap.size:=by
 show w.heap.size≤((w.heap.push _).push _).size
 simp only [Array.size_push];omega
theorem awake_fits:∀ x∈[awakeX],Fits x:=by
 intro x hx
 rw [List.mem_singleton.1 hx]
 refine ⟨by decide,by decide,fun b hb=>?_,by decide⟩
 rcases List.mem_cons.1 hb with rfl|hb
 ·decide
 ·rcases List.mem_cons.1 hb with rfl|hb
  ·decide
  ·rw [List.mem_singleton.1 hb];decide
theorem awake_new {w w':World} {e:Ending} (h:NewRes ((w.alloc (.cells #[.int .u8 1,.int .u8 2,.int .u8 3] 5)).alloc (.cells #[.int .u64 16,.slice (some ⟨w.heap.size,0,none⟩) 3 3] 39)) [awakeX] e w') :
  ∃ s,∃ rg:Reg,e=.returned (.tuple #[.pointer (some ⟨s,0,none⟩),.int .i64 0])∧St ((w.alloc (.cells #[.int .u8 1,.int .u8 2,.int .u8 3] 5)).alloc (.cells #[.int .u64 16,.slice (some ⟨w.heap.size,0,none⟩) 3 3] 39)).heap.size w' s [rg]∧rg.first=16∧rg.data=[1,2,3]∧Below w.heap.size w w':=by
 have hb0:Below w.heap.size w ((w.alloc (.cells #[.int .u8 1,.int .u8 2,.int .u8 3] 5)).alloc (.cells #[.int .u64 16,.slice (some ⟨w.heap.size,0,none⟩) 3 3] 39)):=below_push (by show w.heap.size≤(w.heap.push _).size;simp) (below_push (Nat.le_refl _) (Below.refl _ _) _) _
 rcases h with ⟨s,rs,he,ha,hs,hb⟩|⟨_,⟨k,rs,hk,ha,hm⟩,_⟩
 ·obtain ⟨rg,rfl,h1,h2⟩:=awake_adds ha
  exact ⟨s,rg,he,hs,h1,h2,hb0.trans (hb.mono (awake_size w))⟩
 ·have hk0:k=0:=by simpa using hk
  subst hk0
  have hr:rs=[]:=by
   have:=ha.len
   exact List.length_eq_zero_iff.1 this
  subst hr
  have hm2:mayAdd [] 16 [1,2,3]=false:=hm
  rw [awake_may] at hm2
  cases hm2
theorem awake_view {rg:Reg} (h1:rg.first=16) (hl:rg.data.length=3) (n:Nat) (hn:n≤2):viewOf [rg] 17 n=some (rg,1):=by
 have h:=view_at [rg] ⟨fun _ h=>absurd h List.not_mem_nil,trivial⟩ (List.pairwise_singleton _ _) 0 (by simp) 1 n (by simp [hl])
 simp only [List.getElem_cons_zero,h1,hl] at h
 rw [if_neg (by omega)] at h
 exact h
theorem awake_stored {rg:Reg} {B:Nat} {w w':World} {s:Nat} {e:Ending} (h1:rg.first=16) (h2:rg.data=[1,2,3]) (h:StoreRes (storeOf [rg] 17 16 1541) [rg] B w s e w'):e=.returned (.int .i64 0)∧St B w' s [upd rg 1 (le 2 1541) rg]∧Below B w w':=by
 have hv:=awake_view h1 (by rw [h2];rfl) 2 (Nat.le_refl _)
 have e1:storeOf [rg] 17 16 1541=some [upd rg 1 (le 2 1541) rg]:=by
  unfold storeOf
  rw [show wb 16=2 from rfl,hv]
  rfl
 rw [e1] at h
 exact ⟨h.1,h.2.1,h.2.2.1⟩
theorem awake_load {rg:Reg} (h1:rg.first=16) (h2:rg.data=[1,2,3]):loadOf [upd rg 1 (le 2 1541) rg] 17 8=(5,0):=by
 have e:(upd rg 1 (le 2 1541) rg).data=[1,5,6]:=by
  unfold upd
  rw [if_pos rfl]
  show put rg.data 1 (le 2 1541)=_
  rw [h2]
  rfl
 have hv:=awake_view (rg:=upd rg 1 (le 2 1541) rg) (by rw [upd_first];exact h1) (by rw [e];rfl) 1 (by omega)
 unfold loadOf
 rw [show wb 8=1 from rfl,hv]
 show (num (((upd rg 1 (le 2 1541) rg).data.drop 1).take 1),(0:Int))=_
 rw [e]
 rfl
theorem awake_ (w:World):Calls Try.prog 9 #[] w fun e w'=>e=.returned (.bool true)∧Below w.heap.size w w':=by
 have HA:=Lib.hid (awake_arg w)
 go_enter Try.func9,Try.ntmps9
 go_wp2_with (first|(go_at_call 7;refine (new_ _ _ 1 1 [awakeX] HA.out awake_fits (by omega)).mono ?_;rintro e w' hn;obtain ⟨s,rg,rfl,hs,h1,h2,hb⟩:=awake_new hn;have HS:=Lib.hid hs;have HR:=Lib.hid (And.intro h1 h2);have HB:=Lib.hid hb;clear hn hs h1 h2 hb)|(go_at_call 11;refine (store_ _ _ s [rg] 17 16 1541 HS.out (by decide) (by decide) (by decide) (by decide)).mono ?_;rintro e w2 hst;obtain ⟨rfl,hs2,hb2⟩:=awake_stored HR.out.1 HR.out.2 hst;have HS2:=Lib.hid hs2;have HB2:=Lib.hid hb2;clear hst hs2 hb2)|(go_at_call 12;refine (load_ _ s _ 17 8 HS2.out.space HS2.out.rising HS2.out.bytes (by decide) (by decide)).mono ?_;rintro e w3 ⟨rfl,⟨nd,rfl⟩⟩;rw [awake_load HR.out.1 HR.out.2]))
 go_ret
 exact ⟨rfl,pw_below_drewN ((HB.out).trans (HB2.out.mono (awake_size w))) _⟩
end Go.Proofs.Ythmeojeehemlaaa.Mem
end
section
namespace Go.Proofs.Ythmeojeehemlaaa.Mem
open Go.RowKit Go.Proofs.YthmeojeehemlaaaW.PrintWords
open Go.Proofs.Ythmeojeehemlaaa.PM
theorem rd39 (xs:List S39) (i:Nat) (h:i<xs.length):rd_T39 xs (i:Int)=xs[i]:=by
 unfold rd_T39
 rw [Int.toNat_natCast,List.getD_eq_getElem?_getD,List.getElem?_eq_getElem h];rfl
theorem copy_l0 (xs:List S39) (hl:xs.length≤4398046510976) (hx:∀ x∈xs,x.f1.length≤140737488351232):∀ (k i:Nat),i≤xs.length→xs.length - i<k→spindlelaw20_CopyRegions.l0 k xs (xs.take i) (i:Int)=some xs:=by
 intro k
 induction k with
 | zero=>intro i _ h;omega
 | succ k ih =>
  intro i hi hk
  simp only [spindlelaw20_CopyRegions.l0]
  by_cases hlt:i<xs.length
  ·have hx1:=hx _ (List.getElem_mem hlt)
   rw [if_pos (by omega),if_pos (by omega),rd39 xs i hlt]
   have hc:spindlelaw0_CopyBytes.f xs[i].f1=some xs[i].f1:=by
    unfold spindlelaw0_CopyBytes.f
    simp only [Option.bind_some,List.length_nil,List.nil_append]
    rw [if_pos (by omega)]
   rw [hc]
   simp only [Option.bind_some]
   rw [if_pos (by rw [List.length_take];omega)]
   have e:xs.take i ++ [(⟨xs[i].f0,xs[i].f1⟩:S39)]=xs.take (i+1):=by
    rw [List.take_succ_eq_append_getElem hlt]
   rw [e,w64 _ (by omega) (by omega)]
   have:=ih (i+1) (by omega) (by omega)
   rw [← this]
   rfl
  ·rw [if_neg (by omega),List.take_of_length_le (by omega)]
theorem copy_eq (xs:List S39) (hl:xs.length≤4398046510976) (hx:∀ x∈xs,x.f1.length≤140737488351232):spindlelaw20_CopyRegions.f (xs.length+1) xs=some xs:=copy_l0 xs hl hx _ 0 (Nat.zero_le _) (by omega)
def s39 (r:Reg):S39:=⟨r.first,r.data⟩
theorem outs_rs {os:List Out} {rs:List Reg} (h:os.map (fun o=>(o.first,o.data))=rs.map toOut):os.length=rs.length∧os.map (fun o=>(⟨o.first,o.data⟩:S39))=rs.map s39:=by
 have h1:=congrArg List.length h
 simp at h1
 refine ⟨h1,?_⟩
 have h2:=congrArg (List.map fun p:Int × List Int=>(⟨p.1,p.2⟩:S39)) h
 simp only [List.map_map] at h2
 exact h2
end Go.Proofs.Ythmeojeehemlaaa.Mem
end
section
namespace Go.Proofs.Ythmeojeehemlaaa.Mem
open Go.RowKit Go.Proofs.YthmeojeehemlaaaW.PrintWords
open Go.Proofs.Ythmeojeehemlaaa.PM
def mayR (f:Int) (n:Nat):Bool:=n == 0 || !decide (wlast f n<f)
theorem may_eq (f:Int) (l:List Int) (hl:l.length≤140737488355328):spindleref20_may.f f l=some (mayR f l.length):=by
 unfold spindleref20_may.f mayR
 by_cases hz:l.length=0
 ·rw [if_pos (by omega),hz];rfl
 ·have e:IntKind.u64.wrap (f+IntKind.u64.wrap (wrap64 ((l.length:Int) - 1)))=wlast f l.length:=by
   unfold wlast;rw [w64 _ (by omega) (by omega)];simp only [IntKind.wrap_u64];omega
  have hz2:(l.length == 0)=false:=beq_eq_false_iff_ne.mpr hz
  rw [if_neg (by omega),e,hz2,Bool.false_or]
  congr 1
  by_cases h:wlast f l.length<f
  ·rw [decide_eq_true h,decide_eq_false (by omega)];rfl
  ·rw [decide_eq_false h,decide_eq_true (by omega)];rfl
def Clash (f1:Int) (n1:Nat) (f2:Int) (n2:Nat):Prop:=f1=f2∨(f2<f1∧0<n2∧0<n1∧f1 - f2<(n2:Int))∨(f1<f2∧0<n1∧0<n2∧f2 - f1<(n1:Int))
instance (f1:Int) (n1:Nat) (f2:Int) (n2:Nat):Decidable (Clash f1 n1 f2 n2):=by unfold Clash;infer_instance
theorem clash_eq (s t:S39) (hs:Fits s) (ht:Fits t):spindleref20_clash.f s.f0 s.f1 t.f0 t.f1=some (decide (Clash s.f0 s.f1.length t.f0 t.f1.length)):=by
 obtain ⟨a0,a1,_,a2⟩:=hs
 obtain ⟨b0,b1,_,b2⟩:=ht
 unfold spindleref20_clash.f
 by_cases h:s.f0=t.f0
 ·rw [if_pos h,decide_eq_true (show Clash _ _ _ _ from Or.inl h)]
 ·rw [if_neg h]
  by_cases h2:s.f0 > t.f0
  ·rw [if_pos h2]
   by_cases h3:(t.f1.length:Int) > 0
   ·rw [if_pos h3]
    by_cases h4:(s.f1.length:Int) > 0
    ·rw [if_pos h4,u64 _ (by omega) (by omega),u64 _ (by omega) (by omega)]
     congr 1
     rw [decide_eq_decide]
     unfold Clash
     omega
    ·rw [if_neg h4,decide_eq_false (by unfold Clash;omega)]
   ·rw [if_neg h3,decide_eq_false (by unfold Clash;omega)]
  ·rw [if_neg h2]
   by_cases h3:(s.f1.length:Int) > 0
   ·rw [if_pos h3]
    by_cases h4:(t.f1.length:Int) > 0
    ·rw [if_pos h4,u64 _ (by omega) (by omega),u64 _ (by omega) (by omega)]
     congr 1
     rw [decide_eq_decide]
     unfold Clash
     omega
    ·rw [if_neg h4,decide_eq_false (by unfold Clash;omega)]
   ·rw [if_neg h3,decide_eq_false (by unfold Clash;omega)]
theorem copied_eq (f:Int) (l:List Int) (hl:l.length<140737488355328):spindleref20_copied.f f l=some (f,l):=by
 unfold spindleref20_copied.f
 rw [if_pos (by simpa using hl),List.nil_append]
theorem scopy_l0 (xs:List S39) (hl:xs.length≤1048576) (hx:∀ x∈xs,x.f1.length≤1048576):∀ (k i:Nat),i≤xs.length→xs.length - i<k→spindleref20_Space_Copy.l0 k (i:Int) xs (xs.take i)=some xs:=by
 intro k
 induction k with
 | zero=>intro i _ h;omega
 | succ k ih =>
  intro i hi hk
  simp only [spindleref20_Space_Copy.l0]
  by_cases hlt:i<xs.length
  ·have hx1:=hx _ (List.getElem_mem hlt)
   rw [if_pos (by omega),if_pos (by omega),rd39 xs i hlt,copied_eq _ _ (by omega)]
   simp only [Option.bind_some]
   rw [if_pos (by rw [List.length_take];omega),w64 _ (by omega) (by omega)]
   have e:xs.take i ++ [(⟨xs[i].f0,xs[i].f1⟩:S39)]=xs.take (i+1):=by
    rw [List.take_succ_eq_append_getElem hlt]
   rw [e]
   have:=ih (i+1) (by omega) (by omega)
   rw [← this]
   rfl
  ·rw [if_neg (by omega),List.take_of_length_le (by omega)]
theorem scopy_eq (xs:List S39) (hl:xs.length≤1048576) (hx:∀ x∈xs,x.f1.length≤1048576) (k:Nat) (hk:xs.length<k):spindleref20_Space_Copy.f k xs=some xs:=scopy_l0 xs hl hx _ 0 (Nat.zero_le _) (by omega)
def Fine (xs:List S39) (x:S39):Prop:=mayR x.f0 x.f1.length=true∧∀ s∈xs,¬ Clash s.f0 s.f1.length x.f0 x.f1.length
def Small (x:S39):Prop:=Fits x∧x.f1.length≤1048576
theorem add_j1 (xs:List S39) (x:S39) (hl:xs.length≤1048576) (hx:∀ y∈xs,Small y) (hs:Small x) (b:Bool) (k:Nat) (hk:xs.length+1<k):spindleref20_Space_Add.j1 k b xs x.f0 x.f1=some (if b=true then (xs ++ [x],0) else (xs,201)):=by
 obtain ⟨k,rfl⟩:∃ k',k=k'+1:=⟨k - 1,by omega⟩
 simp only [spindleref20_Space_Add.j1]
 cases b with
 | false=>rfl
 | true =>
  rw [if_pos rfl,if_pos rfl,scopy_eq xs hl (fun y hy=>(hx y hy).2) k (by omega)]
  simp only [Option.bind_some]
  rw [copied_eq _ _ (by have:=hs.2;omega)]
  simp only [Option.bind_some]
  rw [if_pos (by omega)]
theorem add_l0 (xs:List S39) (x:S39) (hl:xs.length≤1048576) (hx:∀ y∈xs,Small y) (hs:Small x):∀ (k i:Nat) (b:Bool),i≤xs.length→2*xs.length+2 - i<k →
  ∃ c:Bool,(c=true↔b=true∧∀ s∈xs.drop i,¬ Clash s.f0 s.f1.length x.f0 x.f1.length)∧spindleref20_Space_Add.l0 k b (i:Int) xs x.f0 x.f1=some (if c=true then (xs ++ [x],0) else (xs,201)):=by
 intro k
 induction k with
 | zero=>intro i b _ h;omega
 | succ k ih =>
  intro i b hi hk
  simp only [spindleref20_Space_Add.l0]
  cases b with
  | false =>
   rw [if_neg (by decide)]
   exact ⟨false,by simp,add_j1 xs x hl hx hs false k (by omega)⟩
  | true =>
   rw [if_pos rfl]
   by_cases hlt:i<xs.length
   ·rw [if_pos (by omega),if_pos (by omega),rd39 xs i hlt,clash_eq _ _ (hx _ (List.getElem_mem hlt)).1 hs.1]
    simp only [Option.bind_some]
    rw [w64 _ (by omega) (by omega)]
    obtain ⟨c,hc,h⟩:=ih (i+1) (!decide (Clash xs[i].f0 xs[i].f1.length x.f0 x.f1.length)) (by omega) (by omega)
    refine ⟨c,hc.trans ?_,h⟩
    rw [List.drop_eq_getElem_cons hlt]
    simp only [Bool.not_eq_true',decide_eq_false_iff_not,List.forall_mem_cons,true_and]
   ·rw [if_neg (by omega),List.drop_of_length_le (by omega)]
    exact ⟨true,by simp,add_j1 xs x hl hx hs true k (by omega)⟩
theorem add_eq (xs:List S39) (x:S39) (hl:xs.length≤1048576) (hx:∀ y∈xs,Small y) (hs:Small x) (k:Nat) (hk:2*xs.length+2<k) :
  ∃ c:Bool,(c=true↔Fine xs x)∧spindleref20_Space_Add.f k xs x.f0 x.f1=some (if c=true then (xs ++ [x],0) else (xs,201)):=by
 unfold spindleref20_Space_Add.f
 rw [may_eq _ _ (by have:=hs.2;omega)]
 simp only [Option.bind_some]
 obtain ⟨c,hc,h⟩:=add_l0 xs x hl hx hs k 0 (mayR x.f0 x.f1.length) (Nat.zero_le _) (by omega)
 refine ⟨c,?_,h⟩
 rw [hc,List.drop_zero]
 rfl
theorem rnew_l0 (xs:List S39) (hl:xs.length≤1048576) (hx:∀ y∈xs,Small y):∀ (k i:Nat),i≤xs.length→4*xs.length+4 - i<k →
  ∃ r,spindleref20_New.l0 k xs (i:Int) (xs.take i)=some r∧((r=(xs,0)∧∀ j (h:j<xs.length),i≤j→Fine (xs.take j) xs[j])∨(r=([],201)∧∃ j,∃ h:j<xs.length,i≤j∧¬ Fine (xs.take j) xs[j])):=by
 intro k
 induction k with
 | zero=>intro i _ h;omega
 | succ k ih =>
  intro i hi hk
  simp only [spindleref20_New.l0]
  by_cases hlt:i<xs.length
  ·rw [if_pos (by omega),if_pos (by omega),rd39 xs i hlt]
   obtain ⟨c,hc,h⟩:=add_eq (xs.take i) xs[i] (by rw [List.length_take];omega) (fun y hy=>hx y (List.mem_of_mem_take hy)) (hx _ (List.getElem_mem hlt)) k (by rw [List.length_take];omega)
   rw [h]
   cases c with
   | true =>
    rw [if_pos rfl]
    simp only [Option.bind_some]
    rw [if_pos trivial,w64 _ (by omega) (by omega),← List.take_succ_eq_append_getElem hlt]
    obtain ⟨r,h1,h2⟩:=ih (i+1) (by omega) (by omega)
    refine ⟨r,h1,?_⟩
    rcases h2 with ⟨h2,h3⟩|⟨h2,j,hj,hij,h3⟩
    ·refine .inl ⟨h2,fun j hj hij=>?_⟩
     by_cases he:i=j
     ·subst he;exact hc.1 rfl
     ·exact h3 j hj (by omega)
    ·exact .inr ⟨h2,j,hj,by omega,h3⟩
   | false =>
    rw [if_neg (by decide)]
    simp only [Option.bind_some]
    rw [if_neg (by decide)]
    exact ⟨_,rfl,.inr ⟨rfl,i,hlt,Nat.le_refl _,fun hf=>by have:=hc.2 hf;cases this⟩⟩
  ·rw [if_neg (by omega),List.take_of_length_le (by omega)]
   exact ⟨_,rfl,.inl ⟨rfl,fun j hj hij=>by omega⟩⟩
theorem rnew_eq (xs:List S39) (hl:xs.length≤1048576) (hx:∀ y∈xs,Small y) :
  ∃ r,spindleref20_New.f (4*xs.length+5) xs=some r∧((r=(xs,0)∧∀ j (h:j<xs.length),Fine (xs.take j) xs[j])∨(r=([],201)∧∃ j,∃ h:j<xs.length,¬ Fine (xs.take j) xs[j])):=by
 obtain ⟨r,h1,h2⟩:=rnew_l0 xs hl hx (4*xs.length+5) 0 (Nat.zero_le _) (by omega)
 refine ⟨r,h1,?_⟩
 rcases h2 with ⟨h2,h3⟩|⟨h2,j,hj,_,h3⟩
 ·exact .inl ⟨h2,fun j hj=>h3 j hj (Nat.zero_le _)⟩
 ·exact .inr ⟨h2,j,hj,h3⟩
theorem adds_mem {xs:List S39} {rs:List Reg} (h:Adds xs rs):(∀ r∈rs,s39 r∈xs)∧(∀ s∈xs,∃ r∈rs,s39 r=s):=by
 induction h with
 | nil=>exact ⟨fun _ h=>absurd h List.not_mem_nil,fun _ h=>absurd h List.not_mem_nil⟩
 | @snoc xs rs x rg _ hm h1 h2 ih =>
  have e:s39 rg=x:=by unfold s39;rw [h1,h2]
  refine ⟨fun r hr=>?_,fun s hs=>?_⟩
  ·rcases (mem_ins _ _ _ r).1 hr with rfl|hr
   ·rw [e];simp
   ·exact List.mem_append_left _ (ih.1 r hr)
  ·rcases List.mem_append.1 hs with hs|hs
   ·obtain ⟨r,hr,he⟩:=ih.2 s hs
    exact ⟨r,(mem_ins _ _ _ r).2 (.inr hr),he⟩
   ·rw [List.mem_singleton.1 hs]
    exact ⟨rg,(mem_ins _ _ _ rg).2 (.inl rfl),e⟩
theorem adds_rising {xs:List S39} {rs:List Reg} (h:Adds xs rs):Rising rs:=by
 induction h with
 | nil=>trivial
 | @snoc xs rs x rg _ hm h1 h2 ih =>
  unfold mayAdd at hm
  rw [Bool.and_eq_true] at hm
  have hn:¬ ∃ r∈rs,r.first=x.f0:=by simpa using hm.1
  rw [← h1] at hn ⊢
  exact rising_ins rs rg ih hn
theorem may_fine {xs:List S39} {rs:List Reg} (h:Adds xs rs) (hF:∀ y∈xs,Fits y) (x:S39) (hx:Fits x):mayAdd rs x.f0 x.f1=true↔Fine xs x:=by
 obtain ⟨hA,hE⟩:=adds_good h hF
 have hR:=adds_rising h
 obtain ⟨m1,m2⟩:=adds_mem h
 obtain ⟨x0,x1,_,x2⟩:=hx
 constructor
 ·intro hm
  have hg:=good_ins rs ⟨0,x.f0,none,0,x.f1⟩ hA hE hm x0 x1 x2
  unfold mayAdd at hm
  rw [Bool.and_eq_true] at hm
  have hn:¬ ∃ r∈rs,r.first=x.f0:=by simpa using hm.1
  refine ⟨?_,fun s hs hc=>?_⟩
  ·unfold mayR
   rw [Bool.or_eq_true] at hm ⊢
   rcases hm.2 with h1|h1
   ·exact .inl (by rw [List.isEmpty_iff] at h1;rw [h1];rfl)
   ·rw [Bool.and_eq_true,Bool.and_eq_true] at h1
    exact .inr h1.1.1
  ·obtain ⟨r,hr,rfl⟩:=m2 s hs
   have hne:r.first≠x.f0:=fun e=>hn ⟨r,hr,e⟩
   simp only [s39] at hc
   have hap:=hg.1
   unfold Apt ins at hap
   rw [List.pairwise_append] at hap
   have hr2:r∈rs.take (place rs x.f0)∨r∈rs.drop (place rs x.f0):=by
    rw [← List.mem_append,List.take_append_drop];exact hr
   rcases hc with hc|⟨c1,c2,c3,c4⟩|⟨c1,c2,c3,c4⟩
   ·exact hne hc
   ·rcases hr2 with h2|h2
    ·have:=hap.2.2 r h2 _ List.mem_cons_self c3 c2
     simp only at this
     omega
    ·have:=(List.pairwise_cons.1 hap.2.1).1 r h2 c2 c3
     simp only at this
     omega
   ·rcases hr2 with h2|h2
    ·have:=hap.2.2 r h2 _ List.mem_cons_self c2 c3
     simp only at this
     omega
    ·have:=(List.pairwise_cons.1 hap.2.1).1 r h2 c3 c2
     simp only at this
     omega
 ·rintro ⟨hm,hc⟩
  have hcl:∀ r∈rs,¬ Clash r.first r.data.length x.f0 x.f1.length:=fun r hr=>hc _ (m1 r hr)
  have hn:¬ ∃ r∈rs,r.first=x.f0:=fun ⟨r,hr,e⟩=>hcl r hr (.inl e)
  unfold mayAdd
  rw [decide_eq_false hn,Bool.not_false,Bool.true_and,Bool.or_eq_true]
  rcases Nat.eq_zero_or_pos x.f1.length with hz|hp
  ·exact .inl (by rw [List.isEmpty_iff];exact List.length_eq_zero_iff.1 hz)
  ·right
   have hw:¬ wlast x.f0 x.f1.length<x.f0:=by
    unfold mayR at hm
    rw [Bool.or_eq_true] at hm
    rcases hm with h1|h1
    ·have:=beq_iff_eq.1 h1;omega
    ·simpa using h1
   have hend:=wlast_fits _ _ x0 x1 hp x2 hw
   have hwl:=wlast_eq _ _ x0 hp hend
   rw [Bool.and_eq_true,Bool.and_eq_true]
   refine ⟨⟨by simpa using hw,?_⟩,?_⟩
   ·unfold aheadBad
    cases hfd:fullDown rs (place rs x.f0) with
    | none=>rfl
    | some a =>
     obtain ⟨i,hi,hip,ha,hfa⟩:=fullDown_mem rs _ a hfd
     have ham:a∈rs:=by rw [← ha];exact List.getElem_mem hi
     have hal:=(full_iff a).1 hfa
     have hlt:=place_below rs x.f0 i hi hip
     rw [ha] at hlt
     obtain ⟨e0,_,_,e3⟩:=hE a ham
     have hna:=hcl a ham
     have hwa:=wlast_eq _ _ e0 hal (e3 hal)
     have:¬ x.f0≤wlast a.first a.data.length:=fun hle=>hna (.inr (.inr ⟨hlt,hal,hp,by omega⟩))
     simp [this]
   ·unfold behindBad
    cases hfu:fullUp rs (place rs x.f0) with
    | none=>rfl
    | some b =>
     obtain ⟨pre,post,hsp,hbl,_⟩:=fullUp_split rs _ b hfu
     have hbd:b∈rs.drop (place rs x.f0):=by rw [hsp];simp
     have hbm:b∈rs:=List.mem_of_mem_drop hbd
     obtain ⟨j,hj,hbj⟩:=List.getElem_of_mem hbd
     rw [List.getElem_drop] at hbj
     have hjl:place rs x.f0+j<rs.length:=by simp at hj;omega
     have hge:x.f0≤b.first:=by
      have h1:=place_at rs x.f0 (by omega)
      rcases Nat.eq_zero_or_pos j with hj0|hj0
      ·subst hj0
       have:rs[place rs x.f0+0]=rs[place rs x.f0]:=rfl
       rw [← hbj];exact h1
      ·have h2:=rising_at rs hR (place rs x.f0) (place rs x.f0+j) (by omega) hjl
       rw [← hbj];omega
     have hne:b.first≠x.f0:=fun e=>hn ⟨b,hbm,e⟩
     have hnb:=hcl b hbm
     have:¬ b.first≤wlast x.f0 x.f1.length:=fun hle=>hnb (.inr (.inl ⟨by omega,hp,hbl,by omega⟩))
     simp [this]
theorem adds_prefix {xs:List S39} {rs:List Reg} (h:Adds xs rs) (hF:∀ y∈xs,Fits y):∀ j (hj:j<xs.length),Fine (xs.take j) xs[j]:=by
 induction h with
 | nil=>intro j hj;exact absurd hj (Nat.not_lt_zero j)
 | @snoc xs rs x rg h0 hm h1 h2 ih =>
  intro j hj
  by_cases hlt:j<xs.length
  ·have:=ih (fun y hy=>hF y (List.mem_append_left _ hy)) j hlt
   rw [List.take_append_of_le_length (by omega),List.getElem_append_left hlt]
   exact this
  ·have e:j=xs.length:=by simp at hj;omega
   subst e
   rw [List.take_left',List.getElem_append_right (Nat.le_refl _)]
   ·simp only [Nat.sub_self,List.getElem_cons_zero]
    exact (may_fine h0 (fun y hy=>hF y (List.mem_append_left _ hy)) x (hF x (by simp))).1 hm
   ·rfl
theorem same_l0 (xs:List S39) (hl:xs.length≤1048576):∀ (k i:Nat),i≤xs.length→xs.length - i<k→spindlelaw20_SameRegions.l0 k xs xs (i:Int)=some true:=by
 intro k
 induction k with
 | zero=>intro i _ h;omega
 | succ k ih =>
  intro i hi hk
  simp only [spindlelaw20_SameRegions.l0]
  by_cases hlt:i<xs.length
  ·have hb:spindlelaw0_SameBytes.f (rd_T39 xs (i:Int)).f1 (rd_T39 xs (i:Int)).f1=some true:=by
    unfold spindlelaw0_SameBytes.f;simp
   rw [if_pos (by omega),if_pos (by omega),if_pos (by omega),if_pos trivial,hb]
   simp only [Option.bind_some]
   rw [if_pos trivial,w64 _ (by omega) (by omega)]
   have:=ih (i+1) (by omega) (by omega)
   rw [← this]
   rfl
  ·rw [if_neg (by omega)]
theorem same_eq (xs:List S39) (hl:xs.length≤1048576):spindlelaw20_SameRegions.f (xs.length+1) xs xs=some true:=by
 unfold spindlelaw20_SameRegions.f
 rw [if_pos rfl]
 exact same_l0 xs hl _ 0 (Nat.zero_le _) (by omega)
def Above (rs:List Reg) (k:Nat) (f:Int):Prop:=∀ h:k - 1<rs.length,0<k→(rs[k - 1]'h).first<f
def Best (xs:List S39) (rs:List Reg) (k i:Nat) (b:Int):Prop:=
 (b=-1∧∀ j (h:j<xs.length),j<i→¬ Above rs k xs[j].f0)∨(∃ m:Nat,b=(m:Int)∧∃ h:m<xs.length,Above rs k xs[m].f0∧∀ j (hj:j<xs.length),j<i→Above rs k xs[j].f0→xs[m].f0≤xs[j].f0)
theorem best_keep {xs:List S39} {rs:List Reg} {k i:Nat} {b:Int} (h:Best xs rs k i b) (hi:i<xs.length) (hn:¬ Above rs k xs[i].f0∨(∃ m:Nat,b=(m:Int)∧∃ hm:m<xs.length,xs[m].f0≤xs[i].f0)):Best xs rs k (i+1) b:=by
 rcases h with ⟨h1,h2⟩|⟨m,h1,hm,h2,h3⟩
 ·refine .inl ⟨h1,fun j hj hji=>?_⟩
  by_cases he:j=i
  ·subst he
   rcases hn with hn|⟨m,hb,_⟩
   ·exact hn
   ·omega
  ·exact h2 j hj (by omega)
 ·refine .inr ⟨m,h1,hm,h2,fun j hj hji hab=>?_⟩
  by_cases he:j=i
  ·subst he
   rcases hn with hn|⟨m2,hb,hm2,hle⟩
   ·exact absurd hab hn
   ·have e:m2=m:=by omega
    subst e;exact hle
  ·exact h3 j hj (by omega) hab
theorem best_new {xs:List S39} {rs:List Reg} {k i:Nat} {b:Int} (h:Best xs rs k i b) (hi:i<xs.length) (ha:Above rs k xs[i].f0) (hn:b=-1∨(∃ m:Nat,b=(m:Int)∧∃ hm:m<xs.length,xs[i].f0<xs[m].f0)):Best xs rs k (i+1) (i:Int):=by
 refine .inr ⟨i,rfl,hi,ha,fun j hj hji hab=>?_⟩
 by_cases he:j=i
 ·subst he;exact Int.le_refl _
 ·rcases h with ⟨h1,h2⟩|⟨m,h1,hm,h2,h3⟩
  ·exact absurd hab (h2 j hj (by omega))
  ·have h4:=h3 j hj (by omega) hab
   rcases hn with hn|⟨m2,hb,hm2,hlt⟩
   ·omega
   ·have e:m2=m:=by omega
    subst e;omega
theorem sort_l1 (xs:List S39) (rs:List Reg) (ha:Adds xs rs) (hx:∀ y∈xs,Small y) (hl:xs.length≤1048576) (k:Nat) (hk:k<rs.length) (F:Nat):∀ (d i:Nat) (b:Int),i+d=xs.length→Best xs rs k i b →
  spindleref20_Space_Regions.l1 (d+1+F) ((rs.map s39).take k) b (i:Int) xs=spindleref20_Space_Regions.l0 F ((rs.map s39).take (k+1)) xs:=by
 have hlen:=ha.len
 have hR:=adds_rising ha
 obtain ⟨m1,m2⟩:=adds_mem ha
 have hol:((rs.map s39).take k).length=k:=by simp;omega
 intro d
 induction d with
 | zero =>
  intro i b hi hb
  rw [show 0+1+F=F+1 by omega]
  simp only [spindleref20_Space_Regions.l1]
  rw [if_neg (by omega)]
  have hi':i=xs.length:=by omega
  obtain ⟨j0,hj0,he0⟩:=List.getElem_of_mem (m1 _ (List.getElem_mem hk))
  have hab0:Above rs k xs[j0].f0:=by
   intro h1 h2
   rw [he0]
   exact rising_at rs hR (k - 1) k (by omega) hk
  rcases hb with ⟨_,h2⟩|⟨m,rfl,hm,h2,h3⟩
  ·exact absurd hab0 (h2 j0 hj0 (by omega))
  ·have hle:=h3 j0 hj0 (by omega) hab0
   rw [he0] at hle
   obtain ⟨r,hr,hre⟩:=m2 _ (List.getElem_mem hm)
   obtain ⟨t,ht,rfl⟩:=List.getElem_of_mem hr
   have hf:rs[t].first=xs[m].f0:=by rw [← hre];rfl
   have hkt:t=k:=by
    have hle2:rs[t].first≤rs[k].first:=by rw [hf];exact hle
    rcases Nat.lt_trichotomy t k with h|h|h
    ·have h5:=h2 (by omega) (by omega)
     rw [← hf] at h5
     by_cases he:t=k - 1
     ·subst he;omega
     ·have:=rising_at rs hR t (k - 1) (by omega) (by omega);omega
    ·exact h
    ·have:=rising_at rs hR k t h ht;omega
   subst hkt
   rw [if_pos (by omega),if_pos (by omega),rd39 xs m hm,copied_eq _ _ (by have:=(hx _ (List.getElem_mem hm)).2;omega)]
   simp only [Option.bind_some]
   rw [if_pos (by rw [hol];omega)]
   congr 1
   rw [List.take_succ_eq_append_getElem (by simpa using hk),List.getElem_map,hre]
 | succ d ih =>
  intro i b hi hb
  rw [show d+1+1+F=(d+1+F)+1 by omega]
  have hix:i<xs.length:=by omega
  have hnext:∀ b',Best xs rs k (i+1) b'→spindleref20_Space_Regions.l1 (d+1+F) ((rs.map s39).take k) b' (wrap64 ((i:Int)+1)) xs=spindleref20_Space_Regions.l0 F ((rs.map s39).take (k+1)) xs:=fun b' hb'=>by
   rw [w64 _ (by omega) (by omega)]
   exact ih (i+1) b' (by omega) hb'
  simp only [spindleref20_Space_Regions.l1]
  rw [if_pos (by omega),hol]
  rcases Nat.eq_zero_or_pos k with hk0|hk0
  ·subst hk0
   have hab:Above rs 0 xs[i].f0:=fun _ h=>absurd h (by omega)
   rw [if_pos (by omega)]
   rcases hb with ⟨rfl,h2⟩|⟨m,rfl,hm,h2,h3⟩
   ·rw [if_pos (by omega)]
    exact hnext _ (best_new (.inl ⟨rfl,h2⟩) hix hab (.inl rfl))
   ·have hb:Best xs rs 0 i (m:Int):=.inr ⟨m,rfl,hm,h2,h3⟩
    rw [if_neg (by omega),if_pos (by omega),if_pos (by omega),if_pos (by omega),rd39 xs i hix,rd39 xs m hm]
    by_cases hlt:xs[i].f0<xs[m].f0
    ·rw [if_pos hlt];exact hnext _ (best_new hb hix hab (.inr ⟨m,rfl,hm,hlt⟩))
    ·rw [if_neg hlt];exact hnext _ (best_keep hb hix (.inr ⟨m,rfl,hm,by omega⟩))
  ·rw [if_neg (by omega),if_pos (by omega),w64 ((k:Int) - 1) (by omega) (by omega),if_pos (by omega),if_pos (by omega)]
   have hlast:rd_T39 ((rs.map s39).take k) ((k:Int) - 1)=s39 (rs[k - 1]'(by omega)):=by
    rw [show ((k:Int) - 1)=((k - 1:Nat):Int) by omega,rd39 _ (k - 1) (by rw [hol];omega),List.getElem_take,List.getElem_map]
   rw [hlast,rd39 xs i hix]
   by_cases hab:xs[i].f0 > (s39 (rs[k - 1]'(by omega))).f0
   ·rw [if_pos hab]
    have hab':Above rs k xs[i].f0:=fun _ _=>hab
    rcases hb with ⟨rfl,h2⟩|⟨m,rfl,hm,h2,h3⟩
    ·rw [if_pos (by omega)]
     exact hnext _ (best_new (.inl ⟨rfl,h2⟩) hix hab' (.inl rfl))
    ·have hb:Best xs rs k i (m:Int):=.inr ⟨m,rfl,hm,h2,h3⟩
     rw [if_neg (by omega),if_pos (by omega),if_pos (by omega),rd39 xs m hm]
     by_cases hlt:xs[i].f0<xs[m].f0
     ·rw [if_pos hlt];exact hnext _ (best_new hb hix hab' (.inr ⟨m,rfl,hm,hlt⟩))
     ·rw [if_neg hlt];exact hnext _ (best_keep hb hix (.inr ⟨m,rfl,hm,by omega⟩))
   ·rw [if_neg hab]
    exact hnext _ (best_keep hb hix (.inl fun h=>hab (h (by omega) hk0)))
theorem sort_l0 (xs:List S39) (rs:List Reg) (ha:Adds xs rs) (hx:∀ y∈xs,Small y) (hl:xs.length≤1048576):∀ (d k:Nat),k+d=rs.length→spindleref20_Space_Regions.l0 (d*(xs.length+2)+1) ((rs.map s39).take k) xs=some (rs.map s39):=by
 have hlen:=ha.len
 intro d
 induction d with
 | zero =>
  intro k hk
  simp only [spindleref20_Space_Regions.l0,Nat.zero_mul,Nat.zero_add]
  rw [if_neg (by simp;omega),List.take_of_length_le (by simp;omega)]
 | succ d ih =>
  intro k hk
  rw [show (d+1)*(xs.length+2)+1=(xs.length+1+(d*(xs.length+2)+1))+1 by rw [Nat.add_mul];omega]
  simp only [spindleref20_Space_Regions.l0]
  rw [if_pos (by simp;omega)]
  have h:=sort_l1 xs rs ha hx hl k (by omega) (d*(xs.length+2)+1) xs.length 0 (-1) (by omega) (.inl ⟨rfl,fun j _ h=>absurd h (Nat.not_lt_zero j)⟩)
  exact h.trans (ih (k+1) (by omega))
theorem sort_eq (xs:List S39) (rs:List Reg) (ha:Adds xs rs) (hx:∀ y∈xs,Small y) (hl:xs.length≤1048576):∃ k,spindleref20_Space_Regions.f k xs=some (rs.map s39):=
 ⟨_,sort_l0 xs rs ha hx hl rs.length 0 (by omega)⟩
end Go.Proofs.Ythmeojeehemlaaa.Mem
end
section
namespace Go.Proofs.Ythmeojeehemlaaa.Mem
open Go.RowKit Go.Lib Go.Proofs.YthmeojeehemlaaaW.PrintWords
open Go.Proofs.Ythmeojeehemlaaa.PM
attribute [local go_sem] isSome_setCell
theorem z106v:∀ w,(zeroValue 106).run Try.prog w=.ok (.pointer none) w:=fun w=>by
 obtain ⟨i0,hi0,h0,h1,h2⟩:=info_parts i106
 simp [Go.zeroValue,typeInfo,hi0,h0]
def rem {α:Type} (rs:List α) (k:Nat):List α:=rs.take k ++ rs.drop (k+1)
theorem rem_length {α:Type} (rs:List α) (k:Nat) (h:k<rs.length):(rem rs k).length=rs.length - 1:=by unfold rem;simp;omega
theorem rem_map {α β:Type} (g:α→β) (rs:List α) (k:Nat):(rem rs k).map g=rem (rs.map g) k:=by unfold rem;simp
theorem rem_sub {α:Type} (rs:List α) (k:Nat):(rem rs k).Sublist rs:=by
 unfold rem
 have h:(rs.take k ++ rs.drop (k+1)).Sublist (rs.take k ++ rs.drop k):=List.Sublist.append (List.Sublist.refl _) (List.drop_sublist_drop_left rs (by omega))
 rwa [List.take_append_drop] at h
theorem rem_get {α:Type} (rs:List α) (k i:Nat) (hk:k<rs.length):(rem rs k)[i]?=if i<k then rs[i]? else rs[i+1]?:=by
 unfold rem
 split
 ·rename_i h
  rw [List.getElem?_append_left (by simp;omega),List.getElem?_take,if_pos h]
 ·rename_i h
  rw [List.getElem?_append_right (by simp;omega),List.getElem?_drop]
  congr 1;simp;omega
theorem delete_ (w:World) (P:Option Addr) (cap:Nat) (qs:List Value) (k:Nat) (hp:PRow w P cap qs) (hk:k<qs.length) :
  Calls Try.prog 75 #[.slice P qs.length cap,.int .i64 k,.int .i64 ((k:Int)+1)] w fun e w'=>e=.returned (.slice P (qs.length - 1) cap)∧PRow w' P cap (rem qs k)∧Moved w w' P P:=by
 obtain ⟨i0,hi0,hz0,hz1,hz2⟩:=info_parts i106
 obtain ⟨n,hn⟩:∃ n,n=qs.length:=⟨_,rfl⟩
 rcases hp.row with ⟨rfl,rfl⟩|⟨p,cs,rfl,hb,hcs,hat⟩
 ·have:=hp.len;omega
 have hcap:=hp.len
 have hsm:=hp.small
 have hone:=hp.one
 rw [← hn] at hk hcap ⊢
 obtain ⟨news,hnews⟩:∃ news,news=qs.drop (k+1):=⟨_,rfl⟩
 have hlen:news.length=n - (k+1):=by rw [hnews,List.length_drop,hn]
 obtain ⟨A,hA,hsrc⟩:∃ A:Addr,(if cap=k+1 then some (⟨p,0,none⟩:Addr) else some ⟨p,k+1,none⟩)=some A∧Hid (∀ t u,news[t]?=some u→w.drew.cell? (A.add t)=some u):=by
  by_cases h:cap=k+1
  ·refine ⟨⟨p,0,none⟩,by simp [h],fun t u hu=>?_⟩
   have h0:news.length=0:=by rw [hlen];omega
   rw [List.length_eq_zero_iff.1 h0] at hu
   simp at hu
  ·refine ⟨⟨p,k+1,none⟩,by simp [h],fun t u hu=>?_⟩
   have ht:t<n - (k+1):=by
    have:=(List.getElem?_eq_some_iff.1 hu).1
    rwa [hlen] at this
   rw [Addr.add_lit,hb.drew.cell,hat (k+1+t) (by omega)]
   rw [hnews,List.getElem?_drop] at hu
   exact hu
 have s1:Hid (news.length=(n - (k+1))*1):=by rw [Nat.mul_one];exact hlen
 have s2:Hid (∀ u∈news,u.oneCell'=true):=fun u hu=>hone u (List.mem_of_mem_drop (by rw [← hnews];exact hu))
 have s3:Hid (∀ t,t<news.length→(w.drew.cell? ⟨p,0+k*1+t,none⟩).isSome=true∧w.drew.frozen? ⟨p,0+k*1+t,none⟩=false):=by
  intro t ht
  rw [hlen] at ht
  exact ⟨by rw [hb.drew.cell,Array.getElem?_eq_getElem (by omega)];rfl,hb.drew.frozen _⟩
 obtain ⟨W1,hW1⟩:∃ W1,W1=w.drew.setCells p (0+k*1) news:=⟨_,rfl⟩
 obtain ⟨c1,b1,z1,i1,o1⟩:=Blk.setCells news (0+k*1) w.drew cs hb.drew (by omega)
 rw [← hW1] at b1
 have hcl:∀ ty,(Builtin.clear_ #[59] ty #[.slice (some ⟨p,0+(k+(n - (k+1))),none⟩) (n - (k+(n - (k+1)))) (cap - (k+(n - (k+1))))]).run Try.prog W1=.ok (.tuple #[]) (W1.setCells p (0+(k+(n - (k+1)))) (List.replicate (n - (k+(n - (k+1)))) (.pointer none))):=
  fun ty=>Lib.run_clear_slice W1 _ _ ty _ Try.underlying59 z106v rfl rfl p (0+(k+(n - (k+1)))) _ _ (by omega) (fun t ht=>by rw [b1.cell,Array.getElem?_eq_getElem (by omega)];rfl) (fun t ht=>b1.frozen _)
 rw [Nat.zero_add] at hcl
 obtain ⟨c2,b2,z2,i2,o2⟩:=Blk.setCells (List.replicate (n - (k+(n - (k+1)))) (.pointer none)) (k+(n - (k+1))) W1 c1 b1 (by simp;omega)
 have FIN:=Lib.hid (show PRow (W1.setCells p (k+(n - (k+1))) (List.replicate (n - (k+(n - (k+1)))) (.pointer none))) (some ⟨p,0,none⟩) cap (rem qs k)∧Moved w (W1.setCells p (k+(n - (k+1))) (List.replicate (n - (k+(n - (k+1)))) (.pointer none))) (some ⟨p,0,none⟩) (some ⟨p,0,none⟩) from by
  refine ⟨⟨by rw [rem_length _ _ (by omega)];omega,hsm,fun v hv=>hone v ((rem_sub qs k).subset hv),.inr ⟨p,c2,rfl,b2,by omega,fun i hi=>?_⟩⟩,⟨fun g t ds ht h=>?_,?_,fun F hB hB2=>⟨?_,fun q hq=>hB2 q hq⟩⟩⟩
  ·rw [rem_length _ _ (by omega)] at hi
   rw [rem_get qs k i (by omega),o2 i (Or.inl (by omega))]
   split
   ·rw [o1 i (Or.inl (by omega)),hat i (by omega)]
   ·have hj:=i1 (i - k) (by omega)
    rw [show 0+k*1+(i - k)=i by omega] at hj
    rw [hj,hnews,List.getElem?_drop]
    congr 1;omega
  ·have hne:g≠p:=fun e=>ht (by subst e;exact h.uniq hb)
   rw [hW1]
   exact Blk.setCells_far hne _ _ _ _ (Blk.setCells_far hne _ _ _ _ h.drew)
  ·rw [hW1]
   exact (below_sets (Nat.zero_le p) _ _ _ (below_sets (Nat.zero_le p) _ _ _ (below_drew (Below.refl 0 w)))).size
  ·rw [hW1]
   exact chg_sets (hB2 _ rfl) _ _ _ (chg_sets (hB2 _ rfl) _ _ _ (chg_drew (Chg.refl F w))))
 have hW:Hid (W1=w.drew.setCells p (0+k*1) news):=hW1
 have hic:k≤cap:=by omega
 have hjc:k+1≤cap:=by omega
 have hne1:¬ ((k:Int)=(k:Int)+1):=by omega
 have hk1:(0:Int)≤(k:Int)+1:=by omega
 have hk2:(k:Int)+1≤(n:Int):=by omega
 have hN:=Lib.hid hn
 clear hW1 hb hcs hat hnews hlen b1 z1 i1 o1 b2 z2 i2 o2 hn hone hp
 go_enter Try.func75,Try.ntmps75
 go_wp2_with fail
 go_region_law (refine step_append_room rfl (.tmp 22) (.tmp 25) 59 rfl 106 i0 1 Try.underlying59 hi0 hz1 p 0 k cap (by simp [Act.eval,Act.put]) A (n - (k+1)) (cap - (k+1)) news (by simp [Act.eval,Act.put]) s1.out hsrc.out s2.out (by omega) s3.out ?_;rw [← hW.out])
 go_wp2
 go_ret
 exact ⟨by rw [show n - 1=k+(n - (k+1)) by omega];rfl,FIN.out⟩
theorem rising_sub {a b:List Reg} (h:a.Sublist b):Rising b→Rising a:=by
 induction h with
 | slnil=>exact fun h=>h
 | cons q h ih=>exact fun hr=>ih hr.2
 | cons_cons q h ih=>exact fun hr=>⟨fun p hp=>hr.1 p (h.subset hp),ih hr.2⟩
theorem StF.removed {F:Nat→Prop} {w w1:World} {s:Nat} {rs:List Reg} {P:Option Addr} {cap:Nat} (h:StF F w s rs) (hup:∀ k,w.heap.size≤k→F k) (hsP:Blk w s 61 #[.slice P rs.length cap]) (hrow:RowAt w P cap rs) (hPB:∀ p,P=some p→F p.block) (k:Nat) (hk:k<rs.length)
  (hp:PRow w1 P cap (rem (rs.map ptrV) k)) (hm:Moved w w1 P P) :
  StF F (w1.setCell ⟨s,0,none⟩ (.slice P (rs.length - 1) cap)) s (rem rs k)∧Chg F w (w1.setCell ⟨s,0,none⟩ (.slice P (rs.length - 1) cap)):=by
 obtain ⟨hbl,hP'⟩:=hm.chg F hup hPB
 have hs1:Blk w1 s 61 #[.slice P rs.length cap]:=hm.far _ _ _ (by decide) hsP
 have hs2:=hs1.set_ 0 (.slice P (rs.length - 1) cap)
 have far:∀ g t cs,t≠106→t≠61→Blk w g t cs→Blk (w1.setCell ⟨s,0,none⟩ (.slice P (rs.length - 1) cap)) g t cs:=fun g t cs h1 h2 hb=>by
  refine (hm.far g t cs h1 hb).far ?_ _
  intro e
  refine h2 ?_
  rw [← (show s=g from e)] at hb
  exact hb.uniq hsP
 have regOf:∀ q,RegAt w q→RegAt (w1.setCell ⟨s,0,none⟩ (.slice P (rs.length - 1) cap)) q:=fun q hq=>by
  refine ⟨far _ _ _ (by decide) (by decide) hq.blk,hq.len,hq.small,hq.first0,hq.first1,fun hp=>?_⟩
  obtain ⟨d,cs,e,hd,hl,hc⟩:=hq.row hp
  exact ⟨d,cs,e,far _ _ _ (by decide) (by decide) hd,hl,hc⟩
 have hsub:=(rem_sub rs k).subset
 rw [← rem_map] at hp
 have hl:=rem_length rs k hk
 refine ⟨⟨⟨P,cap,?_,⟨by rw [hl];have:=hrow.big;omega,by simpa using hp.len,hp.small,?_,fun q hq=>regOf q (hrow.regs q (hsub hq))⟩,hP'⟩,h.base,fun q hq=>h.data q (hsub hq),h.apart.sublist (rem_sub rs k),rising_sub (rem_sub rs k) h.rising,fun q hq=>h.bytes q (hsub hq),fun q hq=>h.regs q (hsub hq)⟩,chg_set h.base hbl 0 _⟩
 ·rw [hl];exact hs2
 ·rcases hp.row with hn|⟨p,cs,e,hb,hsz,hat⟩
  ·exact .inl hn
  ·refine .inr ⟨p,cs,e,hb.far ?_ _,hsz,fun i hi=>?_⟩
   ·intro e2
    rw [← (show s=p from e2)] at hb
    exact absurd (hb.uniq hs1) (by decide)
   ·rw [hat i (by simpa using hi),List.getElem?_map,List.getElem?_eq_getElem hi];rfl
def RemRes (F:Nat→Prop) (w:World) (s:Nat) (rs:List Reg) (x:Int) (e:Ending) (w':World):Prop:=
 if (∃ r∈rs,r.first=x) then e=.returned (.int .i64 0)∧Chg F w w'∧StF F w' s (rem rs (place rs x))
 else e=.returned (.int .i64 201)∧Chg F w w'∧StF F w' s rs
theorem remove_F (F:Nat→Prop) (w:World) (s:Nat) (rs:List Reg) (x:Int) (h:StF F w s rs) (hup:∀ k,w.heap.size≤k→F k) :
  Calls Try.prog 43 #[.pointer (some ⟨s,0,none⟩),.int .u64 x] w fun e w'=>RemRes F w s rs x e w':=by
 have HST:=Lib.hid h
 have HUP:=Lib.hid hup
 have HS:=Lib.hid h.space
 have HR:=Lib.hid h.rising
 obtain ⟨P,cap,hsp,hrow,hPB⟩:=h.sp
 have cs0:=hsp.cell 0
 simp only [List.getElem?_toArray,List.getElem?_cons_zero] at cs0
 have HSP:=Lib.hid hsp
 have HROW:=Lib.hid hrow
 have HPB:=Lib.hid hPB
 obtain ⟨K,hK⟩:∃ K,K=place rs x:=⟨_,rfl⟩
 have HK:=Lib.hid hK
 have hKs:K≤rs.length:=by rw [hK];exact place_le rs x
 have hbig:=hrow.big
 have hw1:IntKind.i64.wrap ((K:Int)+1)=(K:Int)+1:=by rw [IntKind.wrap_i64];omega
 cases hT:decide (∃ r∈rs,r.first=x) with
 | true =>
  have HT:=Lib.hid hT
  have hKlt:K<rs.length:=by
   obtain ⟨h1,_⟩:=(there_iff rs x HR.out).1 (of_decide_eq_true hT)
   rw [hK];exact h1
  have HDEL:=Lib.hid (show Calls Try.prog 75 #[.slice P rs.length cap,.int .i64 K,.int .i64 ((K:Int)+1)] w fun e w'=>e=.returned (.slice P (rs.length - 1) cap)∧PRow w' P cap (rem (rs.map ptrV) K)∧Moved w w' P P from by
   have h1:=delete_ w P cap (rs.map ptrV) K hrow.prow (by simpa using hKlt)
   rw [List.length_map] at h1
   exact h1)
  clear h hup hsp hrow hPB hT hK
  go_enter Try.func43,Try.ntmps43
  go_wp2_with (first|(go_at_call 58;refine (find_ _ _ rs _ HS.out HR.out).mono ?_;rintro e' w' ⟨rfl,rfl⟩;rw [← HK.out,HT.out])|(go_at_call 75;refine HDEL.out.mono ?_;rintro e' w' ⟨rfl,hpr,hmv⟩;have HPR:=Lib.hid hpr;have HMV:=Lib.hid hmv;have hs1:=hmv.far _ _ _ (by decide) HSP.out;have ss0:=hs1.cell 0;have sf0:=hs1.frozen 0;simp only [List.getElem?_toArray,List.getElem?_cons_zero] at ss0;clear hpr hmv hs1))
  go_ret
  unfold RemRes
  rw [if_pos (of_decide_eq_true HT.out)]
  have h2:=StF.removed HST.out HUP.out HSP.out HROW.out HPB.out K hKlt HPR.out HMV.out
  exact ⟨rfl,h2.2,by rw [← HK.out];exact h2.1⟩
 | false =>
  have HT:=Lib.hid hT
  clear h hup hsp hrow hPB hT hK
  go_enter Try.func43,Try.ntmps43
  go_wp2_with (first|(go_at_call 58;refine (find_ _ _ rs _ HS.out HR.out).mono ?_;rintro e' w' ⟨rfl,rfl⟩;rw [← HK.out,HT.out]))
  go_ret
  unfold RemRes
  rw [if_neg (of_decide_eq_false HT.out)]
  exact ⟨rfl,Chg.refl _ _,HST.out⟩
end Go.Proofs.Ythmeojeehemlaaa.Mem
end
section
namespace Go.Proofs.Ythmeojeehemlaaa.Mem
open Go.RowKit Go.Lib Go.Proofs.YthmeojeehemlaaaW.PrintWords
open Go.Proofs.Ythmeojeehemlaaa.PM
attribute [local go_sem] isSome_setCell
def bytesOf (rs:List Reg) (x n:Int):List Int × Int:=
 if n<0 then ([],200) else if n=0 then ([],0) else match viewOf rs x n.toNat with
  | some (r,o)=>((r.data.drop o).take n.toNat,0)
  | none=>([],200)
theorem C_nil (w:World):Kd.C (Kd.int .u8) w none 0 []:=⟨rfl,by decide,fun h=>absurd h (by simp)⟩
def putOf (rs:List Reg) (x:Int) (bs:List Int):Option (List Reg):=
 if bs.length=0 then some rs else match viewOf rs x bs.length with
  | some (r,o)=>some (rs.map (upd r o bs))
  | none=>none
def PutRes (r:Option (List Reg)) (F:Nat→Prop) (w:World) (s:Nat) (e:Ending) (w':World):Prop:=
 match r with
 | some rs'=>e=.returned (.int .i64 0)∧StF F w' s rs'∧Chg F w w'
 | none=>e=.returned (.int .i64 200)∧Drawn0 w w'
theorem i5:(Try.prog.info? 5).map (·.size)=some 1:=by kernel_rfl
theorem put_F (F:Nat→Prop) (w:World) (s:Nat) (rs:List Reg) (x:Int) (A:Option Addr) (n c:Nat) (bs:List Int) (h:StF F w s rs) (hC:Kd.C (Kd.int .u8) w A n bs) (hbs:Bytes bs) (hx0:0≤x) (hx1:x<18446744073709551616) (hn1:n<9223372036854775808) :
  Calls Try.prog 50 #[.pointer (some ⟨s,0,none⟩),.int .u64 x,.slice A n c] w fun e w'=>PutRes (putOf rs x bs) F w s e w':=by
 have hl:=hC.1
 by_cases hz:n=0
 ·have hp:putOf rs x bs=some rs:=by unfold putOf;rw [if_pos (by omega)]
  rw [hp]
  subst hz
  have HS:=Lib.hid h
  clear h hC hl
  go_enter Try.func50,Try.ntmps50
  go_wp2
  go_ret
  exact ⟨rfl,HS.out,Chg.refl _ _⟩
 have hz1:((n:Int) == 0)=false:=by rw [beq_eq_false_iff_ne];omega
 have hz2:(n == 0)=false:=by rw [beq_eq_false_iff_ne];exact hz
 have hz3:¬ (n:Int)=0:=by omega
 have hn0:1≤n:=by omega
 have HP:=Lib.hid (show putOf rs x bs=match viewOf rs x n with
  | some (r,o)=>some (rs.map (upd r o bs))
  | none=>none from by unfold putOf;rw [if_neg (by omega),hl])
 have HST:=Lib.hid h
 have HS:=Lib.hid h.space
 have HR:=Lib.hid h.rising
 have HX:=Lib.hid (And.intro hx0 hx1)
 cases hv:viewOf rs x n with
 | none =>
  rw [HP.out,hv]
  have HV:=Lib.hid hv
  clear h hC hl hx0 hx1 hv HP
  go_enter Try.func50,Try.ntmps50
  go_wp2_with (first|(go_at_call 23;refine (view_ _ _ rs x n HS.out HR.out hn0 hn1 HX.out.1 HX.out.2).mono ?_;rintro e' w' ⟨rfl,⟨nd2,rfl⟩⟩;rw [HV.out,show viewVal n none=.tuple #[.slice none 0 0,.int .i64 200] from rfl]))
  go_ret
  exact ⟨rfl,⟨_,rfl⟩⟩
 | some ro =>
  obtain ⟨r,o⟩:=ro
  obtain ⟨hm,hlen,hxo⟩:=viewOf_some rs x n r o hv
  clear hxo
  obtain ⟨P,cap,hbk,hrow⟩:=h.space
  have hreg:=hrow.regs r hm
  obtain ⟨d,cs,hA,hB,hsz,hdat⟩:=hreg.row (by omega)
  obtain ⟨_,hcc⟩:=Kd.C_byte hC
  obtain ⟨ad,_,hAd,_,_,_⟩:=Kd.C_get hC (0:Int) 0 (by omega) (by omega)
  subst hAd
  have hcl:=hcc ad rfl
  have hcp:∀ q ty dc,(Builtin.copy_ #[37,37] ty #[.slice (some ⟨d,o,none⟩) n dc,.slice (some ad) n c]).run Try.prog (w.drewN q)=.ok (goInt (bs.map (Value.int .u8)).length) ((w.drewN q).setCells d o (bs.map (Value.int .u8))):=fun q ty dc =>
   run_copy_cells (w.drewN q) _ _ ty 5 d o n dc ad n c (bs.map (Value.int .u8)) Try.underlying37 i5 (by rw [List.length_map,hl];simp)
    (fun j v hj=>by
     rw [List.getElem?_map] at hj
     obtain ⟨b,hb,rfl⟩:=Option.map_eq_some_iff.1 hj
     obtain ⟨hjl,hjb⟩:=List.getElem?_eq_some_iff.1 hb
     have:=hcl j hjl
     rw [List.getD_eq_getElem?_getD,hb] at this
     exact this)
    (fun j hj=>by rw [List.length_map] at hj;rw [(hB.drewN q).cell,Array.getElem?_eq_getElem (by omega)];rfl) (fun j hj=>(hB.drewN q).frozen _)
    (fun v hv=>by obtain ⟨b,_,rfl⟩:=List.mem_map.1 hv;rfl)
  have HFIN:=Lib.hid (show ∀ q,StF F ((w.drewN q).setCells d o (bs.map (Value.int .u8))) s (rs.map (upd r o bs))∧Chg F w ((w.drewN q).setCells d o (bs.map (Value.int .u8))) from fun q=>by
   obtain ⟨c1,b1,s1,i1,o1⟩:=Blk.setCells (bs.map (Value.int .u8)) o (w.drewN q) cs (hB.drewN q) (by rw [List.length_map];omega)
   have hO:Only w ((w.drewN q).setCells d o (bs.map (Value.int .u8))) d:=by
    have:∀ (vs:List Value) (o:Nat) (w':World),Only w w' d→Only w (w'.setCells d o vs) d:=by
     intro vs
     induction vs with
     | nil=>exact fun _ _ h=>h
     | cons v vs ih=>exact fun o w' h=>ih (o+1) _ (h.set_ o v)
    exact this _ _ _ ⟨rfl,rfl,rfl,rfl,fun _ _=>rfl⟩
   exact HST.out.stored r hm o bs hbs (by omega) (by omega) d hA cs c1 hB hdat hsz b1 s1 (fun j hj=>by rw [i1 j (by rw [List.length_map];exact hj),List.getElem?_map]) (fun j hj=>o1 j (by rw [List.length_map];exact hj)) hO)
  rw [HP.out,hv]
  have HV:=Lib.hid hv
  have HVV:=Lib.hid (viewVal_some n r o d hA)
  clear hrow hbk hreg hA hB hsz hdat h hx0 hx1 hv hm hlen HP hC hl hcl hcc
  go_enter Try.func50,Try.ntmps50
  go_wp2_with (first|(go_at_call 23;refine (view_ _ _ rs x n HS.out HR.out hn0 hn1 HX.out.1 HX.out.2).mono ?_;rintro e' w' ⟨rfl,⟨nd2,rfl⟩⟩;rw [HV.out,HVV.out]))
  go_ret
  exact ⟨rfl,HFIN.out _⟩
end Go.Proofs.Ythmeojeehemlaaa.Mem
end
section
namespace Go.Proofs.Ythmeojeehemlaaa.Mem
open Go.RowKit Go.Proofs.YthmeojeehemlaaaW.PrintWords
open Go.Proofs.Ythmeojeehemlaaa.PM
structure Rel (xs:List S39) (rs:List Reg):Prop where
 perm:(rs.map s39).Perm xs
 apt:Apt rs
 ends:Ends rs
 rising:Rising rs
theorem Rel.len {xs:List S39} {rs:List Reg} (h:Rel xs rs):rs.length=xs.length:=by
 have:=h.perm.length_eq
 simpa using this
theorem rel_good {xs:List S39} {rs:List Reg} (h:Rel xs rs) (_:∀ y∈xs,Fits y):Apt rs∧Ends rs:=⟨h.apt,h.ends⟩
theorem rel_rising {xs:List S39} {rs:List Reg} (h:Rel xs rs):Rising rs:=h.rising
theorem rel_mem {xs:List S39} {rs:List Reg} (h:Rel xs rs):(∀ r∈rs,s39 r∈xs)∧(∀ s∈xs,∃ r∈rs,s39 r=s):=by
 refine ⟨fun r hr=>h.perm.subset (List.mem_map.2 ⟨r,hr,rfl⟩),fun s hs=>?_⟩
 obtain ⟨r,hr,e⟩:=List.mem_map.1 (h.perm.symm.subset hs)
 exact ⟨r,hr,e⟩
theorem ins_perm (rs:List Reg) (k:Nat) (r:Reg):(ins rs k r).Perm (rs ++ [r]):=by
 unfold ins
 refine List.perm_middle.trans ?_
 rw [List.take_append_drop]
 exact (List.perm_append_singleton r rs).symm
theorem Rel.add {xs:List S39} {rs:List Reg} (h:Rel xs rs) (x:S39) (hx:Fits x) (hm:mayAdd rs x.f0 x.f1=true) (rg:Reg) (h1:rg.first=x.f0) (h2:rg.data=x.f1):Rel (xs ++ [x]) (ins rs (place rs x.f0) rg):=by
 have e:s39 rg=x:=by unfold s39;rw [h1,h2]
 obtain ⟨f0,f1,_,f3⟩:=hx
 have hg:=good_ins rs rg h.apt h.ends (by rw [h1,h2];exact hm) (by rw [h1];exact f0) (by rw [h1];exact f1) (by rw [h2];exact f3)
 rw [← h1]
 refine ⟨?_,hg.1,hg.2,?_⟩
 ·refine ((ins_perm rs _ rg).map s39).trans ?_
  rw [List.map_append,List.map_singleton,e]
  exact h.perm.append_right [x]
 ·unfold mayAdd at hm
  rw [Bool.and_eq_true] at hm
  have hn:¬ ∃ r∈rs,r.first=x.f0:=by simpa using hm.1
  rw [← h1] at hn
  exact rising_ins rs rg h.rising hn
theorem Adds.rel {xs:List S39} {rs:List Reg} (h:Adds xs rs) (hF:∀ y∈xs,Fits y):Rel xs rs:=by
 induction h with
 | nil=>exact ⟨List.Perm.refl _,List.Pairwise.nil,fun _ h=>absurd h List.not_mem_nil,trivial⟩
 | @snoc xs rs x rg _ hm h1 h2 ih=>exact (ih (fun y hy=>hF y (List.mem_append_left _ hy))).add x (hF x (by simp)) hm rg h1 h2
theorem may_fineR {xs:List S39} {rs:List Reg} (h:Rel xs rs) (hF:∀ y∈xs,Fits y) (x:S39) (hx:Fits x):mayAdd rs x.f0 x.f1=true↔Fine xs x:=by
 obtain ⟨hA,hE⟩:=rel_good h hF
 have hR:=rel_rising h
 obtain ⟨m1,m2⟩:=rel_mem h
 obtain ⟨x0,x1,_,x2⟩:=hx
 constructor
 ·intro hm
  have hg:=good_ins rs ⟨0,x.f0,none,0,x.f1⟩ hA hE hm x0 x1 x2
  unfold mayAdd at hm
  rw [Bool.and_eq_true] at hm
  have hn:¬ ∃ r∈rs,r.first=x.f0:=by simpa using hm.1
  refine ⟨?_,fun s hs hc=>?_⟩
  ·unfold mayR
   rw [Bool.or_eq_true] at hm ⊢
   rcases hm.2 with h1|h1
   ·exact .inl (by rw [List.isEmpty_iff] at h1;rw [h1];rfl)
   ·rw [Bool.and_eq_true,Bool.and_eq_true] at h1
    exact .inr h1.1.1
  ·obtain ⟨r,hr,rfl⟩:=m2 s hs
   have hne:r.first≠x.f0:=fun e=>hn ⟨r,hr,e⟩
   simp only [s39] at hc
   have hap:=hg.1
   unfold Apt ins at hap
   rw [List.pairwise_append] at hap
   have hr2:r∈rs.take (place rs x.f0)∨r∈rs.drop (place rs x.f0):=by
    rw [← List.mem_append,List.take_append_drop];exact hr
   rcases hc with hc|⟨c1,c2,c3,c4⟩|⟨c1,c2,c3,c4⟩
   ·exact hne hc
   ·rcases hr2 with h2|h2
    ·have:=hap.2.2 r h2 _ List.mem_cons_self c3 c2
     simp only at this
     omega
    ·have:=(List.pairwise_cons.1 hap.2.1).1 r h2 c2 c3
     simp only at this
     omega
   ·rcases hr2 with h2|h2
    ·have:=hap.2.2 r h2 _ List.mem_cons_self c2 c3
     simp only at this
     omega
    ·have:=(List.pairwise_cons.1 hap.2.1).1 r h2 c3 c2
     simp only at this
     omega
 ·rintro ⟨hm,hc⟩
  have hcl:∀ r∈rs,¬ Clash r.first r.data.length x.f0 x.f1.length:=fun r hr=>hc _ (m1 r hr)
  have hn:¬ ∃ r∈rs,r.first=x.f0:=fun ⟨r,hr,e⟩=>hcl r hr (.inl e)
  unfold mayAdd
  rw [decide_eq_false hn,Bool.not_false,Bool.true_and,Bool.or_eq_true]
  rcases Nat.eq_zero_or_pos x.f1.length with hz|hp
  ·exact .inl (by rw [List.isEmpty_iff];exact List.length_eq_zero_iff.1 hz)
  ·right
   have hw:¬ wlast x.f0 x.f1.length<x.f0:=by
    unfold mayR at hm
    rw [Bool.or_eq_true] at hm
    rcases hm with h1|h1
    ·have:=beq_iff_eq.1 h1;omega
    ·simpa using h1
   have hend:=wlast_fits _ _ x0 x1 hp x2 hw
   have hwl:=wlast_eq _ _ x0 hp hend
   rw [Bool.and_eq_true,Bool.and_eq_true]
   refine ⟨⟨by simpa using hw,?_⟩,?_⟩
   ·unfold aheadBad
    cases hfd:fullDown rs (place rs x.f0) with
    | none=>rfl
    | some a =>
     obtain ⟨i,hi,hip,ha,hfa⟩:=fullDown_mem rs _ a hfd
     have ham:a∈rs:=by rw [← ha];exact List.getElem_mem hi
     have hal:=(full_iff a).1 hfa
     have hlt:=place_below rs x.f0 i hi hip
     rw [ha] at hlt
     obtain ⟨e0,_,_,e3⟩:=hE a ham
     have hna:=hcl a ham
     have hwa:=wlast_eq _ _ e0 hal (e3 hal)
     have:¬ x.f0≤wlast a.first a.data.length:=fun hle=>hna (.inr (.inr ⟨hlt,hal,hp,by omega⟩))
     simp [this]
   ·unfold behindBad
    cases hfu:fullUp rs (place rs x.f0) with
    | none=>rfl
    | some b =>
     obtain ⟨pre,post,hsp,hbl,_⟩:=fullUp_split rs _ b hfu
     have hbd:b∈rs.drop (place rs x.f0):=by rw [hsp];simp
     have hbm:b∈rs:=List.mem_of_mem_drop hbd
     obtain ⟨j,hj,hbj⟩:=List.getElem_of_mem hbd
     rw [List.getElem_drop] at hbj
     have hjl:place rs x.f0+j<rs.length:=by simp at hj;omega
     have hge:x.f0≤b.first:=by
      have h1:=place_at rs x.f0 (by omega)
      rcases Nat.eq_zero_or_pos j with hj0|hj0
      ·subst hj0
       have:rs[place rs x.f0+0]=rs[place rs x.f0]:=rfl
       rw [← hbj];exact h1
      ·have h2:=rising_at rs hR (place rs x.f0) (place rs x.f0+j) (by omega) hjl
       rw [← hbj];omega
     have hne:b.first≠x.f0:=fun e=>hn ⟨b,hbm,e⟩
     have hnb:=hcl b hbm
     have:¬ b.first≤wlast x.f0 x.f1.length:=fun hle=>hnb (.inr (.inl ⟨by omega,hp,hbl,by omega⟩))
     simp [this]
theorem sort_l1R (xs:List S39) (rs:List Reg) (ha:Rel xs rs) (hx:∀ y∈xs,Small y) (hl:xs.length≤1048576) (k:Nat) (hk:k<rs.length) (F:Nat):∀ (d i:Nat) (b:Int),i+d=xs.length→Best xs rs k i b →
  spindleref20_Space_Regions.l1 (d+1+F) ((rs.map s39).take k) b (i:Int) xs=spindleref20_Space_Regions.l0 F ((rs.map s39).take (k+1)) xs:=by
 have hlen:=ha.len
 have hR:=rel_rising ha
 obtain ⟨m1,m2⟩:=rel_mem ha
 have hol:((rs.map s39).take k).length=k:=by simp;omega
 intro d
 induction d with
 | zero =>
  intro i b hi hb
  rw [show 0+1+F=F+1 by omega]
  simp only [spindleref20_Space_Regions.l1]
  rw [if_neg (by omega)]
  have hi':i=xs.length:=by omega
  obtain ⟨j0,hj0,he0⟩:=List.getElem_of_mem (m1 _ (List.getElem_mem hk))
  have hab0:Above rs k xs[j0].f0:=by
   intro h1 h2
   rw [he0]
   exact rising_at rs hR (k - 1) k (by omega) hk
  rcases hb with ⟨_,h2⟩|⟨m,rfl,hm,h2,h3⟩
  ·exact absurd hab0 (h2 j0 hj0 (by omega))
  ·have hle:=h3 j0 hj0 (by omega) hab0
   rw [he0] at hle
   obtain ⟨r,hr,hre⟩:=m2 _ (List.getElem_mem hm)
   obtain ⟨t,ht,rfl⟩:=List.getElem_of_mem hr
   have hf:rs[t].first=xs[m].f0:=by rw [← hre];rfl
   have hkt:t=k:=by
    have hle2:rs[t].first≤rs[k].first:=by rw [hf];exact hle
    rcases Nat.lt_trichotomy t k with h|h|h
    ·have h5:=h2 (by omega) (by omega)
     rw [← hf] at h5
     by_cases he:t=k - 1
     ·subst he;omega
     ·have:=rising_at rs hR t (k - 1) (by omega) (by omega);omega
    ·exact h
    ·have:=rising_at rs hR k t h ht;omega
   subst hkt
   rw [if_pos (by omega),if_pos (by omega),rd39 xs m hm,copied_eq _ _ (by have:=(hx _ (List.getElem_mem hm)).2;omega)]
   simp only [Option.bind_some]
   rw [if_pos (by rw [hol];omega)]
   congr 1
   rw [List.take_succ_eq_append_getElem (by simpa using hk),List.getElem_map,hre]
 | succ d ih =>
  intro i b hi hb
  rw [show d+1+1+F=(d+1+F)+1 by omega]
  have hix:i<xs.length:=by omega
  have hnext:∀ b',Best xs rs k (i+1) b'→spindleref20_Space_Regions.l1 (d+1+F) ((rs.map s39).take k) b' (wrap64 ((i:Int)+1)) xs=spindleref20_Space_Regions.l0 F ((rs.map s39).take (k+1)) xs:=fun b' hb'=>by
   rw [w64 _ (by omega) (by omega)]
   exact ih (i+1) b' (by omega) hb'
  simp only [spindleref20_Space_Regions.l1]
  rw [if_pos (by omega),hol]
  rcases Nat.eq_zero_or_pos k with hk0|hk0
  ·subst hk0
   have hab:Above rs 0 xs[i].f0:=fun _ h=>absurd h (by omega)
   rw [if_pos (by omega)]
   rcases hb with ⟨rfl,h2⟩|⟨m,rfl,hm,h2,h3⟩
   ·rw [if_pos (by omega)]
    exact hnext _ (best_new (.inl ⟨rfl,h2⟩) hix hab (.inl rfl))
   ·have hb:Best xs rs 0 i (m:Int):=.inr ⟨m,rfl,hm,h2,h3⟩
    rw [if_neg (by omega),if_pos (by omega),if_pos (by omega),if_pos (by omega),rd39 xs i hix,rd39 xs m hm]
    by_cases hlt:xs[i].f0<xs[m].f0
    ·rw [if_pos hlt];exact hnext _ (best_new hb hix hab (.inr ⟨m,rfl,hm,hlt⟩))
    ·rw [if_neg hlt];exact hnext _ (best_keep hb hix (.inr ⟨m,rfl,hm,by omega⟩))
  ·rw [if_neg (by omega),if_pos (by omega),w64 ((k:Int) - 1) (by omega) (by omega),if_pos (by omega),if_pos (by omega)]
   have hlast:rd_T39 ((rs.map s39).take k) ((k:Int) - 1)=s39 (rs[k - 1]'(by omega)):=by
    rw [show ((k:Int) - 1)=((k - 1:Nat):Int) by omega,rd39 _ (k - 1) (by rw [hol];omega),List.getElem_take,List.getElem_map]
   rw [hlast,rd39 xs i hix]
   by_cases hab:xs[i].f0 > (s39 (rs[k - 1]'(by omega))).f0
   ·rw [if_pos hab]
    have hab':Above rs k xs[i].f0:=fun _ _=>hab
    rcases hb with ⟨rfl,h2⟩|⟨m,rfl,hm,h2,h3⟩
    ·rw [if_pos (by omega)]
     exact hnext _ (best_new (.inl ⟨rfl,h2⟩) hix hab' (.inl rfl))
    ·have hb:Best xs rs k i (m:Int):=.inr ⟨m,rfl,hm,h2,h3⟩
     rw [if_neg (by omega),if_pos (by omega),if_pos (by omega),rd39 xs m hm]
     by_cases hlt:xs[i].f0<xs[m].f0
     ·rw [if_pos hlt];exact hnext _ (best_new hb hix hab' (.inr ⟨m,rfl,hm,hlt⟩))
     ·rw [if_neg hlt];exact hnext _ (best_keep hb hix (.inr ⟨m,rfl,hm,by omega⟩))
   ·rw [if_neg hab]
    exact hnext _ (best_keep hb hix (.inl fun h=>hab (h (by omega) hk0)))
theorem sort_l0R (xs:List S39) (rs:List Reg) (ha:Rel xs rs) (hx:∀ y∈xs,Small y) (hl:xs.length≤1048576):∀ (d k:Nat),k+d=rs.length→spindleref20_Space_Regions.l0 (d*(xs.length+2)+1) ((rs.map s39).take k) xs=some (rs.map s39):=by
 have hlen:=ha.len
 intro d
 induction d with
 | zero =>
  intro k hk
  simp only [spindleref20_Space_Regions.l0,Nat.zero_mul,Nat.zero_add]
  rw [if_neg (by simp;omega),List.take_of_length_le (by simp;omega)]
 | succ d ih =>
  intro k hk
  rw [show (d+1)*(xs.length+2)+1=(xs.length+1+(d*(xs.length+2)+1))+1 by rw [Nat.add_mul];omega]
  simp only [spindleref20_Space_Regions.l0]
  rw [if_pos (by simp;omega)]
  have h:=sort_l1R xs rs ha hx hl k (by omega) (d*(xs.length+2)+1) xs.length 0 (-1) (by omega) (.inl ⟨rfl,fun j _ h=>absurd h (Nat.not_lt_zero j)⟩)
  exact h.trans (ih (k+1) (by omega))
theorem sort_eqR (xs:List S39) (rs:List Reg) (ha:Rel xs rs) (hx:∀ y∈xs,Small y) (hl:xs.length≤1048576):∃ k,spindleref20_Space_Regions.f k xs=some (rs.map s39):=
 ⟨_,sort_l0R xs rs ha hx hl rs.length 0 (by omega)⟩
end Go.Proofs.Ythmeojeehemlaaa.Mem
end
end
