/- Parts of the proof, laid together by a program of this session (pack.py): ZA8. Of the kit's print what the claim does not use is left out. -/
import Derived.Test.YthmeojeehemlaaaZC7
import Derived.Laws.MakeOwn
import Derived.Laws.OwnMore
import Derived.OwnWalk
set_option linter.unusedVariables false
set_option linter.unusedSimpArgs false
set_option maxRecDepth 100000
set_option maxHeartbeats 16000000
section
section
namespace Go.Proofs.Ythmeojeehemlaaa.Mem
open Go.RowKit Go.Proofs.YthmeojeehemlaaaW.PrintWords
open Go.Proofs.Ythmeojeehemlaaa.PM
def keepF (x:Int) (xs:List S39):List S39:=xs.filter fun y=>!decide (y.f0=x)
theorem remove_l0 (xs:List S39) (x:Int) (hl:xs.length≤1048576) (hx:∀ y∈xs,Small y):∀ (k i:Nat),i≤xs.length→xs.length - i<k →
  ∀ e:Int,((e=0∧∃ y∈xs.take i,y.f0=x)∨(e=201∧∀ y∈xs.take i,y.f0≠x)) →
  spindleref20_Space_Remove.l0 k x e (i:Int) xs (keepF x (xs.take i))=some (if ∃ y∈xs,y.f0=x then (keepF x xs,0) else (xs,201)):=by
 intro k
 induction k with
 | zero=>intro i _ h;omega
 | succ k ih =>
  intro i hi hk e he
  simp only [spindleref20_Space_Remove.l0]
  by_cases hlt:i<xs.length
  ·have hst:xs.take (i+1)=xs.take i ++ [xs[i]]:=List.take_succ_eq_append_getElem hlt
   rw [if_pos (by omega),if_pos (by omega),rd39 xs i hlt,w64 _ (by omega) (by omega)]
   by_cases hf:xs[i].f0=x
   ·rw [if_pos hf]
    have h:=ih (i+1) (by omega) (by omega) 0 (.inl ⟨rfl,xs[i],by rw [hst];exact List.mem_append_right _ (List.mem_singleton.2 rfl),hf⟩)
    have e1:keepF x (xs.take (i+1))=keepF x (xs.take i):=by
     rw [hst];unfold keepF;rw [List.filter_append];simp [hf]
    rw [e1] at h
    exact h
   ·rw [if_neg hf,copied_eq _ _ (by have:=(hx _ (List.getElem_mem hlt)).2;omega)]
    simp only [Option.bind_some]
    have e1:keepF x (xs.take i) ++ [(⟨xs[i].f0,xs[i].f1⟩:S39)]=keepF x (xs.take (i+1)):=by
     rw [hst];unfold keepF;rw [List.filter_append];simp [hf]
    have hlen:(keepF x (xs.take i)).length≤i:=by
     unfold keepF
     exact Nat.le_trans (List.length_filter_le _ _) (by simp;omega)
    rw [if_pos (by omega),e1]
    refine ih (i+1) (by omega) (by clear he;omega) e ?_
    rcases he with ⟨h1,y,hy,h2⟩|⟨h1,h2⟩
    ·exact .inl ⟨h1,y,by rw [hst];exact List.mem_append_left _ hy,h2⟩
    ·refine .inr ⟨h1,fun y hy=>?_⟩
     rw [hst] at hy
     rcases List.mem_append.1 hy with h|h
     ·exact h2 y h
     ·rw [List.mem_singleton.1 h];exact hf
  ·rw [if_neg (by omega)]
   have hi':i=xs.length:=by omega
   subst hi'
   rw [List.take_length] at he ⊢
   rcases he with ⟨rfl,h2⟩|⟨rfl,h2⟩
   ·rw [if_pos rfl,if_pos h2]
   ·rw [if_neg (by decide),if_neg (fun ⟨y,hy,h3⟩=>h2 y hy h3)]
theorem remove_eq (xs:List S39) (x:Int) (hl:xs.length≤1048576) (hx:∀ y∈xs,Small y) :
  spindleref20_Space_Remove.f (xs.length+1) xs x=some (if ∃ y∈xs,y.f0=x then (keepF x xs,0) else (xs,201)):=by
 have h:=remove_l0 xs x hl hx (xs.length+1) 0 (Nat.zero_le _) (by omega) 201 (.inr ⟨rfl,fun _ h=>absurd h (by simp)⟩)
 exact h
theorem rem_filter (rs:List Reg) (hr:Rising rs) (k:Nat) (hk:k<rs.length) (x:Int) (hx:rs[k].first=x):rem rs k=rs.filter fun r=>!decide (r.first=x):=by
 have hs:rs=rs.take k ++ rs[k] :: rs.drop (k+1):=by rw [← List.drop_eq_getElem_cons hk,List.take_append_drop]
 have h1:(rs.take k).filter (fun r=>!decide (r.first=x))=rs.take k:=by
  rw [List.filter_eq_self]
  intro r hr'
  obtain ⟨j,hj,rfl⟩:=List.getElem_of_mem hr'
  have hjk:j<k:=by simp at hj;omega
  have:=rising_at rs hr j k hjk hk
  rw [List.getElem_take]
  simp;omega
 have h2:(rs.drop (k+1)).filter (fun r=>!decide (r.first=x))=rs.drop (k+1):=by
  rw [List.filter_eq_self]
  intro r hr'
  obtain ⟨j,hj,rfl⟩:=List.getElem_of_mem hr'
  have:=rising_at rs hr k (k+1+j) (by omega) (by simp at hj;omega)
  rw [List.getElem_drop]
  simp;omega
 have:rs.filter (fun r=>!decide (r.first=x))=rs.take k ++ rs.drop (k+1):=by
  conv=>lhs;rw [hs]
  rw [List.filter_append,List.filter_cons,h1,h2]
  simp [hx]
 rw [this];rfl
theorem Rel.remove {xs:List S39} {rs:List Reg} (h:Rel xs rs) (x:Int) (hx:∃ r∈rs,r.first=x):Rel (keepF x xs) (rem rs (place rs x)):=by
 obtain ⟨hk,hf⟩:=(there_iff rs x h.rising).1 hx
 refine ⟨?_,h.apt.sublist (rem_sub rs _),fun r hr=>h.ends r ((rem_sub rs _).subset hr),rising_sub (rem_sub rs _) h.rising⟩
 rw [rem_filter rs h.rising _ hk x hf]
 have e:(rs.filter fun r=>!decide (r.first=x)).map s39=(rs.map s39).filter fun y=>!decide (y.f0=x):=by
  rw [List.filter_map];rfl
 rw [e]
 exact h.perm.filter _
theorem Rel.any {xs:List S39} {rs:List Reg} (h:Rel xs rs) (x:Int):(∃ y∈xs,y.f0=x)↔∃ r∈rs,r.first=x:=by
 obtain ⟨m1,m2⟩:=rel_mem h
 constructor
 ·rintro ⟨y,hy,e⟩
  obtain ⟨r,hr,rfl⟩:=m2 y hy
  exact ⟨r,hr,e⟩
 ·rintro ⟨r,hr,e⟩
  exact ⟨_,m1 r hr,e⟩
theorem keepF_len (x:Int) (xs:List S39):(keepF x xs).length≤xs.length:=List.length_filter_le _ _
theorem keepF_mem (x:Int) (xs:List S39) (y:S39) (h:y∈keepF x xs):y∈xs:=(List.mem_filter.1 h).1
def Has (y:S39) (x:Int) (n:Nat):Prop:=y.f0≤x∧x - y.f0<(y.f1.length:Int)∧(n:Int)≤(y.f1.length:Int) - (x - y.f0)
theorem find_l0 (xs:List S39) (hl:xs.length≤1048576) (hx:∀ y∈xs,Small y) (x:Int) (n:Nat) (hx0:0≤x) (hx1:x<18446744073709551616) (hn:n<9223372036854775808):∀ (k i:Nat),i≤xs.length→xs.length - i<k →
  ∃ j:Int,spindleref20_Space_find.l0 k x (n:Int) (i:Int) xs=some j∧((j=-1∧∀ t (h:t<xs.length),i≤t→¬ Has xs[t] x n)∨∃ t:Nat,j=(t:Int)∧∃ h:t<xs.length,Has xs[t] x n):=by
 intro k
 induction k with
 | zero=>intro i _ h;omega
 | succ k ih =>
  intro i hi hk
  simp only [spindleref20_Space_find.l0]
  by_cases hlt:i<xs.length
  ·obtain ⟨⟨f0,f1,_,f3⟩,_⟩:=hx _ (List.getElem_mem hlt)
   rw [if_pos (by omega),if_pos (by omega),rd39 xs i hlt,w64 _ (by omega) (by omega),u64 (xs[i].f1.length:Int) (by omega) (by omega),u64 (n:Int) (by omega) (by omega)]
   have next:¬ Has xs[i] x n→∃ j:Int,spindleref20_Space_find.l0 k x (n:Int) ((i:Int)+1) xs=some j∧((j=-1∧∀ t (h:t<xs.length),i≤t→¬ Has xs[t] x n)∨∃ t:Nat,j=(t:Int)∧∃ h:t<xs.length,Has xs[t] x n):=by
    intro hno
    obtain ⟨j,h1,h2⟩:=ih (i+1) (by omega) (by omega)
    refine ⟨j,h1,?_⟩
    rcases h2 with ⟨h2,h3⟩|h2
    ·refine .inl ⟨h2,fun t ht hit=>?_⟩
     by_cases e:t=i
     ·subst e;exact hno
     ·exact h3 t ht (by omega)
    ·exact .inr h2
   by_cases h1:x≥xs[i].f0
   ·rw [if_pos h1,u64 (x - xs[i].f0) (by omega) (by omega)]
    by_cases h2:x - xs[i].f0<(xs[i].f1.length:Int)
    ·rw [if_pos h2,u64 ((xs[i].f1.length:Int) - (x - xs[i].f0)) (by omega) (by omega)]
     by_cases h3:(n:Int)≤(xs[i].f1.length:Int) - (x - xs[i].f0)
     ·rw [if_pos h3]
      exact ⟨i,rfl,.inr ⟨i,rfl,hlt,h1,h2,h3⟩⟩
     ·rw [if_neg h3];exact next (fun h=>h3 h.2.2)
    ·rw [if_neg h2];exact next (fun h=>h2 h.2.1)
   ·rw [if_neg h1];exact next (fun h=>h1 h.1)
  ·rw [if_neg (by omega)]
   exact ⟨-1,rfl,.inl ⟨rfl,fun t ht hit=>by omega⟩⟩
theorem find_view {xs:List S39} {rs:List Reg} (h:Rel xs rs) (hl:xs.length≤1048576) (hx:∀ y∈xs,Small y) (x:Int) (n:Nat) (hx0:0≤x) (hx1:x<18446744073709551616) (hn0:1≤n) (hn:n<9223372036854775808) (k:Nat) (hk:xs.length<k) :
  ∃ j:Int,spindleref20_Space_find.f k xs x (n:Int)=some j∧((j=-1∧viewOf rs x n=none)∨∃ (t:Nat) (r:Reg) (o:Nat),j=(t:Int)∧(∃ ht:t<xs.length,xs[t]=s39 r)∧r∈rs∧viewOf rs x n=some (r,o)∧x=r.first+(o:Int)∧o+n≤r.data.length):=by
 obtain ⟨j,h1,h2⟩:=find_l0 xs hl hx x n hx0 hx1 hn k 0 (Nat.zero_le _) (by omega)
 obtain ⟨m1,m2⟩:=rel_mem h
 refine ⟨j,h1,?_⟩
 rcases h2 with ⟨h2,h3⟩|⟨t,rfl,ht,h3⟩
 ·refine .inl ⟨h2,?_⟩
  cases hv:viewOf rs x n with
  | none=>rfl
  | some ro =>
   obtain ⟨r,o⟩:=ro
   obtain ⟨q1,q2,q3⟩:=viewOf_some rs x n r o hv
   obtain ⟨t,ht,e⟩:=List.getElem_of_mem (m1 r q1)
   refine absurd ?_ (h3 t ht (Nat.zero_le _))
   rw [e]
   unfold Has s39
   dsimp only
   omega
 ·right
  obtain ⟨r,hr,e⟩:=m2 _ (List.getElem_mem ht)
  obtain ⟨i,hi,rfl⟩:=List.getElem_of_mem hr
  rw [← e] at h3
  unfold Has s39 at h3
  dsimp only at h3
  obtain ⟨o,ho⟩:∃ o:Nat,(o:Int)=x - rs[i].first:=⟨(x - rs[i].first).toNat,by omega⟩
  refine ⟨t,rs[i],o,rfl,⟨ht,e.symm⟩,hr,?_,by omega,by omega⟩
  rw [show x=rs[i].first+(o:Int) by omega,view_at rs h.rising h.apt i hi o n (by omega),if_neg (by omega)]
theorem wide_eq (width:Int):spindleref20_wide.f width=some (wb width:Int):=bytes_ width
theorem load_l0 (xs:List S39) (t:Nat) (ht:t<xs.length) (o n:Nat) (hn:n≤8) (hl:o+n≤xs[t].f1.length) (hb:Bytes xs[t].f1) (hlen:xs[t].f1.length≤1048576):∀ (m k:Nat),m≤n→m<k →
  spindleref20_Space_Load.l0 k (t:Int) (num (((xs[t].f1.drop o).take n).drop m)) (o:Int) ((m:Int) - 1) xs=some (num ((xs[t].f1.drop o).take n),0):=by
 intro m
 have hB:Bytes ((xs[t].f1.drop o).take n):=fun b hb'=>hb b (List.mem_of_mem_drop (List.mem_of_mem_take hb'))
 have hL:((xs[t].f1.drop o).take n).length=n:=by simp;omega
 induction m with
 | zero =>
  intro k _ hk
  obtain ⟨k,rfl⟩:∃ q,k=q+1:=⟨k - 1,by omega⟩
  simp only [spindleref20_Space_Load.l0]
  rw [if_neg (by omega),List.drop_zero]
 | succ m ih =>
  intro k hm hk
  obtain ⟨k,rfl⟩:∃ q,k=q+1:=⟨k - 1,by omega⟩
  simp only [spindleref20_Space_Load.l0]
  rw [if_pos (by omega),if_pos (by omega),if_pos (by omega),rd39 xs t ht,w64 ((o:Int)+(((m+1:Nat):Int) - 1)) (by omega) (by omega),if_pos (by omega),if_pos (by omega),w64 (((m+1:Nat):Int) - 1 - 1) (by omega) (by omega)]
  have e1:(o:Int)+(((m+1:Nat):Int) - 1)=((o+m:Nat):Int):=by omega
  rw [e1,rd_at _ (o+m) (by omega)]
  have hdr:((xs[t].f1.drop o).take n).drop m=xs[t].f1[o+m] :: ((xs[t].f1.drop o).take n).drop (m+1):=by
   rw [List.drop_eq_getElem_cons (by omega)]
   congr 1
   rw [List.getElem_take,List.getElem_drop]
  have hbm:=hb _ (List.getElem_mem (show o+m<xs[t].f1.length by omega))
  have hr:=num_range (((xs[t].f1.drop o).take n).drop (m+1)) (fun b hb'=>hB b (List.mem_of_mem_drop hb'))
  have hr2:=num_range (((xs[t].f1.drop o).take n).drop m) (fun b hb'=>hB b (List.mem_of_mem_drop hb'))
  have hp:(256:Int) ^ (((xs[t].f1.drop o).take n).drop m).length≤18446744073709551616:=by
   have:(((xs[t].f1.drop o).take n).drop m).length≤8:=by rw [List.length_drop];omega
   have h8:(256:Nat) ^ (((xs[t].f1.drop o).take n).drop m).length≤256 ^ 8:=Nat.pow_le_pow_right (by decide) this
   have:(256:Nat) ^ 8=18446744073709551616:=by decide
   rw [this] at h8
   obtain ⟨q,hq⟩:∃ q:Nat,q=256 ^ (((xs[t].f1.drop o).take n).drop m).length:=⟨_,rfl⟩
   have h9:(256:Int) ^ (((xs[t].f1.drop o).take n).drop m).length=(q:Int):=by rw [hq,Int.natCast_pow];rfl
   rw [← hq] at h8
   rw [h9]
   omega
  have e2:num (((xs[t].f1.drop o).take n).drop m)=xs[t].f1[o+m]+256*num (((xs[t].f1.drop o).take n).drop (m+1)):=by
   rw [hdr];rfl
  rw [e2] at hr2
  have hs:IntKind.u64.wrap (IntKind.u64.wrap (num (((xs[t].f1.drop o).take n).drop (m+1))*256)+IntKind.u64.wrap xs[t].f1[o+m])=num (((xs[t].f1.drop o).take n).drop m):=by
   rw [u64 (num _*256) (by omega) (by omega),u64 xs[t].f1[o+m] (by omega) (by omega),u64 _ (by omega) (by omega),e2]
   omega
  rw [hs,show ((m+1:Nat):Int) - 1 - 1=(m:Int) - 1 by omega]
  exact ih k (by omega) (by omega)
theorem load_eq {xs:List S39} {rs:List Reg} (h:Rel xs rs) (hl:xs.length≤1048576) (hx:∀ y∈xs,Small y) (x width:Int) (hx0:0≤x) (hx1:x<18446744073709551616) :
  spindleref20_Space_Load.f (xs.length+20) xs x width=some (loadOf rs x width):=by
 unfold spindleref20_Space_Load.f loadOf
 have hw:=wb_range width
 rw [wide_eq]
 simp only [Option.bind_some]
 obtain ⟨j,h1,h2⟩:=find_view h hl hx x (wb width) hx0 hx1 (by omega) (by omega) (xs.length+20) (by omega)
 rw [h1]
 simp only [Option.bind_some]
 rcases h2 with ⟨rfl,h2⟩|⟨t,r,o,rfl,⟨ht,he⟩,hr,h2,h3,h4⟩
 ·rw [if_pos (by decide),h2]
 ·have hrx:=(rel_mem h).1 r hr
  obtain ⟨⟨f0,f1,f2,_⟩,f3⟩:=hx _ hrx
  unfold s39 at f0 f1 f2 f3
  dsimp only at f0 f1 f2 f3
  rw [if_neg (by omega),if_pos (by omega),if_pos (by omega),rd39 xs t ht,he,h2]
  have e1:wrap64 (IntKind.u64.wrap (x - (s39 r).f0))=(o:Int):=by
   unfold s39;dsimp only
   rw [h3,show r.first+(o:Int) - r.first=(o:Int) by omega,u64 _ (by omega) (by omega),w64 _ (by omega) (by omega)]
  rw [e1,w64 _ (by omega) (by omega)]
  have he1:xs[t].f1=r.data:=by rw [he];rfl
  have h5:=load_l0 xs t ht o (wb width) (by omega) (by rw [he1];exact h4) (by rw [he1];exact f2) (by rw [he1];exact f3) (wb width) (xs.length+20) (Nat.le_refl _) (by omega)
  rw [he1] at h5
  rw [List.drop_of_length_le (by simp;omega)] at h5
  exact h5
end Go.Proofs.Ythmeojeehemlaaa.Mem
end
section
namespace Go.Proofs.Ythmeojeehemlaaa.Mem
open Go.RowKit Go.Proofs.YthmeojeehemlaaaW.PrintWords
open Go.Proofs.Ythmeojeehemlaaa.PM
attribute [local go_sem] isSome_setCell
theorem rfind_ (w:World) (A:Option Addr) (n c:Nat) (xs:List S39) (x m j:Int) (k:Nat) (hC:Kd.C k39 w A n xs) (hc:n≤c) (h:spindleref20_Space_find.f k xs x m=some j) :
  Calls Try.prog 77 #[.agg #[.slice A n c],.int .u64 x,.int .i64 m] w fun e w'=>e=.returned (.int .i64 j)∧Below w.heap.size w w':=by
 obtain rfl:=hC.1
 exact spindleref20_Space_find.calls k A c xs x m j w hC hc h
theorem scopy_ (w:World) (A:Option Addr) (n c:Nat) (xs:List S39) (hC:Kd.C k39 w A n xs) (hc:n≤c) (hl:xs.length≤1048576) (hs:∀ y∈xs,y.f1.length≤1048576) :
  Calls Try.prog 71 #[.agg #[.slice A n c]] w fun e w'=>∃ v,e=.returned (.agg #[v])∧Kd.S k39 39 w' w.heap.size (fun _=>True) v xs∧Below w.heap.size w w':=by
 obtain rfl:=hC.1
 exact spindleref20_Space_Copy.calls (xs.length+1) A c xs xs w hC hc (scopy_eq xs hl hs _ (by omega))
def PutR (xs:List S39) (rs:List Reg) (ro:Option (List Reg)) (r1:List S39) (r2:Int):Prop:=
 match ro with
 | some rs'=>r2=0∧Rel r1 rs'∧r1.length=xs.length∧∀ y∈r1,Small y
 | none=>r2=200∧r1=xs
def PutPost (P:Nat→Prop) (w:World) (xs:List S39) (rs:List Reg) (ro:Option (List Reg)) (e:Ending) (w':World):Prop:=
 ∃ v r1 r2,e=.returned (.tuple #[.agg #[v],.int .i64 r2])∧Kd.V k39 39 w' w.heap.size (fun k=>P k∨w.heap.size≤k) v r1∧Below w.heap.size w w'∧PutR xs rs ro r1 r2
theorem R8_open {w:World} {base:Nat} {ok:Nat→Prop} {v:Value} {xs:List Int} (h:Kd.R (Kd.int .u8) 5 w base ok v xs) (hp:0<xs.length) :
  ∃ d c cs,v=.slice (some ⟨d,0,none⟩) xs.length c∧ok d∧base≤d∧Blk w d 5 cs∧xs.length≤c∧cs.size=c∧(∀ i (hi:i<xs.length),cs[i]?=some (.int .u8 xs[i])) ∧
   ∀ w' cs' ys,Blk w' d 5 cs'→cs'.size=cs.size→ys.length=xs.length→(∀ i (hi:i<ys.length),cs'[i]?=some (.int .u8 ys[i]))→Kd.R (Kd.int .u8) 5 w' base ok v ys:=by
 obtain ⟨h0,inner,ho,hr⟩:=h
 obtain ⟨hl,ho2⟩:=ho
 rcases ho2 with ⟨_,h2⟩|⟨d,cap,cur,rfl,hg,hh,hnc,hcm,hsz,ht⟩
 ·omega
 ·have hsz2:cur.size=cap:=by rw [hsz];exact Nat.mul_one _
  have hil:inner.length=xs.length:=by rw [hl];exact Nat.mul_one _
  have hin:inner=xs.map (Value.int .u8):=by
   apply List.ext_getElem?
   intro i
   by_cases hi:i<xs.length
   ·have h4:=hr.2 i xs[i] (List.getElem?_eq_getElem hi)
    have h5:(inner.drop (i*1)).take 1=[.int .u8 xs[i]]:=h4
    have h6:=congrArg (fun l=>l[0]?) h5
    simp only [List.getElem?_take,List.getElem?_drop] at h6
    rw [List.getElem?_map,List.getElem?_eq_getElem hi]
    simpa using h6
   ·rw [List.getElem?_eq_none (by omega),List.getElem?_eq_none (by simp;omega)]
  refine ⟨d,cap,cur,rfl,h0 d rfl,hg,hh,hnc,hsz2,fun i hi=>?_,fun w' cs' ys hb hs hy hc=>⟨h0,ys.map (Value.int .u8),⟨?_,.inr ⟨d,cap,cs',?_,hg,hb,?_,hcm,?_,?_⟩⟩,⟨?_,fun j p hj=>?_⟩⟩⟩
  ·have e:=congrArg (fun l=>l[i]?) ht
   simp only [List.getElem?_take] at e
   rw [if_pos (by omega),hin,List.getElem?_map,List.getElem?_eq_getElem hi] at e
   simpa using e
  ·rw [List.length_map];exact (Nat.mul_one _).symm
  ·rw [hy]
  ·rw [hy];exact hnc
  ·rw [hs,hsz2];exact (Nat.mul_one _).symm
  ·apply List.ext_getElem?
   intro i
   have e1:(Kd.int IntKind.u8).sz=1:=rfl
   rw [List.getElem?_take,e1,Nat.mul_one]
   by_cases hi:i<ys.length
   ·rw [if_pos hi,List.getElem?_map,List.getElem?_eq_getElem hi,Array.getElem?_toList,hc i hi];rfl
   ·rw [if_neg hi,List.getElem?_eq_none (by simp;omega)]
  ·rw [List.length_map];exact (Nat.mul_one _).symm
  ·obtain ⟨hjl,hjp⟩:=List.getElem?_eq_some_iff.1 hj
   show ((ys.map (Value.int .u8)).drop (j*1)).take 1=[.int .u8 p]
   rw [Nat.mul_one,List.drop_eq_getElem_cons (by simpa using hjl),List.take_succ_cons,List.take_zero,List.getElem_map,hjp]
theorem blk_new1 (w:World) (o:Obj) (t:TypeId) (cs:Array Value):Blk ((w.alloc o).alloc (.cells cs t)) (w.heap.size+1) t cs:=by
 have h:=Blk.new (w.alloc o) t cs
 rw [show (w.alloc o).heap.size=w.heap.size+1 from Array.size_push _] at h
 exact h
theorem below2 (w:World) (o o':Obj):Below w.heap.size w ((w.alloc o).alloc o'):=below_push (act_size w _) (below_push (Nat.le_refl _) (Below.refl _ _) _) _
theorem size2_ (w:World) (o o':Obj):((w.alloc o).alloc o').heap.size=w.heap.size+2:=by
 show ((w.heap.push o).push o').size=_
 rw [Array.size_push,Array.size_push]
theorem putOf_pos (rs:List Reg) (x:Int) (bs:List Int) (n:Nat) (h:bs.length=n) (hn:n≠0):putOf rs x bs=(viewOf rs x n).map fun ro=>rs.map (upd ro.1 ro.2 bs):=by
 subst h
 unfold putOf
 rw [if_neg hn]
 cases viewOf rs x bs.length with
 | none=>rfl
 | some ro=>rfl
theorem lend39 {w:World} {base:Nat} {ok:Nat→Prop} {v:Value} {xs:List S39} (h:Kd.S k39 39 w base ok v xs) (t:Nat) (ht:t<xs.length) (x:S39) (hx:xs[t]=x) :
  ∃ g cap A1 c1 oki,v=.slice (some ⟨g,0,none⟩) xs.length cap∧base≤g∧g<w.heap.size∧w.cell? ⟨g,t*2,none⟩=some (.int .u64 x.f0)∧w.cell? ⟨g,t*2+1,none⟩=some (.slice A1 x.f1.length c1) ∧
   Kd.R (Kd.int .u8) 5 w base oki (.slice A1 x.f1.length c1) x.f1∧(∀ k,oki k→ok k∧k≠g) ∧
   Kd.H k39 39 w base ok v xs (t:Int) oki [.int .u64 x.f0,.slice A1 x.f1.length c1]:=by
 obtain ⟨g,cap,rfl,hg1,hg2,_⟩:=Kd.S_form h (by omega)
 obtain ⟨oki,c,hcl,hM,hcc,hoki,hH⟩:=Kd.S_lend h z39 (t:Int) (by omega) (by omega)
 rw [Int.toNat_natCast,List.getD_eq_getElem?_getD,List.getElem?_eq_getElem ht,Option.getD_some,hx] at hM
 rw [Int.toNat_natCast] at hcc
 have hsz:k39.sz=2:=rfl
 rw [hsz] at hcc
 obtain ⟨cs1,cs2,e,h1,h2⟩:∃ cs1 cs2,c=cs1 ++ cs2∧cs1=[.int .u64 x.f0]∧∃ v2,cs2=[v2]∧Kd.R (Kd.int .u8) 5 w base oki v2 x.f1:=by
  obtain ⟨cs1,cs2,e,h1,h2⟩:=(show ∃ cs1 cs2,c=cs1 ++ cs2∧(Kd.int .u64).M w base oki x.f0 cs1∧(Kd.slice 5 (Kd.int .u8)).M w base oki x.f1 cs2 from hM)
  exact ⟨cs1,cs2,e,h1,h2⟩
 obtain ⟨v2,rfl,hr⟩:=h2
 subst h1
 obtain ⟨A1,c1,rfl⟩:=Kd.R_slice hr
 subst e
 exact ⟨g,cap,A1,c1,oki,rfl,hg1,hg2,hcc 0 _ rfl,hcc 1 _ rfl,hr,hoki,hH⟩
theorem put_step (l bs:List Int) (o k:Nat) (hk:k<bs.length) (h:o+bs.length≤l.length) (i:Nat):(put l o (bs.take (k+1)))[i]?=if i=o+k then some bs[k] else (put l o (bs.take k))[i]?:=by
 have h1:(bs.take (k+1)).length=k+1:=by simp;omega
 have h2:(bs.take k).length=k:=by simp;omega
 rw [put_get l o _ (by omega),put_get l o _ (by omega),h1,h2,List.getElem?_take,List.getElem?_take]
 by_cases hi:i=o+k
 ·subst hi
  rw [if_pos rfl,if_neg (by omega),if_pos (by omega),if_pos (by omega),show o+k - o=k by omega,List.getElem?_eq_getElem hk]
 ·rw [if_neg hi]
  by_cases h3:i<o
  ·rw [if_pos h3,if_pos h3]
  ·rw [if_neg h3,if_neg h3]
   by_cases h4:i<o+k
   ·rw [if_pos (by omega),if_pos h4,if_pos (by omega),if_pos (by omega)]
   ·rw [if_neg (by omega),if_neg h4]
theorem put_zero (l:List Int) (o:Nat) (h:o≤l.length):put l o []=l:=by
 unfold put;simp
def Held8 (cs:Array Value) (l:List Int):Prop:=∀ i,i<l.length→cs[i]?=l[i]?.map (Value.int .u8)
theorem Only.cell {w w':World} {d:Nat} (h:Only w w' d) {p:Addr} {v:Value} (hc:w.cell? p=some v) (hp:p.block≠d):w'.cell? p=some v:=by
 rw [← hc]
 unfold World.cell?
 rw [h.block _ hp]
theorem Held8.set_ {cs:Array Value} {l bs:List Int} {o k:Nat} (h:Held8 cs (put l o (bs.take k))) (hk:k<bs.length) (hl:o+bs.length≤l.length) (hs:o+k<cs.size):Held8 (cs.setIfInBounds (o+k) (.int .u8 bs[k])) (put l o (bs.take (k+1))):=by
 intro i hi
 have e1:(put l o (bs.take (k+1))).length=l.length:=put_length l o _ (by simp;omega)
 have e2:(put l o (bs.take k)).length=l.length:=put_length l o _ (by simp;omega)
 rw [put_step l bs o k hk hl]
 by_cases hio:i=o+k
 ·subst hio
  rw [if_pos rfl,Array.getElem?_setIfInBounds_self_of_lt hs];rfl
 ·rw [if_neg hio,Array.getElem?_setIfInBounds_ne (fun e=>hio e.symm)]
  exact h i (by omega)
theorem Held8.get {cs:Array Value} {l:List Int} (h:Held8 cs l) (i:Nat) (hi:i<l.length):cs[i]?=some (.int .u8 l[i]):=by
 rw [h i hi,List.getElem?_eq_getElem hi];rfl
def updS (r:Reg) (o:Nat) (bs:List Int) (z:S39):S39:=if z.f0=r.first then ⟨z.f0,put z.f1 o bs⟩ else z
theorem s39_upd (r:Reg) (o:Nat) (bs:List Int) (q:Reg):s39 (upd r o bs q)=updS r o bs (s39 q):=by
 unfold upd updS s39
 by_cases h:q.first=r.first
 ·rw [if_pos h,if_pos h]
 ·rw [if_neg h,if_neg h]
theorem rising_nodup:∀ (rs:List Reg),Rising rs→(rs.map fun r=>r.first).Nodup
 | [],_=>List.Pairwise.nil
 | r :: rs,h=>by
  rw [List.map_cons,List.nodup_cons]
  refine ⟨fun hm=>?_,rising_nodup rs h.2⟩
  obtain ⟨q,hq,e⟩:=List.mem_map.1 hm
  have:=h.1 q hq
  omega
theorem Rel.firsts {xs:List S39} {rs:List Reg} (h:Rel xs rs):(xs.map fun y=>y.f0).Nodup:=by
 have h1:(rs.map fun r=>r.first)=(rs.map s39).map fun y=>y.f0:=by rw [List.map_map];rfl
 have h2:=rising_nodup rs h.rising
 rw [h1] at h2
 exact (h.perm.map _).nodup_iff.1 h2
theorem Rel.put {xs:List S39} {rs:List Reg} (h:Rel xs rs) (r:Reg) (hr:r∈rs) (o:Nat) (bs:List Int) (hl:o+bs.length≤r.data.length) (t:Nat) (ht:t<xs.length) (he:xs[t]=s39 r) :
  Rel (xs.set t ⟨r.first,Mem.put r.data o bs⟩) (rs.map (upd r o bs)):=by
 have hlen:=upd_len rs h.rising r hr o bs hl
 have e:xs.set t ⟨r.first,Mem.put r.data o bs⟩=xs.map (updS r o bs):=by
  apply List.ext_getElem?
  intro i
  rw [List.getElem?_set,List.getElem?_map]
  by_cases hi:t=i
  ·subst hi
   rw [if_pos rfl,if_pos ht,List.getElem?_eq_getElem ht,he]
   unfold updS s39
   simp
  ·rw [if_neg hi]
   by_cases hix:i<xs.length
   ·rw [List.getElem?_eq_getElem hix,Option.map_some]
    congr 1
    unfold updS
    rw [if_neg]
    intro hf
    have hnd:=h.firsts
    have h1:=(List.getElem_inj (xs:=xs.map fun y=>y.f0) (i:=t) (j:=i) (h₀:=by simpa using ht) (h₁:=by simpa using hix) hnd).1
    refine hi (h1 ?_)
    rw [List.getElem_map,List.getElem_map,hf,he]
    rfl
   ·rw [List.getElem?_eq_none (by omega)];rfl
 refine ⟨?_,?_,?_,rising_map _ (upd_first r o bs) rs h.rising⟩
 ·rw [e,List.map_map,show (s39 ∘ upd r o bs)=(updS r o bs ∘ s39) from funext fun q=>s39_upd r o bs q,← List.map_map]
  exact h.perm.map _
 ·unfold Apt
  rw [List.pairwise_map]
  refine List.Pairwise.imp_of_mem ?_ h.apt
  intro a b ha hb hab h1 h2
  rw [hlen a ha] at h1 ⊢
  rw [hlen b hb] at h2
  rw [upd_first,upd_first]
  exact hab h1 h2
 ·intro q hq
  obtain ⟨p,hp,rfl⟩:=List.mem_map.1 hq
  rw [hlen p hp,upd_first]
  exact h.ends p hp
theorem small_set {xs:List S39} (hs:∀ y∈xs,Small y) (t:Nat) (ht:t<xs.length) (f:Int) (dat bs:List Int) (he:xs[t]=⟨f,dat⟩) (o:Nat) (hb:Bytes bs) (hl:o+bs.length≤dat.length):∀ y∈xs.set t ⟨f,Mem.put dat o bs⟩,Small y:=by
 intro y hy
 rcases List.mem_or_eq_of_mem_set hy with h|rfl
 ·exact hs y h
 ·have h1:=hs _ (List.getElem_mem ht)
  rw [he] at h1
  obtain ⟨⟨f0,f1,f2,f3⟩,f4⟩:=h1
  have e:=put_length dat o bs hl
  refine ⟨⟨f0,f1,fun b hb2=>?_,by rw [e];exact f3⟩,by rw [e];exact f4⟩
  unfold Mem.put at hb2
  rcases List.mem_append.1 hb2 with h|h
  ·rcases List.mem_append.1 h with h|h
   ·exact f2 b (List.mem_of_mem_take h)
   ·exact hb b h
  ·exact f2 b (List.mem_of_mem_drop h)
theorem Blk.c0 {w:World} {g:Nat} {t:TypeId} {v:Value} (h:Blk w g t #[v]):w.cell? ⟨g,0,none⟩=some v:=h.cell 0
end Go.Proofs.Ythmeojeehemlaaa.Mem
end
section
namespace Go.Proofs.Ythmeojeehemlaaa.Lnd
open Go.RowKit Go.Proofs.YthmeojeehemlaaaW.PrintWords
open Go.Proofs.Ythmeojeehemlaaa.Mem (Blk Blk.lt Blk.cell Blk.frozen Blk.set_ Blk.far Blk.drewN Blk.drew Blk.alloc Blk.new)
attribute [local go_sem] isSome_setCell
def mk (i:Int):Int:=(wrap64 (203 - wrap64 (5*i))) % 256
theorem mark_any (p:Option Addr) (i:Int) (w:World):Calls Try.prog 74 #[.pointer p,.int .i64 i] w fun e w'=>e=.returned (.int .u8 (mk i))∧w=w':=by
 go_enter Try.func74,Try.ntmps74
 go_wp2
 go_ret
 exact ⟨rfl,rfl⟩
def ints (xs:List Int):Array Value:=(xs.map (Value.int .u8)).toArray
theorem ints_at (xs:List Int) (i:Nat) (h:i<xs.length):(ints xs)[i]?=some (.int .u8 xs[i]):=by
 simp [ints,h]
theorem ints_set (xs:List Int) (i:Nat) (x:Int):(ints xs).setIfInBounds i (.int .u8 x)=ints (xs.set i x):=by
 simp [ints,List.map_set]
theorem ints_made (n:Nat):madeCells (Value.int .u8 0).cells (n*1)=ints (List.replicate n 0):=by
 apply Array.ext
 ·simp [ints,size_madeCells]
 ·intro i h1 h2
  simp [ints,madeCells,Value.cells,Nat.mod_one]
structure Keeps (w w':World) (g gb:Nat):Prop where
 os:w'.os=w.os
 tape:w'.tape=w.tape
 output:w'.output=w.output
 size:w.heap.size≤w'.heap.size
 block:∀ i,i<w.heap.size→i≠g→i≠gb→w'.heap[i]?=w.heap[i]?
section
variable {w w':World} {g gb:Nat}
theorem Keeps.refl (w:World) (g gb:Nat):Keeps w w g gb:=⟨rfl,rfl,rfl,Nat.le_refl _,fun _ _ _ _=>rfl⟩
theorem Keeps.set_ (h:Keeps w w' g gb) (p:Addr) (u:Value) (hp:p.block=g∨p.block=gb):Keeps w (w'.setCell p u) g gb:=by
 refine ⟨h.os,h.tape,h.output,by simpa [World.setCell] using h.size,fun i hi h1 h2=>?_⟩
 rw [← h.block i hi h1 h2]
 have:p.block≠i:=by rcases hp with e|e <;> omega
 simp [World.setCell,Array.getElem?_modify,this]
theorem Keeps.drewN (h:Keeps w w' g gb) (n:Nat):Keeps w (w'.drewN n) g gb:=⟨h.os,h.tape,h.output,h.size,h.block⟩
theorem Keeps.drew (h:Keeps w w' g gb):Keeps w w'.drew g gb:=⟨h.os,h.tape,h.output,h.size,h.block⟩
theorem Keeps.alloc (h:Keeps w w' g gb) (o:Obj):Keeps w (w'.alloc o) g gb:=by
 refine ⟨h.os,h.tape,h.output,by
  have:=h.size
  show w.heap.size≤(w'.heap.push o).size
  rw [Array.size_push];omega,fun i hi h1 h2=>?_⟩
 rw [← h.block i hi h1 h2]
 simp only [World.alloc,Array.getElem?_push]
 rw [if_neg (by have:=h.size;omega)]
theorem Keeps.chg (h:Keeps w w' g gb):Mem.Chg (fun k=>k=g∨k=gb) w w':=⟨h.os,h.tape,h.output,h.size,fun k hk hf=>h.block k hk (fun e=>hf (.inl e)) (fun e=>hf (.inr e))⟩
theorem Keeps.cell (h:Keeps w w' g gb) {p:Addr} {v:Value} (hc:w.cell? p=some v) (h1:p.block≠g) (h2:p.block≠gb):w'.cell? p=some v:=by
 have hl:=World.block_lt_of_cell? w p hc
 have:=h.block p.block hl h1 h2
 simpa [World.cell?,this] using hc
end
def T (a:List Int):List Int:=a ++ (List.range (a.length+70)).map fun j=>mk ((a.length+j:Nat):Int)
theorem T_length (a:List Int):(T a).length=2*a.length+70:=by simp [T];omega
theorem T_low (a:List Int) (i:Nat) (h:i<a.length):(T a)[i]?=some a[i]:=by
 unfold T;rw [List.getElem?_append_left h,List.getElem?_eq_getElem h]
theorem T_high (a:List Int) (i:Nat) (h0:a.length≤i) (h1:i<2*a.length+70):(T a)[i]?=some (mk i):=by
 unfold T;rw [List.getElem?_append_right h0]
 simp only [List.getElem?_map]
 rw [List.getElem?_range (by omega)]
 simp only [Option.map_some]
 congr 3;omega
theorem take_set (ys l:List Int) (k:Nat) (x:Int) (hk:k<ys.length) (h:ys.take k=l.take k) (hx:l[k]?=some x):(ys.set k x).take (k+1)=l.take (k+1):=by
 have hl:k<l.length:=(List.getElem?_eq_some_iff.1 hx).1
 have hx':l[k]=x:=(List.getElem?_eq_some_iff.1 hx).2
 rw [List.take_succ_eq_append_getElem (by simpa using hk),List.take_succ_eq_append_getElem hl,hx',List.take_set_of_le (Nat.le_refl _),h,List.getElem_set_self]
def Rd (w:World) (A:Option Addr) (a:List Int):Prop:=0<a.length→∃ b off,A=some ⟨b,off,none⟩∧∀ i (h:i<a.length),w.cell? ⟨b,off+i,none⟩=some (.int .u8 a[i])
def Far (A:Option Addr) (n k:Nat):Prop:=0<n→∀ ad,A=some ad→ad.block≠k
theorem Rd.of_C {w:World} {A:Option Addr} {a:List Int} (h:Kd.C (Kd.int .u8) w A a.length a):Rd w A a:=by
 intro hp
 obtain ⟨ad,e,hc⟩:=h.2.2 hp
 have one:∀ i (hi:i<a.length),w.cell? (ad.add i)=some (.int .u8 a[i]):=by
  intro i hi
  obtain ⟨c,hs,hr,hcell⟩:=hc i a[i] (List.getElem?_eq_getElem hi)
  have:c=[.int .u8 a[i]]:=hr
  subst this
  have:=hcell 0 _ rfl
  simpa [Kd.int,Kd.scalar] using this
 have h0:=one 0 hp
 have hs:ad.spot=none:=by
  rw [show ad.add 0=ad from by simp [Addr.add]] at h0
  unfold World.cell? at h0
  split at h0
  ·split at h0
   ·cases h0
   ·rename_i hn;simpa using hn
  ·cases h0
 obtain ⟨b,off,sp⟩:=ad
 simp only at hs
 subst hs
 refine ⟨b,off,e,fun i hi=>?_⟩
 have:=one i hi
 unfold Addr.add at this
 by_cases hi0:i=0
 ·subst hi0;simpa using this
 ·rw [if_neg hi0] at this;simpa using this
theorem C_of_blk {w:World} {gb:Nat} {ys:List Int} (h:Blk w gb 5 (ints ys)) (m:Nat) (hm:m≤ys.length) (hl:ys.length≤9223372036854775807):Kd.C (Kd.int .u8) w (some ⟨gb,0,none⟩) (ys.take m).length (ys.take m):=by
 refine ⟨rfl,by simp;omega,fun _=>⟨_,rfl,fun j p hj=>⟨[.int .u8 p],rfl,rfl,fun i u hu=>?_⟩⟩⟩
 have hj':j<(ys.take m).length:=(List.getElem?_eq_some_iff.1 hj).1
 have hjy:j<ys.length:=by simp at hj';omega
 have hp:ys[j]=p:=by
  have:=(List.getElem?_eq_some_iff.1 hj).2
  rw [List.getElem_take] at this
  exact this
 have hi:i=0:=by
  have:=(List.getElem?_eq_some_iff.1 hu).1
  simpa using this
 subst hi
 have hu':Value.int .u8 p=u:=by simpa using hu
 subst hu'
 have hc:=h.cell j
 rw [ints_at ys j hjy,hp] at hc
 rw [← hc]
 unfold Addr.add
 simp [Kd.int,Kd.scalar]
 by_cases h0:j=0 <;> simp [h0]
def Done (p0 p1:Value) (w:World) (g gb:Nat) (a:List Int) (L:Nat) (e:Ending) (w':World):Prop:=
 ∃ ys:List Int,ys.length=L∧e=.returned (.slice (some ⟨gb,0,none⟩) a.length (2*a.length+70))∧Blk w' g 87 #[p0,p1,.slice (some ⟨gb,0,none⟩) L L,.int .i64 a.length]∧Blk w' gb 5 (ints ys)∧ys.take (2*a.length+70)=T a∧Keeps w w' g gb
theorem lend_old (p0 p1:Value) (w:World) (g gb L c:Nat) (n:Int) (A:Option Addr) (xs a:List Int) (hL:xs.length=L) (hbig:2*a.length+70≤L) (hl:L<562949953421312) (hg:Blk w g 87 #[p0,p1,.slice (some ⟨gb,0,none⟩) L L,.int .i64 n]) (hb:Blk w gb 5 (ints xs)) (hne:g≠gb)
  (ha:Rd w A a) (hfg:Far A a.length g) (hfb:Far A a.length gb) :
  Calls Try.prog 73 #[.pointer (some ⟨g,2,none⟩),.slice A a.length c] w (Done p0 p1 w g gb a L):=by
 obtain ⟨m,hm⟩:∃ m,m=a.length:=⟨_,rfl⟩
 rw [← hm] at hbig hfg hfb ⊢
 have c0:=hg.cell 2
 have c1:=hg.cell 3
 have f0:=hg.frozen 2
 have f1:=hg.frozen 3
 simp only [List.getElem?_toArray,List.getElem?_cons_zero,List.getElem?_cons_succ] at c0 c1
 have HL:=Lib.hid hL
 have HM:=Lib.hid hm
 have HA:=Lib.hid ha
 have HFG:=Lib.hid hfg
 have HFB:=Lib.hid hfb
 have HG:=Lib.hid hg
 have HB:=Lib.hid hb
 clear hL hm ha hg hb hfg hfb
 go_enter Try.func73,Try.ntmps73
 go_wp2
 go_loopw [5] (fun i wr=>∃ (k:Nat) (ys:List Int),k≤m∧i=.int .i64 (k:Int)∧Hid (ys.length=L)∧Hid (Blk wr g 87 #[p0,p1,.slice (some ⟨gb,0,none⟩) L L,.int .i64 n])∧Hid (Blk wr gb 5 (ints ys))∧Hid (ys.take k=(T a).take k)∧Hid (Keeps w wr g gb)) (fun i _=>m - (intOf i).toNat)
 case atStart=>exact ⟨0,xs,Nat.zero_le _,rfl,HL,HG,HB,Lib.hid rfl,Lib.hid (Keeps.refl _ _ _)⟩
 case round =>
  obtain ⟨k,ys,hk,rfl,hys,hG,hB,hT,hK⟩:=hrel
  clear c0 c1 f0 f1 HG HB HL
  have c0:=hG.out.cell 2
  have c1:=hG.out.cell 3
  have f0:=hG.out.frozen 2
  have f1:=hG.out.frozen 3
  simp only [List.getElem?_toArray,List.getElem?_cons_zero,List.getElem?_cons_succ] at c0 c1
  by_cases hlt:k<m
  ·have hka:k<a.length:=by rw [← HM.out];exact hlt
   obtain ⟨b,off,rfl,hcell⟩:=HA.out (by omega)
   have hbg:b≠g:=HFG.out (by omega) _ rfl
   have hbb:b≠gb:=HFB.out (by omega) _ rfl
   have ca:=hK.out.cell (hcell k hka) hbg hbb
   clear hcell
   have cb:=hB.out.cell k
   rw [ints_at ys k (by rw [hys.out];omega)] at cb
   have fb:=hB.out.frozen k
   have hTk:=T_low a k hka
   have HTk:=Lib.hid hTk
   clear hTk
   go_wp2
   go_region
   have h1:=(hG.out.far (p:=⟨gb,k,none⟩) (fun e=>hne e.symm) (.int .u8 a[k]))
   have h2:=hB.out.set_ k (.int .u8 a[k])
   rw [ints_set] at h2
   go_wp2
   go_roundw
   case rel=>exact ⟨k+1,ys.set k a[k],by omega,by go_num,Lib.hid (by rw [List.length_set];exact hys.out),Lib.hid h1.drew,Lib.hid h2.drew,Lib.hid (take_set ys (T a) k _ (by rw [hys.out];omega) hT.out HTk.out),Lib.hid ((hK.out.set_ _ _ (.inr rfl)).drew)⟩
   case measure=>simp [intOf];omega
  ·obtain rfl:k=m:=by omega
   clear hlt
   go_wp2
   obtain ⟨wo,rfl⟩:∃ wo:World,wo=wr:=⟨_,rfl⟩
   go_loopw [6] (fun i wr=>∃ (j:Nat) (zs:List Int),k≤j∧j≤2*k+70∧i=.int .i64 (j:Int)∧Hid (zs.length=L)∧Hid (Blk wr g 87 #[p0,p1,.slice (some ⟨gb,0,none⟩) L L,.int .i64 n])∧Hid (Blk wr gb 5 (ints zs))∧Hid (zs.take j=(T a).take j)∧Hid (Keeps w wr g gb)) (fun i _=>2*k+70 - (intOf i).toNat)
   case atStart=>exact ⟨k,ys,Nat.le_refl _,by omega,rfl,hys,hG,hB,hT,hK⟩
   case round =>
    clear hys hG hB hT hK
    obtain ⟨j,zs,hj0,hj1,rfl,hzs,hG,hB,hT,hK⟩:=hrel
    clear c0 c1 f0 f1
    have c0:=hG.out.cell 2
    have c1:=hG.out.cell 3
    have f0:=hG.out.frozen 2
    have f1:=hG.out.frozen 3
    simp only [List.getElem?_toArray,List.getElem?_cons_zero,List.getElem?_cons_succ] at c0 c1
    by_cases hlt:j<2*k+70
    ·have cb:=hB.out.cell j
     rw [ints_at zs j (by rw [hzs.out];omega)] at cb
     have fb:=hB.out.frozen j
     have HTj:=Lib.hid (T_high a j (by rw [← HM.out];omega) (by rw [← HM.out];omega))
     have h1:=Lib.hid (hG.out.far (p:=⟨gb,j,none⟩) (fun e=>hne e.symm) (.int .u8 (mk j)))
     have h2:=Lib.hid (show Blk (wr.setCell ⟨gb,j,none⟩ (.int .u8 (mk j))) gb 5 (ints (zs.set j (mk j))) from by rw [← ints_set];exact hB.out.set_ j _)
     go_wp2
     go_region_with (go_at_call 74;refine (mark_any _ _ _).mono ?_;rintro e w' ⟨rfl,rfl⟩)
     all_goals
      go_wp2
      go_roundw
      case rel=>exact ⟨j+1,zs.set j (mk j),by omega,by omega,by go_num,Lib.hid (by rw [List.length_set];exact hzs.out),Lib.hid h1.out.drew,Lib.hid h2.out.drew,Lib.hid (take_set zs (T a) j _ (by rw [hzs.out];omega) hT.out HTj.out),Lib.hid ((hK.out.set_ _ _ (.inr rfl)).drew)⟩
      case measure=>simp [intOf];omega
    ·obtain rfl:j=2*k+70:=by omega
     go_wp2
     go_ret
     have hTT:zs.take (2*a.length+70)=T a:=by
      rw [← HM.out,hT.out,List.take_of_length_le (by rw [T_length,← HM.out];omega)]
     have hs:=hG.out.set_ 3 (.int .i64 (k:Int))
     refine ⟨zs,hzs.out,?_,?_,hB.out.far (p:=⟨g,3,none⟩) hne _,hTT,hK.out.set_ _ _ (.inl rfl)⟩
     ·rw [← HM.out];rfl
     ·rw [← HM.out];exact hs
theorem lend_new (p0 p1:Value) (w:World) (g L0 c:Nat) (n:Int) (A B:Option Addr) (a:List Int) (hsmall:L0<2*a.length+70) (hsz:a.length<70368744000000) (hg:Blk w g 87 #[p0,p1,.slice B L0 L0,.int .i64 n])
  (ha:Rd w A a) (hfg:Far A a.length g) :
  Calls Try.prog 73 #[.pointer (some ⟨g,2,none⟩),.slice A a.length c] w (Done p0 p1 w g w.heap.size a (4*a.length+512)):=by
 obtain ⟨m,hm⟩:∃ m,m=a.length:=⟨_,rfl⟩
 have hfb:Far A a.length w.heap.size:=by
  intro hp ad e
  obtain ⟨b,off,e',hc⟩:=ha hp
  rw [e] at e'
  obtain rfl:=Option.some.inj e'
  have:=World.block_lt_of_cell? w _ (hc 0 hp)
  simp only at this ⊢
  omega
 have hglt:g<w.heap.size:=hg.lt
 have hne:g≠w.heap.size:=by omega
 rw [← hm] at hsmall hfg hfb hsz ⊢
 have hmk:∀ W:World,(Instr.makeSlice 37 (.int .i64 (4*(m:Int)+512)) (.int .i64 (4*(m:Int)+512))).run Try.prog W=.ok (.slice (some ⟨W.heap.size,0,none⟩) (4*m+512) (4*m+512)) (W.alloc (.cells (madeCells #[.int .u8 0] (4*m+512)) 5)):=by
  have h:=print_make (P:=Try.prog) 37 5 .u8 1 Try.underlying37 (by kernel_rfl) (by decide) (4*m+512) (by omega)
  have e:((4*m+512:Nat):Int)=4*(m:Int)+512:=by omega
  rw [e] at h
  exact h
 have c0:=hg.cell 2
 have c1:=hg.cell 3
 have f0:=hg.frozen 2
 have f1:=hg.frozen 3
 simp only [List.getElem?_toArray,List.getElem?_cons_zero,List.getElem?_cons_succ] at c0 c1
 have HM:=Lib.hid hm
 have HA:=Lib.hid ha
 have HFG:=Lib.hid hfg
 have HFB:=Lib.hid hfb
 have HN:=Lib.hid hne
 have hsz1:(w.setCell ⟨g,2,none⟩ (.slice (some ⟨w.heap.size,0,none⟩) (4*m+512) (4*m+512))).heap.size=w.heap.size:=by simp [World.setCell]
 have hb0:Blk ((w.setCell ⟨g,2,none⟩ (.slice (some ⟨w.heap.size,0,none⟩) (4*m+512) (4*m+512))).alloc (.cells (madeCells #[.int .u8 0] (4*m+512)) 5)) w.heap.size 5 (ints (List.replicate (4*m+512) 0)):=by
  have e:=ints_made (4*m+512)
  rw [Nat.mul_one] at e
  have h:=Blk.new (w.setCell ⟨g,2,none⟩ (.slice (some ⟨w.heap.size,0,none⟩) (4*m+512) (4*m+512))) 5 (madeCells #[.int .u8 0] (4*m+512))
  rw [hsz1] at h
  rw [← e]
  exact h
 have hg0:=(hg.set_ 2 (.slice (some ⟨w.heap.size,0,none⟩) (4*m+512) (4*m+512))).alloc (.cells (madeCells #[.int .u8 0] (4*m+512)) 5)
 have HB:=Lib.hid hb0
 have HG:=Lib.hid hg0
 have HK:=Lib.hid (((Keeps.refl w g w.heap.size).set_ ⟨g,2,none⟩ (.slice (some ⟨w.heap.size,0,none⟩) (4*m+512) (4*m+512)) (.inl rfl)).alloc (.cells (madeCells #[.int .u8 0] (4*m+512)) 5))
 have HR:=Lib.hid (List.length_replicate (n:=4*m+512) (a:=(0:Int)))
 clear hm ha hg hfb hfg hb0 hg0 hne hsz1
 go_enter Try.func73,Try.ntmps73
 go_wp2
 rw [show decide ((L0:Int)<2*(m:Int)+70)=true from decide_eq_true (by omega)]
 go_loopw [5] (fun i wr=>∃ (k:Nat) (ys:List Int),k≤m∧i=.int .i64 (k:Int)∧Hid (ys.length=(4*m+512))∧Hid (Blk wr g 87 #[p0,p1,.slice (some ⟨w.heap.size,0,none⟩) (4*m+512) (4*m+512),.int .i64 n])∧Hid (Blk wr w.heap.size 5 (ints ys))∧Hid (ys.take k=(T a).take k)∧Hid (Keeps w wr g w.heap.size)) (fun i _=>m - (intOf i).toNat)
 case atStart=>exact ⟨0,List.replicate (4*m+512) 0,Nat.zero_le _,rfl,HR,HG,HB,Lib.hid rfl,HK⟩
 case round =>
  obtain ⟨k,ys,hk,rfl,hys,hG,hB,hT,hK⟩:=hrel
  clear c0 c1 f0 f1 HG HB HR HK hmk
  have c0:=hG.out.cell 2
  have c1:=hG.out.cell 3
  have f0:=hG.out.frozen 2
  have f1:=hG.out.frozen 3
  simp only [List.getElem?_toArray,List.getElem?_cons_zero,List.getElem?_cons_succ] at c0 c1
  by_cases hlt:k<m
  ·have hka:k<a.length:=by rw [← HM.out];exact hlt
   obtain ⟨b,off,rfl,hcell⟩:=HA.out (by omega)
   have hbg:b≠g:=HFG.out (by omega) _ rfl
   have hbb:b≠w.heap.size:=HFB.out (by omega) _ rfl
   have ca:=hK.out.cell (hcell k hka) hbg hbb
   clear hcell
   have cb:=hB.out.cell k
   rw [ints_at ys k (by rw [hys.out];omega)] at cb
   have fb:=hB.out.frozen k
   have hTk:=T_low a k hka
   have HTk:=Lib.hid hTk
   clear hTk
   go_wp2
   go_region
   have h1:=(hG.out.far (p:=⟨w.heap.size,k,none⟩) (fun e=>HN.out e.symm) (.int .u8 a[k]))
   have h2:=hB.out.set_ k (.int .u8 a[k])
   rw [ints_set] at h2
   go_wp2
   go_roundw
   case rel=>exact ⟨k+1,ys.set k a[k],by omega,by go_num,Lib.hid (by rw [List.length_set];exact hys.out),Lib.hid h1.drew,Lib.hid h2.drew,Lib.hid (take_set ys (T a) k _ (by rw [hys.out];omega) hT.out HTk.out),Lib.hid ((hK.out.set_ _ _ (.inr rfl)).drew)⟩
   case measure=>simp [intOf];omega
  ·obtain rfl:k=m:=by omega
   clear hlt
   go_wp2
   obtain ⟨wo,rfl⟩:∃ wo:World,wo=wr:=⟨_,rfl⟩
   go_loopw [6] (fun i wr=>∃ (j:Nat) (zs:List Int),k≤j∧j≤2*k+70∧i=.int .i64 (j:Int)∧Hid (zs.length=(4*k+512))∧Hid (Blk wr g 87 #[p0,p1,.slice (some ⟨w.heap.size,0,none⟩) (4*k+512) (4*k+512),.int .i64 n])∧Hid (Blk wr w.heap.size 5 (ints zs))∧Hid (zs.take j=(T a).take j)∧Hid (Keeps w wr g w.heap.size)) (fun i _=>2*k+70 - (intOf i).toNat)
   case atStart=>exact ⟨k,ys,Nat.le_refl _,by omega,rfl,hys,hG,hB,hT,hK⟩
   case round =>
    clear hys hG hB hT hK
    obtain ⟨j,zs,hj0,hj1,rfl,hzs,hG,hB,hT,hK⟩:=hrel
    clear c0 c1 f0 f1
    have c0:=hG.out.cell 2
    have c1:=hG.out.cell 3
    have f0:=hG.out.frozen 2
    have f1:=hG.out.frozen 3
    simp only [List.getElem?_toArray,List.getElem?_cons_zero,List.getElem?_cons_succ] at c0 c1
    by_cases hlt:j<2*k+70
    ·have cb:=hB.out.cell j
     rw [ints_at zs j (by rw [hzs.out];omega)] at cb
     have fb:=hB.out.frozen j
     have HTj:=Lib.hid (T_high a j (by rw [← HM.out];omega) (by rw [← HM.out];omega))
     have h1:=Lib.hid (hG.out.far (p:=⟨w.heap.size,j,none⟩) (fun e=>HN.out e.symm) (.int .u8 (mk j)))
     have h2:=Lib.hid (show Blk (wr.setCell ⟨w.heap.size,j,none⟩ (.int .u8 (mk j))) w.heap.size 5 (ints (zs.set j (mk j))) from by rw [← ints_set];exact hB.out.set_ j _)
     go_wp2
     go_region_with (go_at_call 74;refine (mark_any _ _ _).mono ?_;rintro e w' ⟨rfl,rfl⟩)
     all_goals
      go_wp2
      go_roundw
      case rel=>exact ⟨j+1,zs.set j (mk j),by omega,by omega,by go_num,Lib.hid (by rw [List.length_set];exact hzs.out),Lib.hid h1.out.drew,Lib.hid h2.out.drew,Lib.hid (take_set zs (T a) j _ (by rw [hzs.out];omega) hT.out HTj.out),Lib.hid ((hK.out.set_ _ _ (.inr rfl)).drew)⟩
      case measure=>simp [intOf];omega
    ·obtain rfl:j=2*k+70:=by omega
     go_wp2
     go_ret
     have hTT:zs.take (2*a.length+70)=T a:=by
      rw [← HM.out,hT.out,List.take_of_length_le (by rw [T_length,← HM.out];omega)]
     have hs:=hG.out.set_ 3 (.int .i64 (k:Int))
     refine ⟨zs,hzs.out,?_,?_,hB.out.far (p:=⟨g,3,none⟩) HN.out _,hTT,hK.out.set_ _ _ (.inl rfl)⟩
     ·rw [← HM.out];rfl
     ·rw [← HM.out];exact hs
theorem mark_q (p:Option Addr) (i:Int) (w:World):Calls Try.prog 74 #[.pointer p,.int .i64 i] w fun e w'=>e=.returned (.int .u8 (mk i))∧w'=w:=
 (mark_any p i w).mono fun _ _ h=>⟨h.1,h.2.symm⟩
theorem lback_ (p0 p1:Value) (w:World) (g gb L c:Nat) (A:Option Addr) (ys a:List Int) (hL:ys.length=L) (hbig:2*a.length+70≤L) (hl:L<562949953421312) (hg:Blk w g 87 #[p0,p1,.slice (some ⟨gb,0,none⟩) L L,.int .i64 a.length]) (hb:Blk w gb 5 (ints ys)) (hne:g≠gb)
  (ha:Kd.C (Kd.int .u8) w A a.length a) (hT:ys.take (2*a.length+70)=T a) (hfg:Far A a.length g) (hfb:Far A a.length gb) :
  Calls Try.prog 41 #[.pointer (some ⟨g,2,none⟩),.slice A a.length c] w (fun e w'=>e=.returned (.bool true)∧∃ zs:List Int,zs.length=L∧Blk w' g 87 #[p0,p1,.slice (some ⟨gb,0,none⟩) L L,.int .i64 a.length]∧Blk w' gb 5 (ints zs)∧Keeps w w' g gb):=by
 obtain ⟨m,hm⟩:∃ m,m=a.length:=⟨_,rfl⟩
 rw [← hm] at hbig hfg hfb hg ⊢
 have c0:=hg.cell 2
 have c1:=hg.cell 3
 have f0:=hg.frozen 2
 have f1:=hg.frozen 3
 simp only [List.getElem?_toArray,List.getElem?_cons_zero,List.getElem?_cons_succ] at c0 c1
 have hta:ys.take m=a:=by
  have h:=congrArg (List.take m) hT
  rw [List.take_take,Nat.min_eq_left (by omega)] at h
  rw [h,T,List.take_append_of_le_length (by omega),hm,List.take_length]
 have hs1:∀ q,(convert 37 9 (.slice (some ⟨gb,0,none⟩) m L)).run Try.prog (w.drewN q)=.ok (.string (strOfNums a)) (w.drewN q):=by
  intro q
  have h:=C_of_blk (hb.drewN q) m (by omega) (by omega)
  rw [hta] at h
  have:=Kd.C_string (P:=Try.prog) (c:=L) Try.underlying37 Try.underlying5 Try.underlying9 h
  rw [← hm] at this
  exact this
 have hs2:∀ q,(convert 37 9 (.slice A m c)).run Try.prog (w.drewN q)=.ok (.string (strOfNums a)) (w.drewN q):=by
  intro q
  have h:Kd.C (Kd.int .u8) (w.drewN q) A a.length a:=ha
  have:=Kd.C_string (P:=Try.prog) (c:=c) Try.underlying37 Try.underlying5 Try.underlying9 h
  rw [← hm] at this
  exact this
 have hmL:m≤L:=by omega
 have hmL2:(m:Int)≤(L:Int):=by omega
 have HL:=Lib.hid hL
 have HM:=Lib.hid hm
 have HFG:=Lib.hid hfg
 have HFB:=Lib.hid hfb
 have HG:=Lib.hid hg
 have HB:=Lib.hid hb
 have HT:=Lib.hid hT
 clear hL hm ha hg hb hfg hfb hT hta
 go_enter Try.func41,Try.ntmps41
 go_wp2
 go_quiet (fail)
 go_wp2
 go_loopw [5,6] (fun b i wr=>∃ (k q:Nat),m≤k∧k≤2*m+70∧b=.bool true∧i=.int .i64 (k:Int)∧Hid (wr=w.drewN q)) (fun _ i _=>2*m+70 - (intOf i).toNat)
 case atStart=>exact ⟨m,nq,Nat.le_refl _,by omega,rfl,rfl,Lib.hid rfl⟩
 case round =>
  obtain ⟨k,q,hk0,hk1,rfl,rfl,hq⟩:=hrel
  clear c0 c1 f0 f1 hs1 hs2
  have c0:=(show Blk wr g 87 _ from by rw [hq.out];exact HG.out.drewN q).cell 2
  have c1:=(show Blk wr g 87 _ from by rw [hq.out];exact HG.out.drewN q).cell 3
  simp only [List.getElem?_toArray,List.getElem?_cons_zero,List.getElem?_cons_succ] at c0 c1
  by_cases hlt:k<2*m+70
  ·have cb:wr.cell? ⟨gb,k,none⟩=some (.int .u8 (mk k)):=by
    have h:=(show Blk wr gb 5 _ from by rw [hq.out];exact HB.out.drewN q).cell k
    have hk:k<ys.length:=by rw [HL.out];omega
    rw [ints_at ys k hk] at h
    rw [h]
    have h2:(ys.take (2*a.length+70))[k]?=(T a)[k]?:=by rw [HT.out]
    rw [T_high a k (by rw [← HM.out];exact hk0) (by rw [← HM.out];exact hlt),List.getElem?_take,if_pos (by rw [← HM.out];exact hlt),List.getElem?_eq_getElem hk] at h2
    rw [Option.some.inj h2]
   have hkL:(k:Int)<(L:Int):=by omega
   have hkN:k<L:=by omega
   go_wp2
   go_quiet (first|(go_at_call 74;refine Calls.quiet_of_same (mark_q _ _ _)))
   go_wp2
   go_roundw
   case rel=>exact ⟨k+1,q+nq,by omega,by omega,rfl,by go_num,Lib.hid (by rw [hq.out,World.drewN_drewN])⟩
   case measure=>simp [intOf];omega
  ·obtain rfl:k=2*m+70:=by omega
   go_wp2
   go_loopw [7] (fun i wr=>∃ (k:Nat) (zs:List Int),k≤m∧i=.int .i64 (k:Int)∧Hid (zs.length=L)∧Hid (Blk wr g 87 #[p0,p1,.slice (some ⟨gb,0,none⟩) L L,.int .i64 m])∧Hid (Blk wr gb 5 (ints zs))∧Hid (Keeps w wr g gb)) (fun i _=>m - (intOf i).toNat)
   case atStart=>exact ⟨0,ys,Nat.zero_le _,rfl,HL,Lib.hid (by rw [hq.out];exact HG.out),Lib.hid (by rw [hq.out];exact HB.out),Lib.hid (by rw [hq.out];exact (Keeps.refl w g gb).drewN q)⟩
   case round =>
    clear c0 c1
    obtain ⟨k,zs,hk,rfl,hzs,hG,hB,hK⟩:=hrel
    have c0:=hG.out.cell 2
    have c1:=hG.out.cell 3
    have f0:=hG.out.frozen 2
    have f1:=hG.out.frozen 3
    simp only [List.getElem?_toArray,List.getElem?_cons_zero,List.getElem?_cons_succ] at c0 c1
    by_cases hlt:k<m
    ·have cb:=hB.out.cell k
     rw [ints_at zs k (by rw [hzs.out];omega)] at cb
     have fb:=hB.out.frozen k
     have hkL:(k:Int)<(L:Int):=by omega
     have hkN:k<L:=by omega
     go_wp2
     have h1:=Lib.hid (hG.out.far (p:=⟨gb,k,none⟩) (fun e=>hne e.symm) (.int .u8 120))
     have h2:=Lib.hid (show Blk (wr.setCell ⟨gb,k,none⟩ (.int .u8 120)) gb 5 (ints (zs.set k 120)) from by rw [← ints_set];exact hB.out.set_ k _)
     go_roundw
     case rel=>exact ⟨k+1,zs.set k 120,by omega,by go_num,Lib.hid (by rw [List.length_set];exact hzs.out),h1,h2,Lib.hid (hK.out.set_ _ _ (.inr rfl))⟩
     case measure=>simp [intOf];omega
    ·obtain rfl:k=m:=by omega
     go_wp2
     go_ret
     exact ⟨rfl,zs,hzs.out,hG.out,hB.out,hK.out⟩
end Go.Proofs.Ythmeojeehemlaaa.Lnd
end
end
