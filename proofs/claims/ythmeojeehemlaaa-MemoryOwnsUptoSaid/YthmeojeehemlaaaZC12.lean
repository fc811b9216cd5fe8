/- Parts of the proof, laid together by a program of this session (pack.py): Bk0, Bk1, Bk2, Bk3, Bk4, Bk5, Bk6, Bk7, Bk8. -/
import Derived.Test.YthmeojeehemlaaaZC11
import Derived.Laws.AppendOwn
import Derived.Deep.RegionLaw
set_option linter.unusedVariables false
set_option linter.unusedSimpArgs false
set_option maxRecDepth 100000
set_option maxHeartbeats 16000000
section
namespace Go.Proofs.Ythmeojeehemlaaa.Bk
open Go.RowKit Go.Proofs.YthmeojeehemlaaaW.PrintWords Go.Proofs.Ythmeojeehemlaaa.Mem Go.Proofs.Ythmeojeehemlaaa.Lnd
structure App (w w':World) (base:Nat) (e:TypeId) (v v':Value) (xs news:List Value):Prop where
 row:w'.ownsRow base e 1 v' (xs.length+news.length) (xs ++ news)
 grown:w.grownBy w' v.ownBlock
 where_:v'.ownBlock=v.ownBlock∨∃ k,w.heap.size≤k∧v'.ownBlock=some k
 some_:v'.ownBlock≠none
 keep:∀ b2 u k zs,w.ownsRow b2 e 1 u k zs→(u.ownBlock≠v.ownBlock∨zs <+: xs ++ news)→w'.ownsRow b2 e 1 u k zs
 some2:∀ b2 u k zs,w.ownsRow b2 e 1 u k zs→∃ zs',w'.ownsRow b2 e 1 u k zs'∧∀ x∈zs',x∈zs∨x∈xs∨x∈news
theorem run_app {P:Program} (w:World) (base:Nat) (t ty e:TypeId) (i:TypeInfo) (z:Value) (bytes:Nat) (ht:P.underlying t=some (.slice e)) (hi:P.info? e=some i) (hz:i.zero=some z)
  (hsize:i.size=1) (hby:i.bytes=bytes) (hzs:z.cells.size=1)
  (v:Value) (xs:List Value) (hown:w.ownsRow base e 1 v xs.length xs)
  (a:Addr) (m c:Nat) (news:List Value) (hl:news.length=m) (hm:0<m) (hnews:∀ j u,news[j]?=some u→w.cell? (a.add j)=some u) (h1:∀ u∈news,u.oneCell'=true)
  (h63:xs.length+m≤maxLen) (hbytes:(xs.length+m)*bytes≤140737488355328) (hbase:base≤w.heap.size) :
  ∃ v' w',(Builtin.append_ #[t,t] ty #[v,.slice (some a) m c]).run P w=.ok v' w'∧App w w' base e v v' xs news:=by
 obtain ⟨n,hn⟩:∃ n,n=xs.length:=⟨_,rfl⟩
 rw [← hn] at hown h63 hbytes
 have hsmall:n+m≤9223372036854775807:=by simp only [maxLen] at h63;omega
 have hlen:(xs ++ news).length=n+m:=by rw [List.length_append];omega
 have grown:∀ (old:Nat),old<n+m→∀ w',w'=(w.drew.alloc (.cells (xs.toArray ++ news.toArray ++ Builtin.zeroCells z.cells (grownCap w (n+m) old e - (n+m))) e)) →
   App w w' base e v (.slice (some ⟨w.heap.size,0,none⟩) (n+m) (grownCap w (n+m) old e)) xs news:=by
  intro old ho w' hw'
  have hge:=grownCap_ge w (n+m) old e
  have hcm:grownCap w (n+m) old e≤maxLen:=grownCap_le_maxLen w (n+m) old e h63
  have hg:w.grownBy w' none:=by
   rw [hw']
   exact ⟨rfl,rfl,rfl,by simp,fun k hk _=>heap_alloc_old w.drew _ hk⟩
  refine ⟨⟨by rw [hlen];omega,.inr ⟨w.heap.size,_,_,by rw [← hn,hl],hbase,by rw [hw'];exact heap_alloc_new w.drew _,by omega,hcm,?_,?_⟩⟩,⟨hg.os,hg.tape,hg.output,hg.size,fun k hk _=>hg.block k hk (by simp)⟩,.inr ⟨_,Nat.le_refl _,rfl⟩,by simp [Value.ownBlock],fun b2 u k zs hu _=>hu.kept hg (by cases h:u.ownBlock <;> simp),fun b2 u k zs hu=>⟨zs,hu.kept hg (by cases h:u.ownBlock <;> simp),fun x hx=>.inl hx⟩⟩
  ·simp only [Array.size_append,List.size_toArray,size_zeroCells,hzs,hl]
   omega
  ·simp only [Array.toList_append,List.append_assoc]
   rw [← List.append_assoc,show (xs.length+news.length)*1=(xs ++ news).length from by simp]
   exact List.take_left
 rcases hown.2 with ⟨rfl,h0⟩|⟨g,cap,cur,rfl,hbg,hg,hnc,hcm,hcs,htake⟩
 ·subst h0
  have hx:xs=[]:=List.eq_nil_of_length_eq_zero hn.symm
  subst hx
  have hr:=run_append_nil (P:=P) w t ty e i z ht hi hz a m c news (by rw [hsize];omega) hnews (by omega) (by omega) (by have hb:=hbytes;rw [hby];simp only [Nat.zero_add] at hb;omega)
  refine ⟨_,_,hr,?_⟩
  have hgr:=grown 0 (by omega) _ rfl
  simp only [Nat.zero_add,List.nil_append,Array.empty_append] at hgr ⊢
  simpa using hgr
 ·by_cases hroom:n+m≤cap
  ·have hfit:n*i.size+news.length≤cur.size:=by rw [hsize];omega
   have hr:=run_append_room (P:=P) w t ty e i ht hi g n cap cur hg a m c news (by rw [hsize];omega) hnews h1 hroom hfit
   rw [hsize] at hr
   have hnew:(w.setRow g (cur.toList.take (n*1) ++ news ++ cur.toList.drop (n*1+news.length)).toArray).heap[g]?=some (.cells (cur.toList.take (n*1) ++ news ++ cur.toList.drop (n*1+news.length)).toArray e (0,0)):=setRow_heap w g cur _ e _ hg
   have hoth:∀ k,k≠g→(w.setRow g (cur.toList.take (n*1) ++ news ++ cur.toList.drop (n*1+news.length)).toArray).heap[k]?=w.heap[k]?:=fun k hk=>setRow_other w g k _ (fun e=>hk e)
   have hszn:(cur.toList.take (n*1) ++ news ++ cur.toList.drop (n*1+news.length)).length=cur.size:=by
    simp only [List.length_append,List.length_take,List.length_drop,Array.length_toList]
    omega
   rw [htake] at hr hnew hoth hszn
   have hgrown:w.grownBy (w.setRow g (xs ++ news ++ cur.toList.drop (n*1+news.length)).toArray) (Value.ownBlock (.slice (some ⟨g,0,none⟩) n cap)):=
    ⟨rfl,rfl,rfl,by simp,fun k _ hk=>hoth k (fun e=>hk (by simp [Value.ownBlock,e]))⟩
   refine ⟨_,_,hr,⟨⟨by rw [hlen];omega,.inr ⟨g,cap,_,by rw [← hn,hl],hbg,hnew,by omega,hcm,by rw [List.size_toArray,hszn];exact hcs,?_⟩⟩,hgrown,.inl rfl,by simp [Value.ownBlock],?_,?_⟩⟩
   ·rw [show (xs.length+news.length)*1=(xs ++ news).length from by simp]
    exact List.take_left
   ·intro b2 u k zs hu hor
    by_cases hne:u.ownBlock=Value.ownBlock (.slice (some ⟨g,0,none⟩) n cap)
    ·have hpre:zs <+: xs ++ news:=by rcases hor with h|h;exact absurd hne h;exact h
     refine ⟨hu.1,?_⟩
     rcases hu.2 with h|⟨g2,cap2,cur2,rfl,hb2,hg2,hn2,hc2,hs2,ht2⟩
     ·exact .inl h
     ·have e2:g2=g:=by simpa [Value.ownBlock] using hne
      subst e2
      rw [hg] at hg2
      obtain ⟨rfl⟩:cur=cur2:=by simpa using hg2
      refine .inr ⟨g2,cap2,_,rfl,hb2,hnew,hn2,hc2,by rw [List.size_toArray,hszn];exact hs2,?_⟩
      have hk:zs.length=k:=by have:=hu.1;omega
      obtain ⟨r,hr2⟩:=hpre
      rw [show k*1=zs.length from by omega,← hr2,List.append_assoc]
      exact List.take_left
    ·exact hu.kept hgrown (.inr hne)
   ·intro b2 u k zs hu
    by_cases hne:u.ownBlock=Value.ownBlock (.slice (some ⟨g,0,none⟩) n cap)
    ·rcases hu.2 with ⟨rfl,hh⟩|⟨g2,cap2,cur2,rfl,hb2,hg2,hn2,hc2,hs2,ht2⟩
     ·simp [Value.ownBlock] at hne
     ·have e2:g2=g:=by simpa [Value.ownBlock] using hne
      subst e2
      rw [hg] at hg2
      obtain ⟨rfl⟩:cur=cur2:=by simpa using hg2
      refine ⟨(xs ++ news ++ cur.toList.drop (n*1+news.length)).take (k*1),⟨?_,.inr ⟨g2,cap2,_,rfl,hb2,hnew,hn2,hc2,by rw [List.size_toArray,hszn];exact hs2,rfl⟩⟩,?_⟩
      ·rw [List.length_take,hszn];omega
      ·intro x hx
       rw [List.take_append] at hx
       rcases List.mem_append.1 hx with h|h
       ·rcases List.mem_append.1 (List.mem_of_mem_take h) with h|h
        ·exact .inr (.inl h)
        ·exact .inr (.inr h)
       ·left
        rw [← ht2]
        obtain ⟨j,hj⟩:=List.mem_iff_getElem?.1 h
        rw [List.getElem?_take] at hj
        split at hj
        ·rw [List.getElem?_drop] at hj
         apply List.mem_iff_getElem?.2
         refine ⟨n*1+news.length+j,?_⟩
         rw [List.getElem?_take,if_pos (by rw [hlen] at *;omega)]
         exact hj
        ·cases hj
    ·exact ⟨zs,hu.kept hgrown (.inr hne),fun x hx=>.inl hx⟩
  ·have holds:∀ j u,xs[j]?=some u→w.cell? ((⟨g,0,none⟩:Addr).add j)=some u:=hown.cells (g:=g) rfl
   have hr:=run_append_grow (P:=P) w t ty e i z ht hi hz ⟨g,0,none⟩ n cap xs (by rw [hsize];omega) holds a m c news (by rw [hsize];omega) hnews (by omega) (by omega) (growslice_fits (by omega) (by rw [hby];exact hbytes))
   exact ⟨_,_,hr,grown cap (by omega) _ rfl⟩
theorem wp_app {P:Program} (w:World) {o:Oper} {a:Act} {K:Act→World→Prop} {Q:Exit→Act→World→Prop} (s x:Operand) (t:TypeId)
  (ho:o.op=.call { callee:=.builtin .append,args:=#[s,x],argTypes:=#[t,t] })
  (base:Nat) (e:TypeId) (i:TypeInfo) (z:Value) (bytes:Nat) (ht:P.underlying t=some (.slice e)) (hi:P.info? e=some i) (hz:i.zero=some z)
  (hsize:i.size=1) (hby:i.bytes=bytes) (hzs:z.cells.size=1)
  (v:Value) (xs:List Value) (hs:a.eval s=v) (hown:w.ownsRow base e 1 v xs.length xs)
  (ad:Addr) (m c:Nat) (news:List Value) (hx:a.eval x=.slice (some ad) m c) (hl:news.length=m) (hm:0<m) (hnews:∀ j u,news[j]?=some u→w.cell? (ad.add j)=some u) (h1:∀ u∈news,u.oneCell'=true)
  (h63:xs.length+m≤maxLen) (hbytes:(xs.length+m)*bytes≤140737488355328) (hbase:base≤w.heap.size)
  (h:∀ v' w',App w w' base e v v' xs news→K (a.put o.dst v') w'):o.wp P a w K Q:=by
 obtain ⟨v',w',hr,h2⟩:=run_app (P:=P) w base t o.type e i z bytes ht hi hz hsize hby hzs v xs hown ad m c news hl hm hnews h1 h63 hbytes hbase
 unfold Oper.wp execOp
 simp only [ho,resolve,invoke,builtin,Sem.run_bind,Sem.run_pure,Result.andThen_ok,List.map_toArray,List.map_cons,List.map_nil,hs,hx,hr]
 exact h v' w' h2
theorem wpList_app {P:Program} (w:World) {ops:Array Oper} {rest:List Oper} {o:Oper} {a:Act} {Q:Exit→Act→World→Prop} (hgd:o.guard=none) (s x:Operand) (t:TypeId)
  (ho:o.op=.call { callee:=.builtin .append,args:=#[s,x],argTypes:=#[t,t] })
  (base:Nat) (e:TypeId) (i:TypeInfo) (z:Value) (bytes:Nat) (ht:P.underlying t=some (.slice e)) (hi:P.info? e=some i) (hz:i.zero=some z)
  (hsize:i.size=1) (hby:i.bytes=bytes) (hzs:z.cells.size=1)
  (v:Value) (xs:List Value) (hs:a.eval s=v) (hown:w.ownsRow base e 1 v xs.length xs)
  (ad:Addr) (m c:Nat) (news:List Value) (hx:a.eval x=.slice (some ad) m c) (hl:news.length=m) (hm:0<m) (hnews:∀ j u,news[j]?=some u→w.cell? (ad.add j)=some u) (h1:∀ u∈news,u.oneCell'=true)
  (h63:xs.length+m≤maxLen) (hbytes:(xs.length+m)*bytes≤140737488355328) (hbase:base≤w.heap.size)
  (h:∀ v' w',App w w' base e v v' xs news→wpList P ops Q rest (a.put o.dst v') w'):wpList P ops Q (o :: rest) a w:=
 wpList_plain hgd fun _ hK=>wp_app w s x t ho base e i z bytes ht hi hz hsize hby hzs v xs hs hown ad m c news hx hl hm hnews h1 h63 hbytes hbase fun v' w' h2=>hK _ _ (h v' w' h2)
theorem step_app {P:Program} {ops:Array Oper} {o:Oper} {a:Act} {w:World} {K:Act→World→Prop} {Q:Exit→Act→World→Prop} {E:Prop}
  (hg:o.guard=none) (s x:Operand) (t:TypeId) (ho:o.op=.call { callee:=.builtin .append,args:=#[s,x],argTypes:=#[t,t] })
  (base:Nat) (e:TypeId) (i:TypeInfo) (z:Value) (bytes:Nat) (ht:P.underlying t=some (.slice e)) (hi:P.info? e=some i) (hz:i.zero=some z)
  (hsize:i.size=1) (hby:i.bytes=bytes) (hzs:z.cells.size=1)
  (v:Value) (xs:List Value) (hs:a.eval s=v) (hown:w.ownsRow base e 1 v xs.length xs)
  (ad:Addr) (m c:Nat) (news:List Value) (hx:a.eval x=.slice (some ad) m c) (hl:news.length=m) (hm:0<m) (hnews:∀ j u,news[j]?=some u→w.cell? (ad.add j)=some u) (h1:∀ u∈news,u.oneCell'=true)
  (h63:xs.length+m≤maxLen) (hbytes:(xs.length+m)*bytes≤140737488355328) (hbase:base≤w.heap.size)
  (h:∀ v' w',App w w' base e v v' xs news→K (a.put o.dst v') w') :
  if Region.wanted o (yielded ops a.tmps)=true then Oper.wp P o a w K Q else E:=by
 have hw:Region.wanted o (yielded ops a.tmps)=true:=by simp [Region.wanted,hg]
 rw [if_pos hw]
 exact wp_app w s x t ho base e i z bytes ht hi hz hsize hby hzs v xs hs hown ad m c news hx hl hm hnews h1 h63 hbytes hbase h
end Go.Proofs.Ythmeojeehemlaaa.Bk
end
section
namespace Go.Proofs.Ythmeojeehemlaaa.Bk
open Go.RowKit Go.Proofs.YthmeojeehemlaaaW.PrintWords Go.Proofs.Ythmeojeehemlaaa.Mem Go.Proofs.Ythmeojeehemlaaa.Lnd
attribute [local go_sem] isSome_setCell
structure Ch (w w':World) (S:Nat→Prop):Prop where
 os:w'.os=w.os
 tape:w'.tape=w.tape
 output:w'.output=w.output
 size:w.heap.size≤w'.heap.size
 block:∀ g,g<w.heap.size→¬ S g→w'.heap[g]?=w.heap[g]?
def Never (_:Nat):Prop:=False
section
variable {w w' w'':World} {S S':Nat→Prop}
theorem Ch.refl (w:World) (S:Nat→Prop):Ch w w S:=⟨rfl,rfl,rfl,Nat.le_refl _,fun _ _ _=>rfl⟩
theorem Ch.trans (h:Ch w w' S) (h':Ch w' w'' S') (hs:∀ g,S' g→S g∨w.heap.size≤g):Ch w w'' S:=
 ⟨h'.os.trans h.os,h'.tape.trans h.tape,h'.output.trans h.output,Nat.le_trans h.size h'.size,fun g hg hn =>
  (h'.block g (Nat.lt_of_lt_of_le hg h.size) fun hh=>(hs g hh).elim hn (fun h2=>by omega)).trans (h.block g hg hn)⟩
theorem Ch.mono (h:Ch w w' S) (hs:∀ g,S g→S' g):Ch w w' S':=⟨h.os,h.tape,h.output,h.size,fun g hg hn=>h.block g hg fun hh=>hn (hs g hh)⟩
theorem Ch.drew (h:Ch w w' S):Ch w w'.drew S:=⟨h.os,h.tape,h.output,h.size,h.block⟩
theorem Ch.drewN (h:Ch w w' S) (n:Nat):Ch w (w'.drewN n) S:=⟨h.os,h.tape,h.output,h.size,h.block⟩
theorem Ch.alloc (h:Ch w w' S) (o:Obj):Ch w (w'.alloc o) S:=
 ⟨h.os,h.tape,h.output,Nat.le_trans h.size (by simp),fun g hg hn=>(heap_alloc_old w' o (Nat.lt_of_lt_of_le hg h.size)).trans (h.block g hg hn)⟩
theorem Ch.set_ (h:Ch w w' S) (p:Addr) (u:Value) (hp:S p.block∨w.heap.size≤p.block):Ch w (w'.setCell p u) S:=by
 refine ⟨h.os,h.tape,h.output,by simpa [World.setCell] using h.size,fun g hg hn=>?_⟩
 rw [← h.block g hg hn]
 have:p.block≠g:=by rintro rfl;rcases hp with e|e;exact hn e;omega
 simp [World.setCell,Array.getElem?_modify,this]
theorem Ch.of_grown {row:Option Nat} (h:w.grownBy w' row):Ch w w' (fun g=>row=some g):=
 ⟨h.os,h.tape,h.output,h.size,fun g hg hn=>h.block g hg fun e=>hn e.symm⟩
theorem Ch.blk (h:Ch w w' S) {g t:Nat} {cs:Array Value} (hb:Blk w g t cs) (hn:¬ S g):Blk w' g t cs:=by
 have hl:=hb.lt
 unfold Blk at hb ⊢
 rw [h.block g hl hn];exact hb
end
abbrev Row (w:World) (e:TypeId) (v:Value) (xs:List Value):Prop:=w.ownsRow 0 e 1 v xs.length xs
section
variable {w w':World} {S:Nat→Prop} {e:TypeId} {v:Value} {xs:List Value}
theorem Row.ch (h:Row w e v xs) (hc:Ch w w' S) (hn:∀ g,v.ownBlock=some g→¬ S g):Row w' e v xs:=by
 refine ⟨h.1,?_⟩
 rcases h.2 with hn'|⟨g,cap,cur,rfl,hb,hg,rest⟩
 ·exact .inl hn'
 ·exact .inr ⟨g,cap,cur,rfl,hb,(hc.block g (Array.getElem?_eq_some_iff.1 hg).1 (hn g rfl)).trans hg,rest⟩
theorem Row.lt (h:Row w e v xs):∀ g,v.ownBlock=some g→g<w.heap.size:=fun g hg=>(World.ownsRow.lt h g hg).2
theorem Row.drew (h:Row w e v xs):Row w.drew e v xs:=h
theorem Row.alloc (h:Row w e v xs) (o:Obj):Row (w.alloc o) e v xs:=World.ownsRow.alloc h o
theorem Row.nil (w:World) (e:TypeId):Row w e (.slice none 0 0) []:=World.ownsRow_nil w 0 e 1
theorem Row.at (h:Row w e v xs) (hp:0<xs.length):∃ g cap,v=.slice (some ⟨g,0,none⟩) xs.length cap∧xs.length≤cap∧cap≤maxLen∧∀ j (hj:j<xs.length),w.cell? ⟨g,j,none⟩=some xs[j]∧w.frozen? ⟨g,j,none⟩=false:=by
 rcases h.2 with ⟨_,h0⟩|⟨g,cap,cur,hv,hb,hg,hn,hc,hs,ht⟩
 ·omega
 ·refine ⟨g,cap,hv,hn,hc,fun j hj=>⟨?_,?_⟩⟩
  ·have hb:Blk w g e cur:=hg
   rw [hb.cell j]
   have h1:(cur.toList.take (xs.length*1))[j]?=xs[j]?:=by rw [ht]
   rw [List.getElem?_take,if_pos (by omega),List.getElem?_eq_getElem hj] at h1
   rw [← h1];simp
  ·have hb:Blk w g e cur:=hg
   exact hb.frozen j
theorem Row.form (h:Row w e v xs):∃ A cap,v=.slice A xs.length cap∧xs.length≤cap:=by
 rcases h.2 with ⟨rfl,h0⟩|⟨g,cap,cur,hv,hb,hg,hn,hc,hs,ht⟩
 ·exact ⟨none,0,by rw [h0],by omega⟩
 ·exact ⟨_,cap,hv,hn⟩
theorem Row.block_ne {w2:World} {g t:Nat} {cs:Array Value} (h:Row w e v xs) (hb:Blk w g t cs) (ht:t≠e):v.ownBlock≠some g:=by
 intro hg
 rcases h.2 with ⟨rfl,h0⟩|⟨g',cap,cur,rfl,_,hg',_⟩
 ·simp [Value.ownBlock] at hg
 ·have:g'=g:=by simpa [Value.ownBlock] using hg
  subst this
  unfold Blk at hb
  rw [hb] at hg'
  exact ht (by simpa using (congrArg (fun x=>match x with|some (Obj.cells _ t _)=>t|_=>0) hg'))
end
theorem App.row' {w w':World} {e:TypeId} {v v':Value} {xs news:List Value} (h:App w w' 0 e v v' xs news):Row w' e v' (xs ++ news):=by
 have:=h.row
 rw [← List.length_append] at this
 exact this
theorem App.ch {w w':World} {b:Nat} {e:TypeId} {v v':Value} {xs news:List Value} (h:App w w' b e v v' xs news):Ch w w' (fun g=>v.ownBlock=some g):=Ch.of_grown h.grown
def upd {α:Type} (f:Fin 5→α) (i:Fin 5) (x:α):Fin 5→α:=fun j=>if j=i then x else f j
theorem upd_same {α:Type} (f:Fin 5→α) (i:Fin 5) (x:α):upd f i x i=x:=if_pos rfl
theorem upd_other {α:Type} (f:Fin 5→α) {i j:Fin 5} (x:α) (h:j≠i):upd f i x j=f j:=if_neg h
def ety (i:Fin 5):TypeId:=if i=2 then 3 else 37
def hdr (c t:Int) (v:Fin 5→Value):Array Value:=#[.int .i64 c,.int .i64 t,.bool false,v 0,v 1,v 2,v 3,v 4]
theorem hdr_set (c t:Int) (v:Fin 5→Value) (i:Fin 5) (x:Value):(hdr c t v).setIfInBounds (3+i.val) x=hdr c t (upd v i x):=by
 obtain ⟨i,hi⟩:=i
 match i,hi with
 | 0,_=>rfl
 | 1,_=>rfl
 | 2,_=>rfl
 | 3,_=>rfl
 | 4,_=>rfl
def Own (p:Nat) (v:Fin 5→Value) (g:Nat):Prop:=g=p∨∃ i,(v i).ownBlock=some g
structure Bk (w:World) (p:Nat) (c t:Int) (v:Fin 5→Value) (ct:Fin 5→List Value):Prop where
 hd:Blk w p 55 (hdr c t v)
 row:∀ i,Row w (ety i) (v i) (ct i)
 apart:∀ i j,i≠j→∀ g,(v i).ownBlock=some g→(v j).ownBlock≠some g
section
variable {w w' w1:World} {p:Nat} {c t:Int} {v:Fin 5→Value} {ct:Fin 5→List Value} {S:Nat→Prop}
theorem Bk.off (h:Bk w p c t v ct) (i:Fin 5):(v i).ownBlock≠some p:=
 (h.row i).block_ne (w2:=w) h.hd (by unfold ety;split <;> decide)
theorem Bk.lt (h:Bk w p c t v ct) {g:Nat} (hg:Own p v g):g<w.heap.size:=by
 rcases hg with rfl|⟨i,hi⟩
 ·exact h.hd.lt
 ·exact (h.row i).lt g hi
theorem Bk.ch (h:Bk w p c t v ct) (hc:Ch w w' S) (hn:∀ g,Own p v g→¬ S g):Bk w' p c t v ct:=
 ⟨hc.blk h.hd (hn p (.inl rfl)),fun i=>(h.row i).ch hc fun g hg=>hn g (.inr ⟨i,hg⟩),h.apart⟩
theorem Bk.alloc (h:Bk w p c t v ct) (o:Obj):Bk (w.alloc o) p c t v ct:=h.ch ((Ch.refl w Never).alloc o) fun _ _ h=>h
theorem Bk.app (h:Bk w p c t v ct) (i:Fin 5) {v':Value} {news:List Value} (hA:App w w1 0 (ety i) (v i) v' (ct i) news) (k:Nat) (hk:k=3+i.val) :
  Bk (w1.setCell ⟨p,k,none⟩ v') p c t (upd v i v') (upd ct i (ct i ++ news))∧Ch w (w1.setCell ⟨p,k,none⟩ v') (Own p v)∧∀ g,Own p (upd v i v') g→Own p v g∨w.heap.size≤g:=by
 subst hk
 have hc:=hA.ch
 have hp:Blk w1 p 55 (hdr c t v):=hc.blk h.hd (h.off i)
 have hlt:=h.hd.lt
 have far:∀ e u zs,Row w1 e u zs→u.ownBlock≠some p→Row (w1.setCell ⟨p,3+i.val,none⟩ v') e u zs:=fun e u zs hr hn =>
  hr.ch ((Ch.refl w1 (fun g=>g=p)).set_ _ _ (.inl rfl)) fun g hg e=>hn (by rw [hg,e])
 have hv':∀ g,v'.ownBlock=some g→(v i).ownBlock=some g∨w.heap.size≤g:=fun g hg=>by
  rcases hA.where_ with e|⟨k,hk,e⟩
  ·exact .inl (e ▸ hg)
  ·right;rw [e] at hg;rw [← Option.some.inj hg];exact hk
 refine ⟨⟨?_,fun j=>?_,fun j k hjk g hg hg2=>?_⟩,?_,fun g hg=>?_⟩
 ·rw [← hdr_set];exact hp.set_ _ _
 ·by_cases hj:j=i
  ·subst hj
   rw [upd_same,upd_same]
   exact far _ _ _ hA.row' fun e=>(hv' p e).elim (h.off j) (fun h2=>by omega)
  ·rw [upd_other _ _ hj,upd_other _ _ hj]
   refine far _ _ _ ((h.row j).ch hc fun g hg e=>h.apart j i hj g hg e) (h.off j)
 ·by_cases hj:j=i
  ·have hk:k≠i:=fun e=>hjk (hj.trans e.symm)
   rw [hj,upd_same] at hg
   rw [upd_other _ _ hk] at hg2
   rcases hv' g hg with e|e
   ·exact h.apart i k (fun e=>hk e.symm) g e hg2
   ·have:=(h.row k).lt g hg2;omega
  ·rw [upd_other _ _ hj] at hg
   by_cases hk:k=i
   ·rw [hk,upd_same] at hg2
    rcases hv' g hg2 with e|e
    ·exact h.apart j i hj g hg e
    ·have:=(h.row j).lt g hg;omega
   ·rw [upd_other _ _ hk] at hg2
    exact h.apart j k hjk g hg hg2
 ·exact (hc.mono (S':=Own p v) fun g hg=>.inr ⟨i,hg⟩).set_ _ _ (.inl (.inl rfl))
 ·rcases hg with e|⟨j,hj⟩
  ·exact .inl (.inl e)
  ·by_cases hji:j=i
   ·rw [hji,upd_same] at hj
    exact (hv' g hj).imp (fun e=>.inr ⟨i,e⟩) id
   ·rw [upd_other _ _ hji] at hj
    exact .inl (.inr ⟨j,hj⟩)
end
theorem one_new (w:World) (x:Value) (t:TypeId):∀ j u,([x]:List Value)[j]?=some u→(w.alloc (.cells #[x] t)).cell? ((⟨w.heap.size,0,none⟩:Addr).add j)=some u:=by
 intro j u hj
 have e:(⟨w.heap.size,0,none⟩:Addr).add j=⟨w.heap.size,j,none⟩:=by unfold Addr.add;split <;> simp_all
 rw [e,(Blk.new w t #[x]).cell j]
 simpa using hj
theorem info30:∃ i,Try.prog.info? 37=some i∧i.zero=some (.slice none 0 0)∧i.size=1∧i.bytes=24:=info_parts (by kernel_rfl)
theorem info3:∃ i,Try.prog.info? 3=some i∧i.zero=some (.int .i64 0)∧i.size=1∧i.bytes=8:=info_parts (by kernel_rfl)
theorem info5:∃ i,Try.prog.info? 5=some i∧i.zero=some (.int .u8 0)∧i.size=1∧i.bytes=1:=info_parts (by kernel_rfl)
end Go.Proofs.Ythmeojeehemlaaa.Bk
end
section
namespace Go.Proofs.Ythmeojeehemlaaa.Bk
open Go.RowKit Go.Proofs.YthmeojeehemlaaaW.PrintWords Go.Proofs.Ythmeojeehemlaaa.Mem Go.Proofs.Ythmeojeehemlaaa.Lnd
attribute [local go_sem] isSome_setCell
theorem keep_ (w:World) (p:Nat) (c t:Int) (v:Fin 5→Value) (ct:Fin 5→List Value) (A B:Option Addr) (n m k1 k2:Nat) (h:Bk w p c t v ct) (h3:(ct 3).length≤5800000000000) (h4:(ct 4).length≤5800000000000) :
  Calls Try.prog 79 #[.pointer (some ⟨p,0,none⟩),.slice A n k1,.slice B m k2] w fun e w'=>e=.returned (.tuple #[])∧∃ v',Bk w' p c t v' (upd (upd ct 3 (ct 3 ++ [.slice A n k1])) 4 (ct 4 ++ [.slice B m k2]))∧Ch w w' (Own p v)∧∀ g,Own p v' g→Own p v g∨w.heap.size≤g:=by
 obtain ⟨i,hi,hz0,hz1,hz2⟩:=info30
 have c6:=h.hd.cell 6
 have f6:=h.hd.frozen 6
 simp only [hdr,List.getElem?_toArray,List.getElem?_cons_zero,List.getElem?_cons_succ] at c6
 have H:=Lib.hid h
 have H3:=Lib.hid h3
 have H4:=Lib.hid h4
 clear h h3 h4
 obtain ⟨x3,hx3⟩:∃ x,x=v 3:=⟨_,rfl⟩
 rw [← hx3] at c6
 have HX:=Lib.hid hx3
 clear hx3
 go_enter Try.func79,Try.ntmps79
 go_wp2_with (at_builtin;refine wpList_app _ rfl _ _ 52 rfl 0 37 i (.slice none 0 0) 24 Try.underlying52 hi hz0 hz1 hz2 rfl x3 (ct 3) rfl ?q1 ⟨w.heap.size,0,none⟩ 1 1 [.slice A n k1] rfl rfl (by decide) ?q2 ?q3 ?q4 ?q5 ?q6 ?_)
 case q1=>rw [HX.out];exact (H.out.alloc _).row 3
 case q2=>exact one_new _ _ _
 case q3=>intro u hu;rw [List.mem_singleton.1 hu];rfl
 case q4=>have:=H3.out;unfold maxLen;omega
 case q5=>have:=H3.out;omega
 case q6=>exact Nat.zero_le _
 intro v' w1 hA
 obtain ⟨A3,c3,hv3,hc3⟩:=hA.row'.form
 obtain ⟨n3,hn3⟩:∃ N,N=(ct 3 ++ [Value.slice A n k1]).length:=⟨_,rfl⟩
 rw [← hn3] at hv3
 subst hv3
 clear hn3 hc3
 have HB:=Lib.hid ((H.out.alloc (.cells #[.slice A n k1] 37)).app 3 (HX.out ▸ hA) 6 rfl)
 have hp:w1.cell? ⟨p,6,none⟩=some x3:=by
  have h:=(hA.ch.blk (H.out.alloc _).hd (HX.out ▸ H.out.off 3)).cell 6
  simp only [hdr,List.getElem?_toArray,List.getElem?_cons_zero,List.getElem?_cons_succ] at h
  rw [HX.out];exact h
 have fp:=(hA.ch.blk (H.out.alloc _).hd (HX.out ▸ H.out.off 3)).frozen 6
 clear hA
 have c7:=HB.out.1.hd.cell 7
 have f7:=HB.out.1.hd.frozen 7
 obtain ⟨x4,hx4⟩:∃ x,x=v 4:=⟨_,rfl⟩
 simp only [hdr,List.getElem?_toArray,List.getElem?_cons_zero,List.getElem?_cons_succ] at c7
 rw [upd_other _ _ (show (4:Fin 5)≠3 from by decide),← hx4] at c7
 have HX4:=Lib.hid hx4
 clear hx4 c6 f6
 go_wp2_with (at_builtin;refine wpList_app _ rfl _ _ 52 rfl 0 37 i (.slice none 0 0) 24 Try.underlying52 hi hz0 hz1 hz2 rfl x4 (ct 4) rfl ?q1 ⟨w1.heap.size,0,none⟩ 1 1 [.slice B m k2] rfl rfl (by decide) ?q2 ?q3 ?q4 ?q5 ?q6 ?_)
 case q1=>rw [HX4.out];exact (HB.out.1.alloc _).row 4
 case q2=>intro j u hu;rw [show w1.heap.size=(w1.setCell ⟨p,6,none⟩ (.slice A3 n3 c3)).heap.size from by simp [World.setCell]];exact one_new _ _ _ j u hu
 case q3=>intro u hu;rw [List.mem_singleton.1 hu];rfl
 case q4=>have:=H4.out;unfold maxLen;omega
 case q5=>have:=H4.out;omega
 case q6=>exact Nat.zero_le _
 intro v2 w2 hA2
 obtain ⟨A4,c4,hv4,hc4⟩:=hA2.row'.form
 obtain ⟨n4,hn4⟩:∃ N,N=(ct 4 ++ [Value.slice B m k2]).length:=⟨_,rfl⟩
 rw [← hn4] at hv4
 subst hv4
 clear hn4 hc4
 have HB2:=Lib.hid ((HB.out.1.alloc (.cells #[.slice B m k2] 37)).app 4 (HX4.out ▸ hA2) 7 rfl)
 have hp2:w2.cell? ⟨p,7,none⟩=some x4:=by
  have h:=(hA2.ch.blk (HB.out.1.alloc _).hd (HX4.out ▸ (HB.out.1.off 4))).cell 7
  simp only [hdr,List.getElem?_toArray,List.getElem?_cons_zero,List.getElem?_cons_succ] at h
  rw [HX4.out];exact h
 have fp2:=(hA2.ch.blk (HB.out.1.alloc _).hd (HX4.out ▸ (HB.out.1.off 4))).frozen 7
 clear hA2
 go_wp2
 refine bodyPost_end (results_none rfl _ _ _) rfl ?_
 refine ⟨rfl,_,HB2.out.1,?_,?_⟩
 ·have h1:Ch w (w.alloc (.cells #[.slice A n k1] 37)) (Own p v):=(Ch.refl w _).alloc _
  have h2:=h1.trans HB.out.2.1 fun g hg=>.inl hg
  refine (h2.alloc _).trans HB2.out.2.1 fun g hg=>?_
  refine (HB.out.2.2 g hg).imp id fun h=>?_
  have:=h1.size
  simp at h;omega
 ·intro g hg
  have h1:Ch w (w.alloc (.cells #[.slice A n k1] 37)) (Own p v):=(Ch.refl w _).alloc _
  have h2:=(h1.trans HB.out.2.1 fun g hg=>.inl hg).alloc (.cells #[.slice B m k2] 37)
  rcases HB2.out.2.2 g hg with h|h
  ·refine (HB.out.2.2 g h).imp id fun h=>?_
   have:=h1.size
   simp at h;omega
  ·right;have:=h2.size;exact Nat.le_trans this h
def mv (k:Int) (i:Int):Int:=wrap64 (wrap64 (k+7*i)+1) % 256
def marks (n:Nat) (k:Int):List Int:=(List.range n).map fun (i:Nat)=>mv k i
theorem marks_length (n:Nat) (k:Int):(marks n k).length=n:=by simp [marks]
theorem marks_at (n:Nat) (k:Int) (i:Nat) (h:i<n):(marks n k)[i]?=some (mv k i):=by simp [marks,h]
theorem marks_bytes (n:Nat) (k:Int):∀ x∈marks n k,0≤x∧x<256:=by
 intro x hx
 obtain ⟨i,_,rfl⟩:=List.mem_map.1 hx
 unfold mv;omega
def bs (xs:List Int):List Value:=xs.map (.int .u8)
theorem bs_length (xs:List Int):(bs xs).length=xs.length:=by simp [bs]
theorem bs_append (xs ys:List Int):bs (xs ++ ys)=bs xs ++ bs ys:=by simp [bs]
theorem marked_ (w:World) (k:Nat) (mk:Int) (hk:k≤4398046511104) :
  Calls Try.prog 78 #[.int .i64 (k:Int),.int .i64 mk] w fun e w'=>e=.returned (.slice (some ⟨w.heap.size,0,none⟩) k k)∧Blk w' w.heap.size 5 (ints (marks k mk))∧Ch w w' Never:=by
 have hmk:∀ W:World,(Instr.makeSlice 37 (.int .i64 (k:Int)) (.int .i64 (k:Int))).run Try.prog W=.ok (.slice (some ⟨W.heap.size,0,none⟩) k k) (W.alloc (.cells (madeCells #[.int .u8 0] k) 5)):=
  print_make (P:=Try.prog) 37 5 .u8 1 Try.underlying37 (by kernel_rfl) (by decide) k (by omega)
 have hb0:Blk (w.alloc (.cells (madeCells #[.int .u8 0] k) 5)) w.heap.size 5 (ints (List.replicate k 0)):=by
  have e:=ints_made k
  rw [Nat.mul_one] at e
  rw [← e]
  exact Blk.new _ _ _
 have HB:=Lib.hid hb0
 have HC:=Lib.hid ((Ch.refl w Never).alloc (.cells (madeCells #[.int .u8 0] k) 5))
 clear hb0
 go_enter Try.func78,Try.ntmps78
 go_wp2
 go_loopw [6] (fun i wr=>∃ (j:Nat) (ys:List Int),j≤k∧i=.int .i64 (j:Int)∧Hid (ys.length=k)∧Hid (Blk wr w.heap.size 5 (ints ys))∧Hid (ys.take j=(marks k mk).take j)∧Hid (Ch w wr Never)) (fun i _=>k - (RowKit.intOf i).toNat)
 case atStart=>exact ⟨0,List.replicate k 0,Nat.zero_le _,rfl,Lib.hid (by simp),HB,Lib.hid rfl,HC⟩
 case round =>
  obtain ⟨j,ys,hj,rfl,hys,hB,hT,hC⟩:=hrel
  by_cases hlt:j<k
  ·have cb:=hB.out.cell j
   rw [ints_at ys j (by rw [hys.out];omega)] at cb
   have fb:=hB.out.frozen j
   have HM:=Lib.hid (marks_at k mk j hlt)
   have h2:=Lib.hid (show Blk (wr.setCell ⟨w.heap.size,j,none⟩ (.int .u8 (mv mk j))) w.heap.size 5 (ints (ys.set j (mv mk j))) from by rw [← ints_set];exact hB.out.set_ j _)
   go_wp2
   go_roundw
   case rel=>exact ⟨j+1,ys.set j (mv mk j),by omega,by go_num,Lib.hid (by rw [List.length_set];exact hys.out),h2,Lib.hid (take_set ys (marks k mk) j _ (by rw [hys.out];omega) hT.out HM.out),Lib.hid (hC.out.set_ _ _ (.inr (Nat.le_refl _)))⟩
   case measure=>simp [RowKit.intOf];omega
  ·obtain rfl:j=k:=by omega
   go_wp2
   go_ret
   refine ⟨rfl,?_,hC.out⟩
   have h:=hT.out
   rw [List.take_of_length_le (Nat.le_of_eq hys.out),List.take_of_length_le (Nat.le_of_eq (marks_length _ _))] at h
   rw [← h];exact hB.out
end Go.Proofs.Ythmeojeehemlaaa.Bk
end
section
namespace Go.Proofs.Ythmeojeehemlaaa.Bk
open Go.RowKit Go.Proofs.YthmeojeehemlaaaW.PrintWords Go.Proofs.Ythmeojeehemlaaa.Mem Go.Proofs.Ythmeojeehemlaaa.Lnd
attribute [local go_sem] isSome_setCell
theorem C_of_row {w:World} {A:Option Addr} {n c:Nat} {xs:List Int} (h:Row w 5 (.slice A n c) (bs xs)):n=xs.length∧Kd.C (Kd.int .u8) w A xs.length xs:=by
 rcases h.2 with ⟨e,h0⟩|⟨g,cap,cur,e,hb,hg,hn,hc,hs,ht⟩
 ·obtain ⟨rfl,rfl,rfl⟩:=Value.slice.inj e
  rw [bs_length] at h0
  have hx:xs=[]:=List.eq_nil_of_length_eq_zero h0
  subst hx
  exact ⟨rfl,rfl,by decide,fun h=>absurd h (Nat.lt_irrefl 0)⟩
 ·obtain ⟨rfl,rfl,rfl⟩:=Value.slice.inj e
  have hB:Blk w g 5 cur:=hg
  rw [bs_length] at hn ⊢
  refine ⟨rfl,rfl,by simp only [maxLen] at hc;omega,fun _=>⟨_,rfl,fun j p hj=>⟨[.int .u8 p],rfl,rfl,fun i u hu=>?_⟩⟩⟩
  have hj':j<xs.length:=(List.getElem?_eq_some_iff.1 hj).1
  have hi:i=0:=by
   have:=(List.getElem?_eq_some_iff.1 hu).1
   simpa using this
  subst hi
  have hu':Value.int .u8 p=u:=by simpa using hu
  subst hu'
  have h1:(cur.toList.take ((bs xs).length*1))[j]?=(bs xs)[j]?:=by rw [ht]
  rw [List.getElem?_take,if_pos (by rw [bs_length];omega)] at h1
  have h2:(bs xs)[j]?=some (.int .u8 p):=by simp [bs,hj]
  rw [h2] at h1
  have hcell:=hB.cell j
  rw [← Array.getElem?_toList,h1] at hcell
  rw [← hcell]
  unfold Addr.add
  simp [Kd.int,Kd.scalar]
  by_cases h0:j=0 <;> simp [h0]
theorem string_of_row {w:World} {A:Option Addr} {n c:Nat} {xs:List Int} (h:Row w 5 (.slice A n c) (bs xs)) (q:Nat):(convert 37 9 (.slice A n c)).run Try.prog (w.drewN q)=.ok (.string (strOfNums xs)) (w.drewN q):=by
 obtain ⟨rfl,hC⟩:=C_of_row h
 have h:Kd.C (Kd.int .u8) (w.drewN q) A xs.length xs:=hC
 exact Kd.C_string (P:=Try.prog) (c:=c) Try.underlying37 Try.underlying5 Try.underlying9 h
def Pairs (w:World) (ls ws:List Value):Prop:=ls.length=ws.length∧∀ (i:Nat) (l d:Value),ls[i]?=some l→ws[i]?=some d→∃ xs,Row w 5 l (bs xs)∧Row w 5 d (bs xs)
theorem Ch.same {w w':World} {S:Nat→Prop} (h:Ch w w' S) {g t i:Nat} {cs:Array Value} {u:Value} (hb:Blk w' g t cs) (hu:cs[i]?=some u):Ch w (w'.setCell ⟨g,i,none⟩ u) S:=by
 refine ⟨h.os,h.tape,h.output,by simpa [World.setCell] using h.size,fun k hk hn=>?_⟩
 rw [← h.block k hk hn]
 by_cases e:g=k
 ·subst e
  have h2:=hb.set_ i u
  have e2:cs.setIfInBounds i u=cs:=by
   obtain ⟨hlt,e3⟩:=Array.getElem?_eq_some_iff.1 hu
   apply Array.ext
   ·simp
   ·intro j h1 h2
    rw [Array.getElem_setIfInBounds]
    split
    ·rename_i e4;subst e4;exact e3.symm
    ·rfl
  rw [e2] at h2
  unfold Blk at h2 hb
  rw [h2,hb]
 ·simp [World.setCell,Array.getElem?_modify,e]
theorem Pairs.ch {w w':World} {S:Nat→Prop} {ls ws:List Value} (h:Pairs w ls ws) (hc:Ch w w' S) (hn:∀ u,u∈ls∨u∈ws→∀ g,u.ownBlock=some g→¬ S g):Pairs w' ls ws:=
 ⟨h.1,fun i l d hl hd=>by
  obtain ⟨xs,h1,h2⟩:=h.2 i l d hl hd
  exact ⟨xs,h1.ch hc (hn l (.inl (List.mem_of_getElem? hl))),h2.ch hc (hn d (.inr (List.mem_of_getElem? hd)))⟩⟩
theorem Pairs.never {w w':World} {ls ws:List Value} (h:Pairs w ls ws) (hc:Ch w w' Never):Pairs w' ls ws:=h.ch hc fun _ _ _ _ h=>h
theorem untouched_ (w:World) (p:Nat) (c t:Int) (v:Fin 5→Value) (ct:Fin 5→List Value) (h:Bk w p c t v ct) (hp:Pairs w (ct 0) (ct 1)) (hs:(ct 0).length≤5800000000000) :
  Calls Try.prog 54 #[.pointer (some ⟨p,0,none⟩)] w fun e w'=>e=.returned (.tuple #[])∧Ch w w' Never:=by
 have H:=Lib.hid h
 have HP:=Lib.hid hp
 have HS:=Lib.hid hs
 obtain ⟨n,hn⟩:∃ n,n=(ct 0).length:=⟨_,rfl⟩
 have HN:=Lib.hid hn
 rw [← hn] at hs
 clear h hp hn
 go_enter Try.func54,Try.ntmps54
 go_wp2
 go_loopw [2] (fun i wr=>∃ (k:Nat),k≤n∧i=.int .i64 (k:Int)∧Hid (Ch w wr Never)) (fun i _=>n - (RowKit.intOf i).toNat)
 case atStart=>exact ⟨0,Nat.zero_le _,rfl,Lib.hid (Ch.refl _ _)⟩
 case round =>
  obtain ⟨k,hk,rfl,hC⟩:=hrel
  have HBk:=Lib.hid (H.out.ch hC.out fun _ _ h=>h)
  have c2:=HBk.out.hd.cell 2
  have c3:=HBk.out.hd.cell 3
  have c4:=HBk.out.hd.cell 4
  have f2:=HBk.out.hd.frozen 2
  simp only [hdr,List.getElem?_toArray,List.getElem?_cons_zero,List.getElem?_cons_succ] at c2 c3 c4
  by_cases hlt:k<n
  ·have hl0:k<(ct 0).length:=by rw [← HN.out];exact hlt
   have hl1:k<(ct 1).length:=by rw [← HP.out.1];exact hl0
   obtain ⟨g0,k0,e0,l0,m0,a0⟩:=(HBk.out.row 0).at (by omega)
   obtain ⟨g1,k1,e1,l1,m1,a1⟩:=(HBk.out.row 1).at (by omega)
   rw [← HN.out] at e0 l0
   rw [← HP.out.1,← HN.out] at e1 l1
   obtain ⟨a0,_⟩:=a0 k hl0
   obtain ⟨a1,_⟩:=a1 k hl1
   obtain ⟨x0,hx0⟩:∃ x,x=(ct 0)[k]'hl0:=⟨_,rfl⟩
   obtain ⟨x1,hx1⟩:∃ x,x=(ct 1)[k]'hl1:=⟨_,rfl⟩
   obtain ⟨xs,r0,r1⟩:=(HP.out.never hC.out).2 k x0 x1 (by rw [hx0];exact List.getElem?_eq_getElem _) (by rw [hx1];exact List.getElem?_eq_getElem _)
   rw [← hx0] at a0
   rw [← hx1] at a1
   clear hx0 hx1 hl0 hl1
   obtain ⟨A0,n0,hv0,hc0⟩:=r0.form
   obtain ⟨A1,n1,hv1,hc1⟩:=r1.form
   obtain ⟨m,hm⟩:∃ m,m=(bs xs).length:=⟨_,rfl⟩
   rw [← hm] at hv0 hv1
   subst hv0 hv1
   have s0:(convert 37 9 (.slice A0 m n0)).run Try.prog wr.drew=.ok (.string (strOfNums xs)) wr.drew:=string_of_row r0 1
   have s1:(convert 37 9 (.slice A1 m n1)).run Try.prog wr.drew=.ok (.string (strOfNums xs)) wr.drew:=string_of_row r1 1
   rw [e0] at c3
   rw [e1] at c4
   clear r0 r1 e0 e1 hm hc0 hc1
   have HW:=Lib.hid (hC.out.same HBk.out.hd (i:=2) (u:=.bool false) rfl)
   go_wp2
   go_region
   all_goals
    go_wp2
    go_roundw
    case rel=>exact ⟨k+1,by omega,by go_num,Lib.hid HW.out.drew⟩
    case measure=>simp [RowKit.intOf];omega
  ·obtain rfl:k=n:=by omega
   obtain ⟨A0,k0,e0,l0⟩:=(HBk.out.row 0).form
   rw [← HN.out] at e0 l0
   rw [e0] at c3
   go_wp2
   refine bodyPost_end (results_none rfl _ _ _) rfl ?_
   exact ⟨rfl,hC.out⟩
end Go.Proofs.Ythmeojeehemlaaa.Bk
end
section
namespace Go.Proofs.Ythmeojeehemlaaa.Bk
open Go.RowKit Go.Proofs.YthmeojeehemlaaaW.PrintWords Go.Proofs.Ythmeojeehemlaaa.Mem Go.Proofs.Ythmeojeehemlaaa.Lnd
attribute [local go_sem] isSome_setCell
theorem same_ (w:World) (p:Nat) (c t:Int) (v:Fin 5→Value) (ct:Fin 5→List Value) (h:Bk w p c t v ct) (hp:Pairs w (ct 3) (ct 4)) (hs:(ct 3).length≤5800000000000) :
  Calls Try.prog 55 #[.pointer (some ⟨p,0,none⟩)] w fun e w'=>e=.returned (.bool true)∧Ch w w' Never:=by
 have H:=Lib.hid h
 have HP:=Lib.hid hp
 have HS:=Lib.hid hs
 obtain ⟨n,hn⟩:∃ n,n=(ct 3).length:=⟨_,rfl⟩
 have HN:=Lib.hid hn
 rw [← hn] at hs
 clear h hp hn
 go_enter Try.func55,Try.ntmps55
 go_wp2
 go_loopw [3] (fun i wr=>∃ (k:Nat),k≤n∧i=.int .i64 (k:Int)∧Hid (Ch w wr Never)) (fun i _=>n - (RowKit.intOf i).toNat)
 case atStart=>exact ⟨0,Nat.zero_le _,rfl,Lib.hid (Ch.refl _ _)⟩
 case round =>
  obtain ⟨k,hk,rfl,hC⟩:=hrel
  have HBk:=Lib.hid (H.out.ch hC.out fun _ _ h=>h)
  have c6:=HBk.out.hd.cell 6
  have c7:=HBk.out.hd.cell 7
  simp only [hdr,List.getElem?_toArray,List.getElem?_cons_zero,List.getElem?_cons_succ] at c6 c7
  by_cases hlt:k<n
  ·have hl0:k<(ct 3).length:=by rw [← HN.out];exact hlt
   have hl1:k<(ct 4).length:=by rw [← HP.out.1];exact hl0
   obtain ⟨g0,k0,e0,l0,m0,a0⟩:=(HBk.out.row 3).at (by omega)
   obtain ⟨g1,k1,e1,l1,m1,a1⟩:=(HBk.out.row 4).at (by omega)
   rw [← HN.out] at e0 l0
   rw [← HP.out.1,← HN.out] at e1 l1
   obtain ⟨a0,_⟩:=a0 k hl0
   obtain ⟨a1,_⟩:=a1 k hl1
   obtain ⟨x0,hx0⟩:∃ x,x=(ct 3)[k]'hl0:=⟨_,rfl⟩
   obtain ⟨x1,hx1⟩:∃ x,x=(ct 4)[k]'hl1:=⟨_,rfl⟩
   obtain ⟨xs,r0,r1⟩:=(HP.out.never hC.out).2 k x0 x1 (by rw [hx0];exact List.getElem?_eq_getElem _) (by rw [hx1];exact List.getElem?_eq_getElem _)
   rw [← hx0] at a0
   rw [← hx1] at a1
   clear hx0 hx1 hl0 hl1
   obtain ⟨A0,n0,hv0,hc0⟩:=r0.form
   obtain ⟨A1,n1,hv1,hc1⟩:=r1.form
   obtain ⟨m,hm⟩:∃ m,m=(bs xs).length:=⟨_,rfl⟩
   rw [← hm] at hv0 hv1
   subst hv0 hv1
   have s0:(convert 37 9 (.slice A0 m n0)).run Try.prog wr.drew=.ok (.string (strOfNums xs)) wr.drew:=string_of_row r0 1
   have s1:(convert 37 9 (.slice A1 m n1)).run Try.prog wr.drew=.ok (.string (strOfNums xs)) wr.drew:=string_of_row r1 1
   rw [e0] at c6
   rw [e1] at c7
   clear r0 r1 e0 e1 hm hc0 hc1
   go_wp2
   go_region
   all_goals
    go_wp2
    go_roundw
    case rel=>exact ⟨k+1,by omega,by go_num,Lib.hid hC.out.drew⟩
    case measure=>simp [RowKit.intOf];omega
  ·obtain rfl:k=n:=by omega
   obtain ⟨A0,k0,e0,l0⟩:=(HBk.out.row 3).form
   rw [← HN.out] at e0 l0
   rw [e0] at c6
   go_wp2
   go_ret
   exact ⟨rfl,hC.out⟩
theorem holds_ (w:World) (p:Nat) (c t:Int) (v:Fin 5→Value) (ct:Fin 5→List Value) (h:Bk w p c t v ct) (h0:Pairs w (ct 0) (ct 1)) (hs0:(ct 0).length≤5800000000000) (hp:Pairs w (ct 3) (ct 4)) (hs:(ct 3).length≤5800000000000) :
  Calls Try.prog 18 #[.pointer (some ⟨p,0,none⟩)] w fun e w'=>e=.returned (.bool true)∧Ch w w' Never:=by
 have HS:=Lib.hid (same_ · p c t v ct)
 have HU:=Lib.hid (untouched_ w p c t v ct h h0 hs0)
 have H:=Lib.hid h
 have HP:=Lib.hid hp
 clear h h0 hp
 go_enter Try.func18,Try.ntmps18
 go_wp2_with (go_at_call 54;refine HU.out.mono ?_;rintro e w1 ⟨rfl,hc⟩;have HC:=Lib.hid hc;have HB:=Lib.hid (H.out.ch hc fun _ _ h=>h);have c2:=HB.out.hd.cell 2;simp only [hdr,List.getElem?_toArray,List.getElem?_cons_zero,List.getElem?_cons_succ] at c2;have HSM:=Lib.hid (HS.out w1 HB.out (HP.out.never hc) hs);clear hc)
 go_wp2_with (go_at_call 55;refine HSM.out.mono ?_;rintro e w2 ⟨rfl,hc⟩;have HC2:=Lib.hid hc;clear hc)
 go_ret
 exact ⟨rfl,HC.out.trans HC2.out fun _ h=>.inl h⟩
end Go.Proofs.Ythmeojeehemlaaa.Bk
end
section
namespace Go.Proofs.Ythmeojeehemlaaa.Bk
open Go.RowKit Go.Proofs.YthmeojeehemlaaaW.PrintWords Go.Proofs.Ythmeojeehemlaaa.Mem Go.Proofs.Ythmeojeehemlaaa.Lnd Go.Proofs.Ythmeojeehemlaaa.PM
attribute [local go_sem] isSome_setCell
theorem Ch.of_below {w w':World} (h:Below w.heap.size w w'):Ch w w' Never:=⟨h.os,h.tape,h.output,h.size,fun g hg _=>h.block g hg⟩
theorem R_row {w:World} {base:Nat} {ok:Nat→Prop} {v:Value} {r:List Int} (h:Kd.R (Kd.int .u8) 5 w base ok v r):w.ownsRow base 5 1 v r.length (bs r):=by
 obtain ⟨A,c,he,hl,hc⟩:=Kd.R_reads h
 obtain ⟨inner,h1,h2⟩:=Kd.R_own h
 subst he
 refine ⟨by rw [bs_length];omega,?_⟩
 rcases h2 with ⟨hv,h0⟩|⟨g,cap,cur,hv,hb,hh,hnc,hcm,hsz,ht⟩
 ·injection hv with e1 e2 e3
  subst e1;subst e3
  exact .inl ⟨by rw [e2],e2⟩
 ·have hsz1:cur.size=cap*1:=hsz
  have hv1:=hv
  injection hv1 with e1 e2 e3
  refine .inr ⟨g,cap,cur,hv,hb,hh,hnc,hcm,hsz,?_⟩
  have hB:Blk w g 5 cur:=hh
  apply List.ext_getElem?
  intro i
  by_cases hi:i<r.length
  ·obtain ⟨b,off,eA,hcell⟩:=Rd.of_C hc (by omega)
   rw [e1] at eA
   injection eA with eA
   injection eA with eb eo
   subst eb;subst eo
   have:=hcell i hi
   rw [Nat.zero_add,hB.cell i] at this
   rw [List.getElem?_take,if_pos (by omega),Array.getElem?_toList,this]
   simp [bs,hi]
  ·rw [List.getElem?_eq_none (by rw [List.length_take];omega),List.getElem?_eq_none (by rw [bs_length];omega)]
theorem Row.of_own {w:World} {base:Nat} {e:TypeId} {v:Value} {xs:List Value} (h:w.ownsRow base e 1 v xs.length xs):Row w e v xs∧∀ g,v.ownBlock=some g→base≤g:=by
 refine ⟨⟨h.1,?_⟩,fun g hg=>(World.ownsRow.lt h g hg).1⟩
 rcases h.2 with hn|⟨g,cap,cur,hv,hb,rest⟩
 ·exact .inl hn
 ·exact .inr ⟨g,cap,cur,hv,Nat.zero_le _,rest⟩
theorem copy_ (w:World) (A:Option Addr) (n c:Nat) (xs:List Int) (h:Row w 5 (.slice A n c) (bs xs)) (hn:n≤4398046511104) :
  Calls Try.prog 21 #[.slice A n c] w fun e w'=>∃ v,e=.returned v∧Row w' 5 v (bs xs)∧Ch w w' Never∧∀ g,v.ownBlock=some g→w.heap.size≤g:=by
 obtain ⟨A',c',hv,hc⟩:=h.form
 obtain ⟨rfl,hC⟩:=C_of_row h
 injection hv with _ _ e3
 subst e3
 rw [bs_length] at hc
 refine (spindlelaw0_CopyBytes.calls A c xs xs w hC hc (by unfold spindlelaw0_CopyBytes.f;rw [Option.bind_some,if_pos (by simp only [List.length_nil];omega),List.nil_append])).mono ?_
 rintro e w' ⟨v,he,hR,hb⟩
 have h1:=R_row hR
 rw [← bs_length] at h1
 have h2:=Row.of_own h1
 exact ⟨v,he,h2.1,Ch.of_below hb,h2.2⟩
theorem Row.other {w:World} {e e2:TypeId} {a b:Value} {xs ys:List Value} (h:Row w e a xs) (h2:Row w e2 b ys) (hne:e2≠e) {g:Nat} (ha:a.ownBlock=some g):b.ownBlock≠some g:=by
 intro hb
 rcases h2.2 with ⟨rfl,_⟩|⟨g',cap,cur,rfl,_,hg,_⟩
 ·simp [Value.ownBlock] at hb
 ·have:g'=g:=by simpa [Value.ownBlock] using hb
  subst this
  exact h.block_ne (w2:=w) (t:=e2) (cs:=cur) hg hne ha
theorem Row.set_ {w:World} {e:TypeId} {g n cap:Nat} {xs:List Value} (h:Row w e (.slice (some ⟨g,0,none⟩) n cap) xs) (k:Nat) (x:Value) (hk:k<xs.length):Row (w.setCell ⟨g,k,none⟩ x) e (.slice (some ⟨g,0,none⟩) n cap) (xs.set k x):=by
 rcases h.2 with ⟨e1,_⟩|⟨g',cap',cur,e1,hb,hg,hn,hc,hs,ht⟩
 ·cases e1
 ·injection e1 with a1 a2 a3
  have hgg:g=g':=by simpa using a1
  subst hgg;subst a2;subst a3
  have hB:Blk w g e cur:=hg
  have h2:=hB.set_ k x
  refine ⟨by simp,.inr ⟨g,cap,_,by simp,Nat.zero_le _,h2,by simpa using hn,hc,by simpa using hs,?_⟩⟩
  rw [Array.toList_setIfInBounds,List.length_set]
  have:xs.set k x=(cur.toList.take (xs.length*1)).set k x:=by rw [ht]
  rw [this,List.take_set]
theorem ints_row {w:World} {g:Nat} {xs:List Int} (h:Blk w g 5 (ints xs)) (n:Nat) (hn:n=xs.length) (hs:n≤4398046511104):Row w 5 (.slice (some ⟨g,0,none⟩) n n) (bs xs):=by
 subst hn
 exact ⟨by simp,.inr ⟨g,xs.length,ints xs,by rw [bs_length],Nat.zero_le _,h,by rw [bs_length];exact Nat.le_refl _,by unfold maxLen;omega,by simp [ints],by simp only [ints,bs,List.length_map,Nat.mul_one];exact List.take_of_length_le (by simp)⟩⟩
def sl:Value→Nat
 | .slice _ n _=>n
 | _=>0
theorem Row.sl_ {w:World} {e:TypeId} {v:Value} {xs:List Value} (h:Row w e v xs):sl v=xs.length:=by
 obtain ⟨A,c,rfl,_⟩:=h.form;rfl
theorem Bk.clear {w:World} {p:Nat} {c t:Int} {v:Fin 5→Value} {ct:Fin 5→List Value} (h:Bk w p c t v ct) (i:Fin 5) (k:Nat) (hk:k=3+i.val) :
  Bk (w.setCell ⟨p,k,none⟩ (.slice none 0 0)) p c t (upd v i (.slice none 0 0)) (upd ct i [])∧Ch w (w.setCell ⟨p,k,none⟩ (.slice none 0 0)) (fun g=>g=p)∧∀ g,Own p (upd v i (.slice none 0 0)) g→Own p v g:=by
 subst hk
 have hc:Ch w (w.setCell ⟨p,3+i.val,none⟩ (.slice none 0 0)) (fun g=>g=p):=(Ch.refl w _).set_ _ _ (.inl rfl)
 refine ⟨⟨?_,fun j=>?_,fun j k hjk g hg hg2=>?_⟩,hc,fun g hg=>?_⟩
 ·rw [← hdr_set];exact h.hd.set_ _ _
 ·by_cases hj:j=i
  ·subst hj
   rw [upd_same,upd_same]
   exact Row.nil _ _
  ·rw [upd_other _ _ hj,upd_other _ _ hj]
   exact (h.row j).ch hc fun g hg e=>h.off j (e ▸ hg)
 ·by_cases hj:j=i
  ·rw [hj,upd_same] at hg;simp [Value.ownBlock] at hg
  ·by_cases hk:k=i
   ·rw [hk,upd_same] at hg2;simp [Value.ownBlock] at hg2
   ·rw [upd_other _ _ hj] at hg
    rw [upd_other _ _ hk] at hg2
    exact h.apart j k hjk g hg hg2
 ·rcases hg with e|⟨j,hj⟩
  ·exact .inl e
  ·by_cases hji:j=i
   ·rw [hji,upd_same] at hj;simp [Value.ownBlock] at hj
   ·rw [upd_other _ _ hji] at hj
    exact .inr ⟨j,hj⟩
structure It (s0 wr:World) (u:Value) (mu:List Int) (gs:List Value) (g4:Value) (ys:List Int):Prop where
 ch:Ch s0 wr (fun g=>u.ownBlock=some g)
 row:Row wr 5 u (bs mu)
 oth:∀ x∈gs,(∃ xs,Row wr 5 x (bs xs))∧∀ g,x.ownBlock=some g→u.ownBlock=some g∨s0.heap.size≤g
 len:∀ x∈gs,sl x≤mu.length+3070
 r4:Row wr 5 g4 (bs (mu ++ ys))
 b4:∀ g,g4.ownBlock=some g→u.ownBlock=some g∨s0.heap.size≤g
theorem It.start {s0 wr:World} {u:Value} {mu:List Int} (hc:Ch s0 wr (fun g=>u.ownBlock=some g)) (h:Row wr 5 u (bs mu)):It s0 wr u mu [] u []:=
 ⟨hc,h,fun x hx=>absurd hx List.not_mem_nil,fun x hx=>absurd hx List.not_mem_nil,by rw [List.append_nil];exact h,fun g hg=>.inl hg⟩
theorem It.never {s0 wr w2:World} {u g4:Value} {mu ys:List Int} {gs:List Value} (h:It s0 wr u mu gs g4 ys) (hc:Ch wr w2 Never):It s0 w2 u mu gs g4 ys:=
 ⟨h.ch.trans hc fun _ h=>h.elim,h.row.ch hc fun _ _ h=>h,fun x hx=>⟨(h.oth x hx).1.imp fun xs hr=>hr.ch hc fun _ _ h=>h,(h.oth x hx).2⟩,h.len,h.r4.ch hc fun _ _ h=>h,h.b4⟩
theorem It.alloc {s0 wr:World} {u g4:Value} {mu ys:List Int} {gs:List Value} (h:It s0 wr u mu gs g4 ys) (o:Obj):It s0 (wr.alloc o) u mu gs g4 ys:=h.never ((Ch.refl wr _).alloc o)
theorem int_mem {xs:List Int} {x:Value} (h:x∈bs xs):∃ n,x=.int .u8 n:=by
 obtain ⟨n,_,rfl⟩:=List.mem_map.1 h
 exact ⟨n,rfl⟩
theorem all_bs {zs:List Value} (h:∀ x∈zs,∃ n,x=.int .u8 n):∃ xs,zs=bs xs:=by
 induction zs with
 | nil=>exact ⟨[],rfl⟩
 | cons z r ih =>
  obtain ⟨n,rfl⟩:=h z (List.mem_cons_self ..)
  obtain ⟨xs,rfl⟩:=ih fun x hx=>h x (List.mem_cons_of_mem _ hx)
  exact ⟨n :: xs,rfl⟩
theorem App.bytes {w w':World} {b:Nat} {v v':Value} {xs news:List Int} (h:App w w' b 5 v v' (bs xs) (bs news)) {x:Value} (hx:∃ ys,Row w 5 x (bs ys)):∃ ys,Row w' 5 x (bs ys):=by
 obtain ⟨ys,hr⟩:=hx
 obtain ⟨zs,h1,h2⟩:=h.some2 _ _ _ _ hr
 obtain ⟨zs',rfl⟩:=all_bs (zs:=zs) fun z hz=>by
  rcases h2 z hz with h|h|h
  ·exact int_mem h
  ·exact int_mem h
  ·exact int_mem h
 refine ⟨zs',?_⟩
 have:(bs zs').length=(bs ys).length:=by have:=h1.1;omega
 unfold Row
 rw [this];exact h1
theorem It.app_u {s0 wr w1:World} {u g4 v':Value} {mu ys news:List Int} {gs:List Value} (h:It s0 wr u mu gs g4 ys) (hA:App wr w1 0 5 u v' (bs mu) (bs news)) (hp:ys=[]∨ys=news) (hl:news.length≤3070):It s0 w1 u mu (gs ++ [v']) g4 ys:=by
 have hv':∀ g,v'.ownBlock=some g→u.ownBlock=some g∨s0.heap.size≤g:=fun g hg=>by
  rcases hA.where_ with e|⟨k,hk,e⟩
  ·exact .inl (e ▸ hg)
  ·right;rw [e] at hg;rw [← Option.some.inj hg];exact Nat.le_trans h.ch.size hk
 refine ⟨h.ch.trans hA.ch fun g hg=>.inl hg,hA.keep _ _ _ _ h.row (.inr (List.prefix_append _ _)),fun x hx=>?_,fun x hx=>?_,hA.keep _ _ _ _ h.r4 (.inr ?_),h.b4⟩
 ·rcases List.mem_append.1 hx with hx|hx
  ·exact ⟨hA.bytes (h.oth x hx).1,(h.oth x hx).2⟩
  ·rw [List.mem_singleton.1 hx]
   refine ⟨⟨mu ++ news,?_⟩,hv'⟩
   rw [bs_append];exact hA.row'
 ·rcases List.mem_append.1 hx with hx|hx
  ·exact h.len x hx
  ·rw [List.mem_singleton.1 hx,hA.row'.sl_,List.length_append,bs_length,bs_length];omega
 ·rcases hp with rfl|rfl
  ·rw [List.append_nil];exact List.prefix_append _ _
  ·rw [bs_append];exact List.prefix_refl _
theorem It.app_4 {s0 wr w1:World} {u g4 v':Value} {mu ys news:List Int} {gs:List Value} (h:It s0 wr u mu gs g4 ys) (hA:App wr w1 0 5 g4 v' (bs (mu ++ ys)) (bs news)):It s0 w1 u mu gs v' (ys ++ news)∧∀ g,v'.ownBlock=some g→g4.ownBlock=some g∨wr.heap.size≤g:=by
 have hv':∀ g,v'.ownBlock=some g→g4.ownBlock=some g∨wr.heap.size≤g:=fun g hg=>by
  rcases hA.where_ with e|⟨k,hk,e⟩
  ·exact .inl (e ▸ hg)
  ·right;rw [e] at hg;rw [← Option.some.inj hg];exact hk
 refine ⟨⟨h.ch.trans hA.ch fun g hg=>h.b4 g hg,hA.keep _ _ _ _ h.row (.inr ?_),fun x hx=>⟨hA.bytes (h.oth x hx).1,(h.oth x hx).2⟩,h.len,?_,fun g hg=>?_⟩,hv'⟩
 ·rw [bs_append,List.append_assoc];exact List.prefix_append _ _
 ·rw [← List.append_assoc,bs_append (mu ++ ys)];exact hA.row'
 ·rcases hv' g hg with e|e
  ·exact h.b4 g e
  ·exact .inr (Nat.le_trans h.ch.size e)
end Go.Proofs.Ythmeojeehemlaaa.Bk
end
section
namespace Go.Proofs.Ythmeojeehemlaaa.Bk
open Go.RowKit Go.Proofs.YthmeojeehemlaaaW.PrintWords Go.Proofs.Ythmeojeehemlaaa.Mem Go.Proofs.Ythmeojeehemlaaa.Lnd Go.Proofs.Ythmeojeehemlaaa.PM
attribute [local go_sem] isSome_setCell
def Fb (fs:List Value) (k:Nat) (g:Nat):Prop:=∃ (j:Nat) (u:Value),k≤j∧fs[j]?=some u∧u.ownBlock=some g
def Foot (p:Nat) (v:Fin 5→Value) (ct:Fin 5→List Value) (g:Nat):Prop:=Own p v g∨Fb (ct 0) 0 g∨Fb (ct 1) 0 g∨Fb (ct 3) 0 g∨Fb (ct 4) 0 g
structure Book (w:World) (p:Nat) (c t:Int) (v:Fin 5→Value) (ct:Fin 5→List Value):Prop where
 bk:Bk w p c t v ct
 fh:Pairs w (ct 0) (ct 1)
 kw:Pairs w (ct 3) (ct 4)
 mlen:(ct 2).length=(ct 0).length
 mint:∀ u∈ct 2,∃ m,u=.int .i64 m
 apart:∀ (i j:Nat) (u x:Value) (g:Nat),(ct 0)[i]?=some u→(ct 0)[j]?=some x→i≠j→u.ownBlock=some g→x.ownBlock≠some g
 far:∀ g,Fb (ct 0) 0 g→¬ Fb (ct 1) 0 g∧¬ Fb (ct 3) 0 g∧¬ Fb (ct 4) 0 g
 small:∀ u∈ct 0,sl u≤549755813888
theorem Bk.sep {w:World} {p:Nat} {c t:Int} {v:Fin 5→Value} {ct:Fin 5→List Value} (h:Bk w p c t v ct) {u:Value} {zs:List Value} (hr:Row w 5 u zs) {g:Nat} (hg:u.ownBlock=some g):¬ Own p v g:=by
 rintro (rfl|⟨i,hi⟩)
 ·exact hr.block_ne (w2:=w) h.hd (by decide) hg
 ·exact hr.other (h.row i) (by unfold ety;split <;> decide) hg hi
theorem bs_set (ys:List Int) (j:Nat) (x:Int):(bs ys).set j (.int .u8 x)=bs (ys.set j x):=by simp [bs,List.map_set]
theorem mem_at {α:Type} {l:List α} {x:α} (h:x∈l):∃ j:Nat,l[j]?=some x:=List.mem_iff_getElem?.1 h
def postC:Nat→Code→Code
 | n+1,.seq _ b=>postC n b
 | _,c=>c
def tw (ct:Fin 5→List Value) (ks ws:List Value):Fin 5→List Value:=upd (upd ct 3 ks) 4 ws
theorem tw_0 (ct:Fin 5→List Value) (ks ws:List Value):tw ct ks ws 0=ct 0:=rfl
theorem tw_2 (ct:Fin 5→List Value) (ks ws:List Value):tw ct ks ws 2=ct 2:=rfl
theorem tw_3 (ct:Fin 5→List Value) (ks ws:List Value):tw ct ks ws 3=ks:=rfl
theorem tw_4 (ct:Fin 5→List Value) (ks ws:List Value):tw ct ks ws 4=ws:=rfl
theorem tw_self (ct:Fin 5→List Value):tw ct (ct 3) (ct 4)=ct:=by
 funext i
 unfold tw upd
 split
 ·rename_i h;rw [h]
 ·split
  ·rename_i h;rw [h]
  ·rfl
theorem tw_tw (ct:Fin 5→List Value) (ks ws ks' ws':List Value):upd (upd (tw ct ks ws) 3 ks') 4 ws'=tw ct ks' ws':=by
 funext i
 unfold tw upd
 split
 ·rfl
 ·split
  ·rfl
  ·rfl
def un (ks ws:List Value):Fin 5→List Value:=fun i=>if i=3 then ks else if i=4 then ws else []
theorem un_tw (ct:Fin 5→List Value) (ks ws:List Value):upd (upd (upd (tw ct ks ws) 0 []) 1 []) 2 []=un ks ws:=by
 funext i
 obtain ⟨i,hi⟩:=i
 match i,hi with
 | 0,_=>rfl
 | 1,_=>rfl
 | 2,_=>rfl
 | 3,_=>rfl
 | 4,_=>rfl
def Wr (p:Nat) (v:Fin 5→Value) (ct:Fin 5→List Value) (g:Nat):Prop:=Own p v g∨Fb (ct 0) 0 g
structure Mid (w0 wr:World) (p:Nat) (c t:Int) (v:Fin 5→Value) (ct:Fin 5→List Value) (v':Fin 5→Value) (ks ws:List Value) (k:Nat):Prop where
 ch:Ch w0 wr (Wr p v ct)
 bk:Bk wr p c t v' (tw ct ks ws)
 own:∀ g,Own p v' g→Own p v g∨w0.heap.size≤g
 kw:Pairs wr ks ws
 sep:∀ u,u∈ks∨u∈ws→∀ g,u.ownBlock=some g→¬ Fb (ct 0) k g∧(Foot p v ct g∨w0.heap.size≤g)
 fr:∀ (j:Nat) (u:Value) (m:Int),k≤j→(ct 0)[j]?=some u→(ct 2)[j]?=some (.int .i64 m)→Row wr 5 u (bs (marks (sl u) m))
def Done34 (w0:World) (p:Nat) (c t:Int) (v:Fin 5→Value) (ct:Fin 5→List Value) (e:Ending) (w':World):Prop:=
 e=.returned (.tuple #[])∧∃ v' ks ws,Bk w' p c t v' (un ks ws)∧Pairs w' ks ws∧ks.length=(ct 3).length+6*(ct 0).length∧Ch w0 w' (Wr p v ct)∧∀ g,Foot p v' (un ks ws) g→Foot p v ct g∨w0.heap.size≤g
theorem T5 (w0 wr:World) (p:Nat) (c t:Int) (v:Fin 5→Value) (ct:Fin 5→List Value) (v':Fin 5→Value) (ks ws:List Value) (h:Mid w0 wr p c t v ct v' ks ws (ct 0).length) (hl:ks.length=(ct 3).length+6*(ct 0).length) (hs:ks.length≤5800000000000) {y1 y2 y3 y4 y5 y6 y7 y8 y9 y10 y11 y12 y13 y14 y15 y16 y17 y18 y19 y20 y21 y22 y23 y24 y25 y26 y27 y28 y29 y30 y31 y32 y33 y34 y35 y36 y37 y38 y39 y40 y41 y42 y43 y44 y45 y46 y47 y48 y49 y50 y51 y52 y53 y54 y55 y56 y57 y58 y59 y60 y61 y62 y63 y64 y65 y66 y67 y68 y69 y70 y71 y72 y73 y74 y75 y76 y77 y78 y79 y80 y81 y82 y83 y84 y85 y86 y87 y88 y89 y90 y91 y92 y93 y94 y95 y96 y97 y98 y99 y100 y101 y102 y103 y104 y105 y106 y107 y108 y109 y110 y111 y112 y113 y114 y115 y116 y117 y118 y119 y120 y121 y122 y123 y124 y125 y126 y127 y128 y129 y130 y131 y132 y133 y134 y135 y136 y137 y138 y139 y140 y141 y142 y143 y144 y145 y146 y147 y148 y149 y150 y151 y152 y153 y154 y155 y156 y157 y158 y159 y160 y161 y162 y163 y164 y165 y166 y167 y168 y169 y170 y171 y172 y173 y174 y175 y176 y177 y178 y179 y180 y181 y182 y183 y184 y185 y186 y187 y188 y189 y190 y191 y192 y193 y194 y195 y196 y197 y198 y199 y200 y201 y202 y203 y204 y205 y206 y207 y208 y209 y210 y211 y212:Value} :
  Code.wp Try.prog (postC 5 (Try.f53.body.getD .skip)) (bodyPost Try.prog Try.f53 (Done34 w0 p c t v ct)) { tmps:=#[(.pointer (some ⟨p,0,none⟩)),y1,y2,y3,y4,y5,y6,y7,y8,y9,y10,y11,y12,y13,y14,y15,y16,y17,y18,y19,y20,y21,y22,y23,y24,y25,y26,y27,y28,y29,y30,y31,y32,y33,y34,y35,y36,y37,y38,y39,y40,y41,y42,y43,y44,y45,y46,y47,y48,y49,y50,y51,y52,y53,y54,y55,y56,y57,y58,y59,y60,y61,y62,y63,y64,y65,y66,y67,y68,y69,y70,y71,y72,y73,y74,y75,y76,y77,y78,y79,y80,y81,y82,y83,y84,y85,y86,y87,y88,y89,y90,y91,y92,y93,y94,y95,y96,y97,y98,y99,y100,y101,y102,y103,y104,y105,y106,y107,y108,y109,y110,y111,y112,y113,y114,y115,y116,y117,y118,y119,y120,y121,y122,y123,y124,y125,y126,y127,y128,y129,y130,y131,y132,y133,y134,y135,y136,y137,y138,y139,y140,y141,y142,y143,y144,y145,y146,y147,y148,y149,y150,y151,y152,y153,y154,y155,y156,y157,y158,y159,y160,y161,y162,y163,y164,y165,y166,y167,y168,y169,y170,y171,y172,y173,y174,y175,y176,y177,y178,y179,y180,y181,y182,y183,y184,y185,y186,y187,y188,y189,y190,y191,y192,y193,y194,y195,y196,y197,y198,y199,y200,y201,y202,y203,y204,y205,y206,y207,y208,y209,y210,y211,y212],defers:=[] } wr:=by
 have h0:=h.bk.clear 0 3 rfl
 have h1:=h0.1.clear 1 4 rfl
 have h2:=h1.1.clear 2 5 rfl
 have hch:Ch wr ((((wr.setCell ⟨p,3,none⟩ (.slice none 0 0)).setCell ⟨p,4,none⟩ (.slice none 0 0))).setCell ⟨p,5,none⟩ (.slice none 0 0)) (fun g=>g=p):=(h0.2.1.trans h1.2.1 fun g hg=>.inl hg).trans h2.2.1 fun g hg=>.inl hg
 have hkw:=h.kw.ch hch fun u hu g hg e=>by
  subst e
  obtain ⟨i,hi⟩:∃ i:Nat,ks[i]?=some u∨ws[i]?=some u:=by
   rcases hu with hu|hu
   ·obtain ⟨i,hi⟩:=mem_at hu;exact ⟨i,.inl hi⟩
   ·obtain ⟨i,hi⟩:=mem_at hu;exact ⟨i,.inr hi⟩
  obtain ⟨xs,hr⟩:∃ xs,Row wr 5 u (bs xs):=by
   rcases hi with hi|hi
   ·have hj:i<ws.length:=by rw [← h.kw.1];exact (List.getElem?_eq_some_iff.1 hi).1
    obtain ⟨xs,h1,_⟩:=h.kw.2 i u _ hi (List.getElem?_eq_getElem hj)
    exact ⟨xs,h1⟩
   ·have hj:i<ks.length:=by rw [h.kw.1];exact (List.getElem?_eq_some_iff.1 hi).1
    obtain ⟨xs,_,h1⟩:=h.kw.2 i _ u (List.getElem?_eq_getElem hj) hi
    exact ⟨xs,h1⟩
  exact h.bk.sep hr hg (.inl rfl)
 have hbk:Bk _ p c t _ (un ks ws):=un_tw ct ks ws ▸ h2.1
 have hown:∀ g,Own p _ g→Own p v' g:=fun g hg=>h0.2.2 g (h1.2.2 g (h2.2.2 g hg))
 have f3:=h.bk.hd.frozen 3
 have c3:=h.bk.hd.cell 3
 have f4:=h0.1.hd.frozen 4
 have c4:=h0.1.hd.cell 4
 have f5:=h1.1.hd.frozen 5
 have c5:=h1.1.hd.cell 5
 have c2:=h2.1.hd.cell 2
 have f2:=h2.1.hd.frozen 2
 simp only [hdr,List.getElem?_toArray,List.getElem?_cons_zero,List.getElem?_cons_succ] at c2 c3 c4 c5
 have HS:=Lib.hid (same_ _ p c t _ _ hbk hkw hs)
 have H:=Lib.hid h
 have HK:=Lib.hid hkw
 have HB:=Lib.hid hbk
 have HO:=Lib.hid hown
 have HC:=Lib.hid hch
 clear h h0 h1 h2 hkw hbk hown hch
 unfold Try.f53
 dsimp only [Option.getD,postC]
 go_wp2_with (go_at_call 55;refine HS.out.mono ?_;rintro e w2 ⟨rfl,hc⟩;have HC2:=Lib.hid hc;have HB2:=Lib.hid (HB.out.ch hc fun _ _ h=>h);have d2:=HB2.out.hd.cell 2;simp only [hdr,List.getElem?_toArray,List.getElem?_cons_zero,List.getElem?_cons_succ] at d2;have e2:=HB2.out.hd.frozen 2;clear hc)
 refine bodyPost_end (results_none rfl _ _ _) rfl ?_
 have hc3:=HC2.out.same HB2.out.hd (i:=2) (u:=.bool false) rfl
 refine ⟨rfl,_,ks,ws,HB.out.ch hc3 fun _ _ h=>h,HK.out.never hc3,hl,?_,?_⟩
 ·refine (H.out.ch.trans HC.out fun g hg=>?_).trans hc3 fun _ h=>h.elim
  rw [hg]
  exact (H.out.own p (.inl rfl)).imp (fun h=>.inl h) id
 ·intro g hg
  rcases hg with hg|hg|hg|hg|hg
  ·exact (H.out.own g (HO.out g hg)).imp (fun h=>.inl h) id
  ·obtain ⟨j,u,_,hu,_⟩:=hg;simp [un] at hu
  ·obtain ⟨j,u,_,hu,_⟩:=hg;simp [un] at hu
  ·obtain ⟨j,u,_,hu,hgu⟩:=hg
   exact (H.out.sep u (.inl (List.mem_of_getElem? hu)) g hgu).2
  ·obtain ⟨j,u,_,hu,hgu⟩:=hg
   exact (H.out.sep u (.inr (List.mem_of_getElem? hu)) g hgu).2
end Go.Proofs.Ythmeojeehemlaaa.Bk
end
section
namespace Go.Proofs.Ythmeojeehemlaaa.Bk
open Go.RowKit Go.Proofs.YthmeojeehemlaaaW.PrintWords Go.Proofs.Ythmeojeehemlaaa.Mem Go.Proofs.Ythmeojeehemlaaa.Lnd Go.Proofs.Ythmeojeehemlaaa.PM
attribute [local go_sem] isSome_setCell
theorem Ch.cell {w w':World} {S:Nat→Prop} (h:Ch w w' S) {a:Addr} {u:Value} (hc:w.cell? a=some u) (hn:¬ S a.block):w'.cell? a=some u:=
 (World.cell?_of_block (h.block a.block (World.block_lt_of_cell? w a hc) hn)).trans hc
theorem copy2_ (w:World) (A:Option Addr) (n c:Nat) (xs:List Int) (h:Row w 5 (.slice A n c) (bs xs)) (hn:n≤4398046511104) :
  Calls Try.prog 21 #[.slice A n c] w fun e w'=>∃ B d,e=.returned (.slice B n d)∧Row w' 5 (.slice B n d) (bs xs)∧Ch w w' Never∧∀ g,Value.ownBlock (.slice B n d)=some g→w.heap.size≤g:=by
 have hx:=(C_of_row h).1
 refine (copy_ w A n c xs h hn).mono ?_
 rintro e w' ⟨v,he,hr,hc,hg⟩
 obtain ⟨B,d,hv,_⟩:=hr.form
 rw [bs_length,← hx] at hv
 subst hv
 exact ⟨B,d,he,hr,hc,hg⟩
theorem keep2_ (w:World) (p:Nat) (c t:Int) (v:Fin 5→Value) (ct:Fin 5→List Value) (ks ws:List Value) (A B:Option Addr) (n m k1 k2:Nat) (h:Bk w p c t v (tw ct ks ws)) (h3:ks.length≤5800000000000) (h4:ws.length≤5800000000000) :
  Calls Try.prog 79 #[.pointer (some ⟨p,0,none⟩),.slice A n k1,.slice B m k2] w fun e w'=>e=.returned (.tuple #[])∧∃ v',Bk w' p c t v' (tw ct (ks ++ [.slice A n k1]) (ws ++ [.slice B m k2]))∧Ch w w' (Own p v)∧∀ g,Own p v' g→Own p v g∨w.heap.size≤g:=by
 refine (keep_ w p c t v (tw ct ks ws) A B n m k1 k2 h h3 h4).mono ?_
 rintro e w' ⟨he,v',hb,hc,ho⟩
 refine ⟨he,v',?_,hc,ho⟩
 rw [tw_tw] at hb
 exact hb
theorem Pairs.rows {w:World} {ks ws:List Value} (h:Pairs w ks ws) {u:Value} (hu:u∈ks∨u∈ws):∃ xs,Row w 5 u (bs xs):=by
 rcases hu with hu|hu
 ·obtain ⟨i,hi⟩:=mem_at hu
  have hj:i<ws.length:=by rw [← h.1];exact (List.getElem?_eq_some_iff.1 hi).1
  obtain ⟨xs,h1,_⟩:=h.2 i u _ hi (List.getElem?_eq_getElem hj)
  exact ⟨xs,h1⟩
 ·obtain ⟨i,hi⟩:=mem_at hu
  have hj:i<ks.length:=by rw [h.1];exact (List.getElem?_eq_some_iff.1 hi).1
  obtain ⟨xs,_,h1⟩:=h.2 i _ u (List.getElem?_eq_getElem hj) hi
  exact ⟨xs,h1⟩
theorem Pairs.snoc {w:World} {ks ws:List Value} {l d:Value} {xs:List Int} (h:Pairs w ks ws) (hl:Row w 5 l (bs xs)) (hd:Row w 5 d (bs xs)):Pairs w (ks ++ [l]) (ws ++ [d]):=by
 refine ⟨by simp [h.1],fun i x y hx hy=>?_⟩
 by_cases hi:i<ks.length
 ·rw [List.getElem?_append_left hi] at hx
  rw [List.getElem?_append_left (by rw [← h.1];exact hi)] at hy
  exact h.2 i x y hx hy
 ·have hi2:i=ks.length:=by
   have:=(List.getElem?_eq_some_iff.1 hx).1
   simp at this;omega
  subst hi2
  rw [List.getElem?_append_right (Nat.le_refl _)] at hx
  rw [List.getElem?_append_right (by rw [h.1];exact Nat.le_refl _)] at hy
  simp at hx
  rw [h.1] at hy
  simp at hy
  subst hx;subst hy
  exact ⟨xs,hl,hd⟩
section
variable {w0 wr w2 w3:World} {p:Nat} {c t:Int} {v:Fin 5→Value} {ct:Fin 5→List Value} {v' v3:Fin 5→Value} {ks ws:List Value} {k:Nat}
theorem Mid.move {S:Nat→Prop} (h:Mid w0 wr p c t v ct v' ks ws k) (hc:Ch wr w2 S) (h1:∀ g,S g→Wr p v ct g∨w0.heap.size≤g) (h2:∀ g,Own p v' g→¬ S g) (h3:∀ u,u∈ks∨u∈ws→∀ g,u.ownBlock=some g→¬ S g) (h4:∀ g,Fb (ct 0) k g→¬ S g):Mid w0 w2 p c t v ct v' ks ws k:=
 ⟨h.ch.trans hc h1,h.bk.ch hc h2,h.own,h.kw.ch hc h3,h.sep,fun j u m hj hu hm=>(h.fr j u m hj hu hm).ch hc fun g hg=>h4 g ⟨j,u,hj,hu,hg⟩⟩
theorem Mid.never (h:Mid w0 wr p c t v ct v' ks ws k) (hc:Ch wr w2 Never):Mid w0 w2 p c t v ct v' ks ws k:=
 h.move hc (fun _ h=>h.elim) (fun _ _ h=>h) (fun _ _ _ _ h=>h) (fun _ _ h=>h)
theorem Mid.frows (h:Mid w0 wr p c t v ct v' ks ws k) (hm:(ct 2).length=(ct 0).length) (hi:∀ u∈ct 2,∃ m,u=.int .i64 m) {j:Nat} {u:Value} (hj:k≤j) (hu:(ct 0)[j]?=some u):∃ xs,Row wr 5 u (bs xs):=by
 have hl:j<(ct 2).length:=by rw [hm];exact (List.getElem?_eq_some_iff.1 hu).1
 obtain ⟨m,hm⟩:=hi _ (List.getElem_mem hl)
 exact ⟨_,h.fr j u m hj hu (by rw [← hm];exact List.getElem?_eq_getElem hl)⟩
theorem Mid.keep (h:Mid w0 w2 p c t v ct v' ks ws k) (hm:(ct 2).length=(ct 0).length) (hi:∀ u∈ct 2,∃ m,u=.int .i64 m) {l d:Value} {xs:List Int} (hb:Bk w3 p c t v3 (tw ct (ks ++ [l]) (ws ++ [d]))) (hc:Ch w2 w3 (Own p v')) (ho:∀ g,Own p v3 g→Own p v' g∨w2.heap.size≤g) (hl:Row w2 5 l (bs xs)) (hd:Row w2 5 d (bs xs))
  (sl':∀ g,l.ownBlock=some g→¬ Fb (ct 0) k g∧(Foot p v ct g∨w0.heap.size≤g)) (sd:∀ g,d.ownBlock=some g→¬ Fb (ct 0) k g∧(Foot p v ct g∨w0.heap.size≤g)):Mid w0 w3 p c t v ct v3 (ks ++ [l]) (ws ++ [d]) k:=by
 have hs:∀ g,Own p v' g→Wr p v ct g∨w0.heap.size≤g:=fun g hg=>(h.own g hg).imp (fun h=>.inl h) id
 have far:∀ u xs,Row w2 5 u (bs xs)→∀ g,u.ownBlock=some g→¬ Own p v' g:=fun u xs hr g hg=>h.bk.sep hr hg
 refine ⟨h.ch.trans hc hs,hb,fun g hg=>(ho g hg).elim (fun e=>h.own g e) (fun e=>.inr (Nat.le_trans h.ch.size e)),?_,?_,?_⟩
 ·exact (h.kw.ch hc fun u hu g hg=>by obtain ⟨ys,hr⟩:=h.kw.rows hu;exact far u ys hr g hg).snoc (hl.ch hc (far l xs hl)) (hd.ch hc (far d xs hd))
 ·intro u hu g hg
  rcases hu with hu|hu
  ·rcases List.mem_append.1 hu with hu|hu
   ·exact h.sep u (.inl hu) g hg
   ·rw [List.mem_singleton.1 hu] at hg;exact sl' g hg
  ·rcases List.mem_append.1 hu with hu|hu
   ·exact h.sep u (.inr hu) g hg
   ·rw [List.mem_singleton.1 hu] at hg;exact sd g hg
 ·intro j u m hj hu hm
  exact (h.fr j u m hj hu hm).ch hc fun g hg=>far u _ (h.fr j u m hj hu hm) g hg
end
structure Gr (w0 wr:World) (p:Nat) (v:Fin 5→Value) (ct:Fin 5→List Value) (v':Fin 5→Value) (V:Value) (gs:List Value) (k:Nat):Prop where
 row:Row wr 37 V gs
 apart:∀ g,V.ownBlock=some g→¬ Own p v' g∧w0.heap.size≤g
 each:∀ x∈gs,(∃ xs,Row wr 5 x (bs xs))∧sl x≤4398046511104∧∀ g,x.ownBlock=some g→¬ Fb (ct 0) k g∧(Foot p v ct g∨w0.heap.size≤g)
section
variable {w0 wr w2 w3:World} {p:Nat} {c t:Int} {v:Fin 5→Value} {ct ct':Fin 5→List Value} {v' v3:Fin 5→Value} {V:Value} {gs:List Value} {k:Nat}
theorem Gr.move {S:Nat→Prop} (h:Gr w0 wr p v ct v' V gs k) (hc:Ch wr w2 S) (h1:∀ g,V.ownBlock=some g→¬ S g) (h2:∀ x∈gs,∀ g,x.ownBlock=some g→¬ S g):Gr w0 w2 p v ct v' V gs k:=
 ⟨h.row.ch hc h1,h.apart,fun x hx=>⟨(h.each x hx).1.imp fun xs hr=>hr.ch hc (h2 x hx),(h.each x hx).2⟩⟩
theorem Gr.never (h:Gr w0 wr p v ct v' V gs k) (hc:Ch wr w2 Never):Gr w0 w2 p v ct v' V gs k:=h.move hc (fun _ _ h=>h) fun _ _ _ _ h=>h
theorem Gr.keep (h:Gr w0 w2 p v ct v' V gs k) (hb:Bk w2 p c t v' ct') (hc:Ch w2 w3 (Own p v')) (ho:∀ g,Own p v3 g→Own p v' g∨w2.heap.size≤g):Gr w0 w3 p v ct v3 V gs k:=by
 have h2:=h.move hc (fun g hg=>(h.apart g hg).1) fun x hx g hg=>by obtain ⟨ys,hr⟩:=(h.each x hx).1;exact hb.sep hr hg
 exact ⟨h2.row,fun g hg=>⟨fun e=>(ho g e).elim (h.apart g hg).1 fun e2=>by have:=h.row.lt g hg;omega,(h.apart g hg).2⟩,h2.each⟩
end
theorem T4 (w0 wr0:World) (p:Nat) (c t:Int) (v:Fin 5→Value) (ct:Fin 5→List Value) (v':Fin 5→Value) (ks ws:List Value) (V:Value) (gs:List Value) (h:Mid w0 wr0 p c t v ct v' ks ws (ct 0).length) (hg:Gr w0 wr0 p v ct v' V gs (ct 0).length) (hm:(ct 2).length=(ct 0).length) (hi:∀ u∈ct 2,∃ m,u=.int .i64 m)
  (hgl:gs.length=4*(ct 0).length) (hl:ks.length=(ct 3).length+2*(ct 0).length) (hs:ks.length≤5700000000000) (hs0:gs.length≤4000000) {y1 y2 y3 y4 y6 y7 y8 y9 y10 y11 y12 y13 y14 y15 y16 y17 y18 y19 y20 y21 y22 y23 y24 y25 y26 y27 y28 y29 y30 y31 y32 y33 y34 y35 y36 y37 y38 y39 y40 y41 y42 y43 y44 y45 y46 y47 y48 y49 y50 y51 y52 y53 y54 y55 y56 y57 y58 y59 y60 y61 y62 y63 y64 y65 y66 y67 y68 y69 y70 y71 y72 y73 y74 y75 y76 y77 y78 y79 y80 y81 y82 y83 y84 y85 y86 y87 y88 y89 y90 y91 y92 y93 y94 y95 y96 y97 y98 y99 y100 y101 y102 y103 y104 y105 y106 y107 y108 y109 y110 y111 y112 y113 y114 y115 y116 y117 y118 y119 y120 y121 y122 y123 y124 y125 y126 y127 y128 y129 y130 y131 y132 y133 y134 y135 y136 y137 y138 y139 y140 y141 y142 y143 y144 y145 y146 y147 y148 y149 y150 y151 y152 y153 y154 y155 y156 y157 y158 y159 y160 y161 y162 y163 y164 y165 y166 y167 y168 y169 y170 y171 y172 y173 y174 y175 y176 y177 y178 y179 y180 y181 y182 y183 y184 y185 y186 y187 y188 y189 y190 y191 y192 y193 y194 y195 y196 y197 y198 y199 y200 y201 y202 y203 y204 y205 y206 y207 y208 y209 y210 y211 y212:Value} :
  Code.wp Try.prog (postC 4 (Try.f53.body.getD .skip)) (bodyPost Try.prog Try.f53 (Done34 w0 p c t v ct)) { tmps:=#[(.pointer (some ⟨p,0,none⟩)),y1,y2,y3,y4,V,y6,y7,y8,y9,y10,y11,y12,y13,y14,y15,y16,y17,y18,y19,y20,y21,y22,y23,y24,y25,y26,y27,y28,y29,y30,y31,y32,y33,y34,y35,y36,y37,y38,y39,y40,y41,y42,y43,y44,y45,y46,y47,y48,y49,y50,y51,y52,y53,y54,y55,y56,y57,y58,y59,y60,y61,y62,y63,y64,y65,y66,y67,y68,y69,y70,y71,y72,y73,y74,y75,y76,y77,y78,y79,y80,y81,y82,y83,y84,y85,y86,y87,y88,y89,y90,y91,y92,y93,y94,y95,y96,y97,y98,y99,y100,y101,y102,y103,y104,y105,y106,y107,y108,y109,y110,y111,y112,y113,y114,y115,y116,y117,y118,y119,y120,y121,y122,y123,y124,y125,y126,y127,y128,y129,y130,y131,y132,y133,y134,y135,y136,y137,y138,y139,y140,y141,y142,y143,y144,y145,y146,y147,y148,y149,y150,y151,y152,y153,y154,y155,y156,y157,y158,y159,y160,y161,y162,y163,y164,y165,y166,y167,y168,y169,y170,y171,y172,y173,y174,y175,y176,y177,y178,y179,y180,y181,y182,y183,y184,y185,y186,y187,y188,y189,y190,y191,y192,y193,y194,y195,y196,y197,y198,y199,y200,y201,y202,y203,y204,y205,y206,y207,y208,y209,y210,y211,y212],defers:=[] } wr0:=by
 obtain ⟨n,hn⟩:∃ n,n=gs.length:=⟨_,rfl⟩
 have HN:=Lib.hid hn
 have H:=Lib.hid h
 have HG:=Lib.hid hg
 have HM:=Lib.hid hm
 have HI:=Lib.hid hi
 have HL:=Lib.hid hl
 have HGL:=Lib.hid hgl
 rw [← hn] at hs0
 obtain ⟨A,cV,hV,_⟩:=hg.row.form
 rw [← hn] at hV
 subst hV
 clear h hg hm hi hl hgl hn
 unfold Try.f53
 dsimp only [Option.getD,postC]
 refine wp_seq_k (fun K hK=>?_)
 have HK:=Lib.hid hK
 clear hK
 go_wp2
 go_loopw [16] (fun i wr=>∃ (j:Nat) (v2:Fin 5→Value) (ks2 ws2:List Value),j≤n∧i=.int .i64 (j:Int)∧Hid (Mid w0 wr p c t v ct v2 ks2 ws2 (ct 0).length)∧Hid (Gr w0 wr p v ct v2 (.slice A n cV) gs (ct 0).length)∧Hid (ks2.length=ks.length+j)) (fun i _=>n - (RowKit.intOf i).toNat)
 case atStart=>exact ⟨0,v',ks,ws,Nat.zero_le _,rfl,H,HG,Lib.hid rfl⟩
 case round =>
  obtain ⟨j,v2,ks2,ws2,hj,rfl,hM,hG,hKL⟩:=hrel
  by_cases hlt:j<n
  ·have hjl:j<gs.length:=by rw [← HN.out];exact hlt
   obtain ⟨g0,k0,e0,l0,m0,a0⟩:=hG.out.row.at (by omega)
   injection e0 with e1 e2 e3
   subst e1;subst e3
   obtain ⟨a0,_⟩:=a0 j hjl
   obtain ⟨x,hx⟩:∃ x,x=gs[j]'hjl:=⟨_,rfl⟩
   rw [← hx] at a0
   obtain ⟨⟨xs,hr⟩,hsm,hsep⟩:=hG.out.each x (by rw [hx];exact List.getElem_mem hjl)
   obtain ⟨Ax,cx,hxv,_⟩:=hr.form
   obtain ⟨m,hm⟩:∃ m,m=(bs xs).length:=⟨_,rfl⟩
   rw [← hm] at hxv
   subst hxv
   have HR:=Lib.hid hr
   have HSEP:=Lib.hid hsep
   have hsm:m≤4398046511104:=hsm
   have HKS:=Lib.hid (show ks2.length≤5800000000000 from by have:=hKL.out;omega)
   have HWS:=Lib.hid (show ws2.length≤5800000000000 from by have:=hM.out.kw.1;have:=hKL.out;omega)
   have HEND:=Lib.hid (show ∀ g,¬ Fb (ct 0) (ct 0).length g from fun g ⟨i,u,h1,h2,_⟩=>by
    have:=(List.getElem?_eq_some_iff.1 h2).1;omega)
   rw [← HN.out] at l0
   clear hr hsep hm hx hjl e2
   go_wp2
   go_region_with (first|(go_at_call 21;refine (copy2_ _ Ax m cx xs HR.out.drew hsm).mono ?_;rintro e w2 ⟨B,d,rfl,hr2,hc2,hg2⟩;have HC2:=Lib.hid (((Ch.refl wr Never).drew).trans hc2 fun _ h=>h.elim);have HM2:=Lib.hid (hM.out.never HC2.out);have HG2:=Lib.hid (hG.out.never HC2.out);have HR2:=Lib.hid hr2;have HN2:=Lib.hid hg2;have b0:=HC2.out.cell a0 id;clear hr2 hc2 hg2)|(go_at_call 79;refine (keep2_ _ p c t v2 ct ks2 ws2 Ax B m m cx d HM2.out.bk HKS.out HWS.out).mono ?_;rintro e w3 ⟨rfl,v3,hb3,hc3,ho3⟩;have HM3:=Lib.hid (HM2.out.keep HM.out HI.out hb3 hc3 ho3 (HR.out.ch HC2.out fun _ _ h=>h) HR2.out HSEP.out fun g hg=>⟨HEND.out g,.inr (Nat.le_trans hM.out.ch.size (HN2.out g hg))⟩);have HG3:=Lib.hid (HG2.out.keep HM2.out.bk hc3 ho3);clear hb3 hc3 ho3))
   all_goals
    go_wp2
    go_roundw
    case rel=>exact ⟨j+1,v3,_,_,by omega,by go_num,HM3,HG3,Lib.hid (by simp [hKL.out];omega)⟩
    case measure=>simp [RowKit.intOf];omega
  ·obtain rfl:j=n:=by omega
   go_wp2
   refine HK.out _ _ ?_
   exact T5 w0 wr p c t v ct v2 ks2 ws2 hM.out (by have:=hKL.out;have:=HL.out;have:=HGL.out;have:=HN.out;omega) (by have:=hKL.out;omega)
end Go.Proofs.Ythmeojeehemlaaa.Bk
end
