/- Parts of the proof, laid together by a program of this session (pack.py): Mo1, Mo2, Mo3, Mo4, Mo0, Mo5, Mo7. -/
import Derived.Test.YthmeojeehemlaaaZC14
set_option linter.unusedVariables false
set_option linter.unusedSimpArgs false
set_option maxRecDepth 100000
set_option maxHeartbeats 16000000
section
namespace Go.Proofs.Ythmeojeehemlaaa.Bk
open Go.RowKit Go.Proofs.YthmeojeehemlaaaW.PrintWords Go.Proofs.Ythmeojeehemlaaa.Mem Go.Proofs.Ythmeojeehemlaaa.Lnd Go.Proofs.Ythmeojeehemlaaa.PM
attribute [local go_sem] isSome_setCell
theorem outsR_lists' {w:World} {base:Nat} {v:Value} {os:List Out} (h:OutsR w base v os):∀ (i j:Nat) (u x:Value) (g:Nat),(os.map oval)[i]?=some u→(os.map oval)[j]?=some x→i≠j→u.ownBlock=some g→x.ownBlock≠some g:=by
 intro i j u x g hu hx hij hg hxg
 rw [List.getElem?_map] at hu hx
 obtain ⟨o,ho,rfl⟩:=Option.map_eq_some_iff.1 hu
 obtain ⟨o2,ho2,rfl⟩:=Option.map_eq_some_iff.1 hx
 have hi:=List.getElem?_eq_some_iff.1 ho
 have hj:=List.getElem?_eq_some_iff.1 ho2
 obtain ⟨hi1,hi2⟩:=hi
 obtain ⟨hj1,hj2⟩:=hj
 have hp:=List.pairwise_iff_getElem.1 h.sep
 rcases Nat.lt_or_gt_of_ne hij with hlt|hlt
 ·have:=hp i j hi1 hj1 hlt g
  rw [hi2,hj2] at this
  exact this hg hxg
 ·have:=hp j i hj1 hi1 hlt g
  rw [hi2,hj2] at this
  exact this hxg hg
def mkp (K n:Nat):List (Int × Value):=(List.range n).map fun (j:Nat)=>((1000*(K:Int)+(j:Int)),Value.slice none 0 0)
theorem mkp_length (K n:Nat):(mkp K n).length=n:=by simp [mkp]
theorem mkp_at (K n j:Nat) (h:j<n):(mkp K n)[j]?=some ((1000*(K:Int)+(j:Int)),Value.slice none 0 0):=by simp [mkp,h]
theorem mkp_succ (K n:Nat):mkp K (n+1)=mkp K n ++ [((1000*(K:Int)+(n:Int)),Value.slice none 0 0)]:=by simp [mkp,List.range_succ]
theorem mkp_prefix (K:Nat):∀ (b a:Nat),a≤b→mkp K a <+: mkp K b
 | 0,a,h=>by
  obtain rfl:a=0:=by omega
  exact List.prefix_rfl
 | b+1,a,h=>by
  by_cases e:a=b+1
  ·subst e;exact List.prefix_rfl
  ·rw [mkp_succ]
   exact (mkp_prefix K b a (by omega)).trans (List.prefix_append _ _)
theorem cells2_prefix {ps qs:List (Int × Value)} (h:ps <+: qs):cells2 ps <+: cells2 qs:=by
 obtain ⟨r,rfl⟩:=h
 rw [cells2_append];exact List.prefix_append _ _
def LZ (L:Value) (los:List Value) (k:Nat):Prop:=L.ownBlock=some k∨Fb los 0 k
structure Ls (w:World) (L:Value) (los:List Value):Prop where
 row:Row w 22 L los
 el:∀ (j:Nat) (u:Value),los[j]?=some u→∃ n,Row2 w u (mkp (j / 2*2) n)∧n≤1048600
theorem row2_lt {w:World} {v:Value} {ps:List (Int × Value)} (h:Row2 w v ps):∀ g,v.ownBlock=some g→g<w.heap.size:=fun g hg=>(World.ownsRow.lt h g hg).2
section
variable {w wr w2:World} {L L':Value} {los:List Value} {S:Nat→Prop}
theorem Ls.ch (h:Ls wr L los) (hc:Ch wr w2 S) (hn:∀ k,LZ L los k→¬ S k):Ls w2 L los:=
 ⟨h.row.ch hc fun g hg=>hn g (.inl hg),fun j u hu=>(h.el j u hu).imp fun n hx=>⟨Row2.ch hx.1 hc fun g hg=>hn g (.inr ⟨j,u,Nat.zero_le _,hu,hg⟩),hx.2⟩⟩
theorem Ls.lt (h:Ls wr L los):∀ k,LZ L los k→k<wr.heap.size:=fun k hk=>by
 rcases hk with hk|⟨j,u,_,hu,hg⟩
 ·exact h.row.lt k hk
 ·obtain ⟨n,hr,_⟩:=h.el j u hu
  exact row2_lt hr k hg
end
theorem Ch.of_chg {F:Nat→Prop} {w w':World} (h:Chg F w w'):Ch w w' F:=⟨h.os,h.tape,h.output,h.size,fun k hk hf=>h.block k hk hf⟩
theorem Chg.of_ch {F:Nat→Prop} {w w':World} (h:Ch w w' F):Chg F w w':=⟨h.os,h.tape,h.output,h.size,fun k hk hf=>h.block k hk hf⟩
theorem Book.lt {w:World} {b:Nat} {c2 t2:Int} {v2:Fin 5→Value} {ct2:Fin 5→List Value} (h:Book w b c2 t2 v2 ct2):∀ g,Foot b v2 ct2 g→g<w.heap.size:=fun g hg=>by
 rcases hg with hg|hg|hg|hg|hg
 ·exact h.bk.lt hg
 ·exact h.fh.lt (.inl hg)
 ·exact h.fh.lt (.inr hg)
 ·exact h.kw.lt (.inl hg)
 ·exact h.kw.lt (.inr hg)
theorem fb_of {ks:List Value} {u:Value} {g:Nat} (hu:u∈ks) (hg:u.ownBlock=some g):Fb ks 0 g:=by
 obtain ⟨i,hi⟩:=mem_at hu
 exact ⟨i,u,Nat.zero_le _,hi,hg⟩
theorem Book.ch {w w2:World} {b:Nat} {c2 t2:Int} {v2:Fin 5→Value} {ct2:Fin 5→List Value} {S:Nat→Prop} (h:Book w b c2 t2 v2 ct2) (hc:Ch w w2 S) (hn:∀ g,Foot b v2 ct2 g→¬ S g):Book w2 b c2 t2 v2 ct2:=
 ⟨h.bk.ch hc fun g hg=>hn g (.inl hg),h.fh.ch hc fun u hu g hg=>hn g (hu.elim (fun e=>.inr (.inl (fb_of e hg))) fun e=>.inr (.inr (.inl (fb_of e hg)))),h.kw.ch hc fun u hu g hg=>hn g (hu.elim (fun e=>.inr (.inr (.inr (.inl (fb_of e hg))))) fun e=>.inr (.inr (.inr (.inr (fb_of e hg))))),h.mlen,h.mint,h.apart,h.far,h.small⟩
structure Mo (w wr:World) (g b:Nat) (F ok:Nat→Prop) (P0:Option Addr) (rl:List S39) (rs:List Reg) (c t:Int) (v:Fin 5→Value) (ct:Fin 5→List Value) (L:Value) (los:List Value):Prop where
 ch:Ch w wr Never
 desk:DeskAt wr F ok g P0 rl rs
 dn:∀ k,F k∨ok k→w.heap.size≤k
 bo:Book wr b c t v ct
 bn:∀ k,Foot b v ct k→w.heap.size≤k∧¬ F k∧¬ ok k
 ls:Ls wr L los
 ln:∀ k,LZ L los k→w.heap.size≤k∧¬ F k∧¬ ok k∧¬ Foot b v ct k
section
variable {w wr w2:World} {g b:Nat} {F ok F' ok' S:Nat→Prop} {P0:Option Addr} {rl rl':List S39} {rs rs':List Reg} {c t:Int} {v:Fin 5→Value} {ct:Fin 5→List Value} {L L':Value} {los:List Value}
def Any (F ok:Nat→Prop) (b:Nat) (v:Fin 5→Value) (ct:Fin 5→List Value) (L:Value) (los:List Value) (k:Nat):Prop:=F k∨ok k∨Foot b v ct k∨LZ L los k
theorem Mo.lt (h:Mo w wr g b F ok P0 rl rs c t v ct L los):∀ k,Any F ok b v ct L los k→k<wr.heap.size:=fun k hk=>by
 rcases hk with hk|hk|hk|hk
 ·exact h.desk.lt k hk
 ·exact h.desk.oklt k hk
 ·exact h.bo.lt k hk
 ·exact h.ls.lt k hk
theorem Mo.move (h:Mo w wr g b F ok P0 rl rs c t v ct L los) (hc:Ch wr w2 S) (hS:∀ k,S k→w.heap.size≤k∧¬ Any F ok b v ct L los k):Mo w w2 g b F ok P0 rl rs c t v ct L los:=
 ⟨h.ch.trans hc fun k hk=>.inr (hS k hk).1,h.desk.chg (Chg.of_ch hc) (fun k hk e=>(hS k e).2 (.inl hk)) (fun k hk e=>(hS k e).2 (.inr (.inl hk))),h.dn,h.bo.ch hc fun k hk e=>(hS k e).2 (.inr (.inr (.inl hk))),h.bn,h.ls.ch hc fun k hk e=>(hS k e).2 (.inr (.inr (.inr hk))),h.ln⟩
theorem Mo.never (h:Mo w wr g b F ok P0 rl rs c t v ct L los) (hc:Ch wr w2 Never):Mo w w2 g b F ok P0 rl rs c t v ct L los:=h.move hc fun _ h=>h.elim
theorem Mo.act (h:Mo w wr g b F ok P0 rl rs c t v ct L los) (q1:DeskAt w2 F' ok' g P0 rl' rs') (q3:Chg F wr w2) (q4:∀ k,F' k→F k∨wr.heap.size≤k) (q5:∀ k,ok' k→ok k∨wr.heap.size≤k):Mo w w2 g b F' ok' P0 rl' rs' c t v ct L los:=by
 have hc:=Ch.of_chg q3
 have hs:=h.ch.size
 refine ⟨h.ch.trans hc fun k hk=>.inr (h.dn k (.inl hk)),q1,fun k hk=>?_,h.bo.ch hc fun k hk e=>(h.bn k hk).2.1 e,fun k hk=>?_,h.ls.ch hc fun k hk e=>(h.ln k hk).2.1 e,fun k hk=>?_⟩
 ·rcases hk with hk|hk
  ·exact (q4 k hk).elim (fun e=>h.dn k (.inl e)) fun e=>by omega
  ·exact (q5 k hk).elim (fun e=>h.dn k (.inr e)) fun e=>by omega
 ·have h1:=h.bn k hk
  have h2:=h.bo.lt k hk
  exact ⟨h1.1,fun e=>(q4 k e).elim h1.2.1 fun e=>by omega,fun e=>(q5 k e).elim h1.2.2 fun e=>by omega⟩
 ·have h1:=h.ln k hk
  have h2:=h.ls.lt k hk
  exact ⟨h1.1,fun e=>(q4 k e).elim h1.2.1 fun e=>by omega,fun e=>(q5 k e).elim h1.2.2.1 fun e=>by omega,h1.2.2.2⟩
theorem Mo.own {l:Value} {t1:Int} {e:Ending} (h:Mo w wr g b F ok P0 rl rs c t v ct L los) (hl:∀ k,l.ownBlock=some k→w.heap.size≤k∧¬ Any F ok b v ct L los k) (ho:Owned wr b t1 v ct l e w2) :
  e=.returned (.tuple #[])∧∃ c' v' ct',Mo w w2 g b F ok P0 rl rs c' t1 v' ct' L los∧(ct' 0).length≤2∧(ct' 3).length≤(ct 3).length+18∧Ch wr w2 (fun k=>Foot b v ct k∨l.ownBlock=some k)∧∀ k,Foot b v' ct' k→Foot b v ct k∨l.ownBlock=some k∨wr.heap.size≤k:=by
 obtain ⟨he,c',v',ct',hb,h0,h3,hc,hf⟩:=ho
 have hs:=h.ch.size
 refine ⟨he,c',v',ct',⟨?_,?_,h.dn,hb,fun k hk=>?_,?_,fun k hk=>?_⟩,h0,h3,hc,hf⟩
 ·exact h.ch.trans hc fun k hk=>.inr (hk.elim (fun e=>(h.bn k e).1) fun e=>(hl k e).1)
 ·refine h.desk.chg (Chg.of_ch hc) (fun k hk e=>?_) fun k hk e=>?_
  ·exact e.elim (fun e=>(h.bn k e).2.1 hk) fun e=>(hl k e).2 (.inl hk)
  ·exact e.elim (fun e=>(h.bn k e).2.2 hk) fun e=>(hl k e).2 (.inr (.inl hk))
 ·rcases hf k hk with e|e|e
  ·exact h.bn k e
  ·exact ⟨(hl k e).1,fun e2=>(hl k e).2 (.inl e2),fun e2=>(hl k e).2 (.inr (.inl e2))⟩
  ·exact ⟨by omega,fun e2=>by have:=h.lt k (.inl e2);omega,fun e2=>by have:=h.lt k (.inr (.inl e2));omega⟩
 ·exact h.ls.ch hc fun k hk e=>e.elim (fun e=>(h.ln k hk).2.2.2 e) fun e=>(hl k e).2 (.inr (.inr (.inr hk)))
 ·have h1:=h.ln k hk
  refine ⟨h1.1,h1.2.1,h1.2.2.1,fun e=>?_⟩
  rcases hf k e with e|e|e
  ·exact h1.2.2.2 e
  ·exact (hl k e).2 (.inr (.inr (.inr hk)))
  ·have:=h.ls.lt k hk;omega
theorem Mo.lapp {u1 u2:Value} {n1 n2:Nat} {o:Obj} (h:Mo w wr g b F ok P0 rl rs c t v ct L los) (hA:App (wr.alloc o) w2 0 22 L L' los [u1,u2]) (h1:Row2 wr u1 (mkp los.length n1)) (h2:Row2 wr u2 (mkp los.length n2)) (l1:n1≤1048600) (l2:n2≤1048600) (hev:los.length % 2=0)
  (hu1:∀ k,u1.ownBlock=some k→w.heap.size≤k∧¬ Any F ok b v ct L los k) (hu2:∀ k,u2.ownBlock=some k→w.heap.size≤k∧¬ Any F ok b v ct L los k):Mo w w2 g b F ok P0 rl rs c t v ct L' (los ++ [u1,u2]):=by
 have ha:Ch wr (wr.alloc o) Never:=(Ch.refl wr Never).alloc o
 have hc:Ch wr w2 (fun k=>L.ownBlock=some k):=((ha.mono (S':=fun k=>L.ownBlock=some k) fun _ h=>h.elim)).trans hA.ch fun k hk=>.inl hk
 have hs:=h.ch.size
 have hLne:∀ (u:Value) ps,Row2 wr u ps→∀ k,u.ownBlock=some k→¬ L.ownBlock=some k:=fun u ps hr k hk e=>by
  rcases own_ne hr h.ls.row (by decide:(39:TypeId)≠22) with h3|h3
  ·rw [h3] at hk;cases hk
  ·exact h3 (hk.trans e.symm)
 have split:∀ k,LZ L' (los ++ [u1,u2]) k→LZ L los k∨u1.ownBlock=some k∨u2.ownBlock=some k∨wr.heap.size≤k:=fun k hk=>by
  rcases hk with hk|⟨j,u,_,hu,hg⟩
  ·rcases hA.where_ with e|⟨q,hq,e⟩
   ·exact .inl (.inl (e ▸ hk))
   ·rw [e] at hk
    obtain rfl:=Option.some.inj hk
    exact .inr (.inr (.inr (Nat.le_trans ha.size hq)))
  ·by_cases hj:j<los.length
   ·rw [List.getElem?_append_left hj] at hu
    exact .inl (.inr ⟨j,u,Nat.zero_le _,hu,hg⟩)
   ·rw [List.getElem?_append_right (by omega)] at hu
    have hm:=List.mem_of_getElem? hu
    simp only [List.mem_cons,List.not_mem_nil,or_false] at hm
    rcases hm with rfl|rfl
    ·exact .inr (.inl hg)
    ·exact .inr (.inr (.inl hg))
 refine ⟨h.ch.trans hc fun k hk=>.inr (h.ln k (.inl hk)).1,h.desk.chg (Chg.of_ch hc) (fun k hk e=>(h.ln k (.inl e)).2.1 hk) (fun k hk e=>(h.ln k (.inl e)).2.2.1 hk),h.dn,h.bo.ch hc fun k hk e=>(h.ln k (.inl e)).2.2.2 hk,h.bn,⟨hA.row',fun j u hu=>?_⟩,fun k hk=>?_⟩
 ·by_cases hj:j<los.length
  ·rw [List.getElem?_append_left hj] at hu
   obtain ⟨n,hr,hn⟩:=h.ls.el j u hu
   exact ⟨n,Row2.ch hr hc (hLne u _ hr),hn⟩
  ·rw [List.getElem?_append_right (by omega)] at hu
   obtain ⟨i,hi⟩:∃ i,i=j - los.length:=⟨_,rfl⟩
   rw [← hi] at hu
   match i,hu with
   | 0,hu =>
    obtain rfl:u1=u:=by simpa using hu
    rw [show j / 2*2=los.length from by omega]
    exact ⟨n1,Row2.ch h1 hc (hLne _ _ h1),l1⟩
   | 1,hu =>
    obtain rfl:u2=u:=by simpa using hu
    rw [show j / 2*2=los.length from by omega]
    exact ⟨n2,Row2.ch h2 hc (hLne _ _ h2),l2⟩
   | i+2,hu=>simp at hu
 ·rcases split k hk with e|e|e|e
  ·exact h.ln k e
  ·exact ⟨(hu1 k e).1,fun e2=>(hu1 k e).2 (.inl e2),fun e2=>(hu1 k e).2 (.inr (.inl e2)),fun e2=>(hu1 k e).2 (.inr (.inr (.inl e2)))⟩
  ·exact ⟨(hu2 k e).1,fun e2=>(hu2 k e).2 (.inl e2),fun e2=>(hu2 k e).2 (.inr (.inl e2)),fun e2=>(hu2 k e).2 (.inr (.inr (.inl e2)))⟩
  ·exact ⟨by omega,fun e2=>by have:=h.lt k (.inl e2);omega,fun e2=>by have:=h.lt k (.inr (.inl e2));omega,fun e2=>by have:=h.lt k (.inr (.inr (.inl e2)));omega⟩
end
end Go.Proofs.Ythmeojeehemlaaa.Bk
end
section
namespace Go.Proofs.Ythmeojeehemlaaa.Bk
open Go.RowKit Go.Proofs.YthmeojeehemlaaaW.PrintWords Go.Proofs.Ythmeojeehemlaaa.Mem Go.Proofs.Ythmeojeehemlaaa.Lnd Go.Proofs.Ythmeojeehemlaaa.PM
attribute [local go_sem] isSome_setCell
def bodyX0 (b:Code):Code:=inner (left (right (inner (inner (right (left (postC 5 b)))))))
def bodyX1 (b:Code):Code:=inner (left (right (inner (inner (right (left (postC 1 (bodyX0 b))))))))
structure Nj (w w0 wr:World) (g b:Nat) (F ok:Nat→Prop) (P0:Option Addr) (rl:List S39) (rs:List Reg) (c t:Int) (v:Fin 5→Value) (ct:Fin 5→List Value) (L:Value) (los:List Value) (V:Value) (os:List Out) (j:Nat) (c' t':Int) (v':Fin 5→Value) (ct':Fin 5→List Value):Prop where
 mo:Mo w wr g b F ok P0 rl rs c' t' v' ct' L los
 row:Row2 wr V (os.map fun o=>(o.first,oval o))
 dat:∀ (i:Nat) (o:Out),j≤i→os[i]?=some o→Row wr 5 (oval o) (bs o.data)
 ft:∀ k,Foot b v' ct' k→Foot b v ct k∨(∃ (i:Nat) (o:Out),i<j∧os[i]?=some o∧(oval o).ownBlock=some k)∨w0.heap.size≤k
 ch:Ch w0 wr (fun k=>Foot b v ct k∨∃ (i:Nat) (o:Out),os[i]?=some o∧(oval o).ownBlock=some k)
 b0:(ct' 0).length≤2
 b3:(ct' 3).length≤(ct 3).length+18*j
 t0:0≤t'
 tm:t'≤t+1048576*j
theorem Nj.next {w w0 wr w2:World} {g b:Nat} {F ok:Nat→Prop} {P0:Option Addr} {rl:List S39} {rs:List Reg} {c t:Int} {v:Fin 5→Value} {ct:Fin 5→List Value} {L:Value} {los:List Value} {V:Value} {os:List Out} {j M:Nat} {c' t':Int} {v':Fin 5→Value} {ct':Fin 5→List Value} {o:Out} {e:Ending}
  (h:Nj w w0 wr g b F ok P0 rl rs c t v ct L los V os j c' t' v' ct') (h0:Mo w w0 g b F ok P0 rl rs c t v ct L los) (hR:OutsR w0 M V os) (hM:∀ k,(V.ownBlock=some k∨∃ o∈os,(oval o).ownBlock=some k)→w.heap.size≤k∧¬ Any F ok b v ct L los k) (ho:os[j]?=some o) (hl:o.data.length≤1048576)
  (hO:Owned wr b (t'+o.data.length) v' ct' (oval o) e w2):e=.returned (.tuple #[])∧∃ c2 v2 ct2,Nj w w0 w2 g b F ok P0 rl rs c t v ct L los V os (j+1) c2 (t'+o.data.length) v2 ct2:=by
 have hom:=List.mem_of_getElem? ho
 have hnew:∀ (q:Out),q∈os→∀ k,(oval q).ownBlock=some k→(w.heap.size≤k∧¬ Any F ok b v ct L los k)∧k<w0.heap.size:=fun q hq k hk=>⟨hM k (.inr ⟨q,hq,hk⟩),(outsR_dat_row hR hq).1.lt k hk⟩
 have hvn:∀ k,V.ownBlock=some k→(w.heap.size≤k∧¬ Any F ok b v ct L los k)∧k<w0.heap.size:=fun k hk=>⟨hM k (.inl hk),(World.ownsRow.lt hR.row k hk).2⟩
 have hsep:∀ (i:Nat) (q:Out),i≠j→os[i]?=some q→∀ k,(oval q).ownBlock=some k→(oval o).ownBlock≠some k:=fun i q hij hq k hk e2=>by
  have hL:=outsR_lists' hR
  exact hL i j (oval q) (oval o) k (by rw [List.getElem?_map,hq];rfl) (by rw [List.getElem?_map,ho];rfl) hij hk e2
 have hnf:∀ k,(oval o).ownBlock=some k→¬ Foot b v' ct' k:=fun k hk e2=>by
  have h1:=hnew o hom k hk
  rcases h.ft k e2 with e|⟨i,q,hi,hq,e⟩|e
  ·exact h1.1.2 (.inr (.inr (.inl e)))
  ·exact hsep i q (by omega) hq k e hk
  ·omega
 have hany:∀ k,(oval o).ownBlock=some k→w.heap.size≤k∧¬ Any F ok b v' ct' L los k:=fun k hk=>by
  have h1:=hnew o hom k hk
  refine ⟨h1.1.1,fun e2=>?_⟩
  rcases e2 with e|e|e|e
  ·exact h1.1.2 (.inl e)
  ·exact h1.1.2 (.inr (.inl e))
  ·exact hnf k hk e
  ·exact h1.1.2 (.inr (.inr (.inr e)))
 obtain ⟨he,c2,v2,ct2,hmo,hb0,hb3,hc,hf⟩:=h.mo.own hany hO
 have vt:∀ k,V.ownBlock=some k→(oval o).ownBlock≠some k:=fun k hk e=>by
  rcases own_ne hR.row (hR.dat o hom) (by decide:(39:TypeId)≠5) with h3|h3
  ·rw [h3] at hk;cases hk
  ·exact h3 (hk.trans e.symm)
 have vf:∀ k,V.ownBlock=some k→¬ Foot b v' ct' k:=fun k hk e2=>by
  have h1:=hvn k hk
  rcases h.ft k e2 with e|⟨i,q,hi,hq,e⟩|e
  ·exact h1.1.2 (.inr (.inr (.inl e)))
  ·rcases own_ne hR.row (hR.dat q (List.mem_of_getElem? hq)) (by decide:(39:TypeId)≠5) with h3|h3
   ·rw [h3] at hk;cases hk
   ·exact h3 (hk.trans e.symm)
  ·omega
 have hs:=h.ch.size
 refine ⟨he,c2,v2,ct2,⟨hmo,Row2.ch h.row hc fun k hk e2=>e2.elim (vf k hk) (vt k hk),fun i q hi hq=>?_,fun k hk=>?_,?_,hb0,by have:=h.b3;omega,by have:=h.t0;omega,by have:=h.tm;omega⟩⟩
 ·refine (h.dat i q (by omega) hq).ch hc fun k hk e2=>?_
  rcases e2 with e|e
  ·have h1:=hnew q (List.mem_of_getElem? hq) k hk
   rcases h.ft k e with e|⟨i2,q2,hi2,hq2,e⟩|e
   ·exact h1.1.2 (.inr (.inr (.inl e)))
   ·have hL:=outsR_lists' hR
    exact hL i i2 (oval q) (oval q2) k (by rw [List.getElem?_map,hq];rfl) (by rw [List.getElem?_map,hq2];rfl) (by omega) hk e
   ·omega
  ·exact hsep i q (by omega) hq k hk e
 ·rcases hf k hk with e|e|e
  ·exact (h.ft k e).imp id fun e=>e.imp (fun ⟨i,q,hi,hq,e⟩=>⟨i,q,by omega,hq,e⟩) id
  ·exact .inr (.inl ⟨j,o,by omega,ho,e⟩)
  ·exact .inr (.inr (by omega))
 ·refine h.ch.trans hc fun k hk=>?_
  rcases hk with e|e
  ·rcases h.ft k e with e|⟨i,q,hi,hq,e⟩|e
   ·exact .inl (.inl e)
   ·exact .inl (.inr ⟨i,q,hq,e⟩)
   ·exact .inr e
  ·exact .inl (.inr ⟨j,o,ho,e⟩)
theorem N1 (w w0:World) (M g b:Nat) (F ok:Nat→Prop) (P0:Option Addr) (rl:List S39) (rs:List Reg) (c t i9 i11:Int) (v:Fin 5→Value) (ct:Fin 5→List Value) (L:Value) (los:List Value) (A2:Option Addr) (n c2:Nat) (os:List Out)
  (h0:Mo w w0 g b F ok P0 rl rs c t v ct L los) (hR:OutsR w0 M (.slice A2 n c2) os) (hn:os.length=n) (hM:∀ k,((Value.slice A2 n c2).ownBlock=some k∨∃ o∈os,(oval o).ownBlock=some k)→w.heap.size≤k∧¬ Any F ok b v ct L los k) (hl:∀ o∈os,o.data.length≤1048576) (hn2:n≤1048576) (hb0:(ct 0).length≤2) (hb3:(ct 3).length+18*n≤5400000000000) (ht0:0≤t) (ht:t≤100000000) {y0 y1 y2 y3 y4 y5 y6 y8 y10 y12 y13 y15 y16 y17 y18 y19 y20 y21 y22 y23 y24 y25 y26 y27 y28 y29 y30 y31 y32 y33 y34 y35 y36 y37 y38 y39 y40 y41 y42 y43 y44 y45 y46 y47 y48 y49 y50 y51 y52 y53 y54 y55 y56 y57 y58 y59 y60 y61 y62 y63 y64 y65 y66 y67 y68 y69 y70 y71 y72 y73 y74 y75 y76 y77 y78 y79 y80 y81 y82 y83 y84 y85 y86 y87 y88 y89 y90 y91 y92 y93 y94 y95 y96 y97 y98 y99 y100 y101 y102 y103 y104 y105 y106 y107 y108 y109 y110 y111 y112 y113 y114 y115 y116 y117 y118 y119 y120 y121 y122 y123 y124 y125 y126 y127 y128 y129 y130 y131 y132 y133 y134 y135 y136 y137 y138 y139 y140 y141 y142 y143 y144 y145 y146 y147 y148 y149 y150 y151 y152 y153 y154 y155 y156 y157 y158 y159 y160 y161 y162 y163 y164 y165 y166 y167 y168 y169 y170 y171 y172 y173 y174 y175 y176 y177 y178 y179 y180 y181 y182 y183 y184 y185 y186 y187 y188 y189 y190 y191 y192 y193 y194 y195 y196 y197 y198 y199 y200 y201 y202 y203 y204 y205 y206 y207 y208 y209 y210 y211 y212 y213 y214 y215 y216 y217:Value} :
  Code.wp Try.prog (left (postC 5 (bodyX1 (Try.f6.body.getD .skip)))) (Norm fun a W=>∃ (e15 e91 e92 e93 e94 e95 e96 e97 e98 e99 e100 e101 e102 e103 e104 e105 e106 e107 e108 e109:Value),a={ tmps:=#[y0,y1,y2,y3,y4,y5,y6,(.pointer (some ⟨b,0,none⟩)),y8,(.int .i64 i9),y10,(.int .i64 i11),y12,y13,(.slice A2 n c2),e15,y16,y17,y18,y19,y20,y21,y22,y23,y24,y25,y26,y27,y28,y29,y30,y31,y32,y33,y34,y35,y36,y37,y38,y39,y40,y41,y42,y43,y44,y45,y46,y47,y48,y49,y50,y51,y52,y53,y54,y55,y56,y57,y58,y59,y60,y61,y62,y63,y64,y65,y66,y67,y68,y69,y70,y71,y72,y73,y74,y75,y76,y77,y78,y79,y80,y81,y82,y83,y84,y85,y86,y87,y88,y89,y90,e91,e92,e93,e94,e95,e96,e97,e98,e99,e100,e101,e102,e103,e104,e105,e106,e107,e108,e109,y110,y111,y112,y113,y114,y115,y116,y117,y118,y119,y120,y121,y122,y123,y124,y125,y126,y127,y128,y129,y130,y131,y132,y133,y134,y135,y136,y137,y138,y139,y140,y141,y142,y143,y144,y145,y146,y147,y148,y149,y150,y151,y152,y153,y154,y155,y156,y157,y158,y159,y160,y161,y162,y163,y164,y165,y166,y167,y168,y169,y170,y171,y172,y173,y174,y175,y176,y177,y178,y179,y180,y181,y182,y183,y184,y185,y186,y187,y188,y189,y190,y191,y192,y193,y194,y195,y196,y197,y198,y199,y200,y201,y202,y203,y204,y205,y206,y207,y208,y209,y210,y211,y212,y213,y214,y215,y216,y217],defers:=[] }∧Hid (∃ c' t' v' ct',Nj w w0 W g b F ok P0 rl rs c t v ct L los (.slice A2 n c2) os n c' t' v' ct')) { tmps:=#[y0,y1,y2,y3,y4,y5,y6,(.pointer (some ⟨b,0,none⟩)),y8,(.int .i64 i9),y10,(.int .i64 i11),y12,y13,(.slice A2 n c2),y15,y16,y17,y18,y19,y20,y21,y22,y23,y24,y25,y26,y27,y28,y29,y30,y31,y32,y33,y34,y35,y36,y37,y38,y39,y40,y41,y42,y43,y44,y45,y46,y47,y48,y49,y50,y51,y52,y53,y54,y55,y56,y57,y58,y59,y60,y61,y62,y63,y64,y65,y66,y67,y68,y69,y70,y71,y72,y73,y74,y75,y76,y77,y78,y79,y80,y81,y82,y83,y84,y85,y86,y87,y88,y89,y90,y91,y92,y93,y94,y95,y96,y97,y98,y99,y100,y101,y102,y103,y104,y105,y106,y107,y108,y109,y110,y111,y112,y113,y114,y115,y116,y117,y118,y119,y120,y121,y122,y123,y124,y125,y126,y127,y128,y129,y130,y131,y132,y133,y134,y135,y136,y137,y138,y139,y140,y141,y142,y143,y144,y145,y146,y147,y148,y149,y150,y151,y152,y153,y154,y155,y156,y157,y158,y159,y160,y161,y162,y163,y164,y165,y166,y167,y168,y169,y170,y171,y172,y173,y174,y175,y176,y177,y178,y179,y180,y181,y182,y183,y184,y185,y186,y187,y188,y189,y190,y191,y192,y193,y194,y195,y196,y197,y198,y199,y200,y201,y202,y203,y204,y205,y206,y207,y208,y209,y210,y211,y212,y213,y214,y215,y216,y217],defers:=[] } w0:=by
 have H0:=Lib.hid h0
 have HR:=Lib.hid hR
 have HN:=Lib.hid hn
 have HM:=Lib.hid hM
 have HL:=Lib.hid hl
 have HB3:=Lib.hid hb3
 have HJ:=Lib.hid (show Nj w w0 w0 g b F ok P0 rl rs c t v ct L los (.slice A2 n c2) os 0 c t v ct from ⟨h0,outsR_row2 hR,fun i o _ ho=>(outsR_dat_row hR (List.mem_of_getElem? ho)).1,fun k hk=>.inl hk,Ch.refl _ _,hb0,by omega,ht0,by omega⟩)
 clear h0 hR hn hM hl hb3
 unfold Try.f6
 dsimp only [Option.getD,postC,bodyX1,bodyX0,left,right,inner]
 go_wp2
 go_loopw [15] (fun i wr=>∃ (j:Nat) (c' t':Int) (v':Fin 5→Value) (ct':Fin 5→List Value),j≤n∧i=.int .i64 (j:Int)∧Hid (Nj w w0 wr g b F ok P0 rl rs c t v ct L los (.slice A2 n c2) os j c' t' v' ct')) (fun i _=>n - (RowKit.intOf i).toNat)
 case atStart=>exact ⟨0,c,t,v,ct,Nat.zero_le _,rfl,HJ⟩
 case round =>
  obtain ⟨j,c',t',v',ct',hj,rfl,hJ⟩:=hrel
  by_cases hlt:j<n
  ·have hl0:j<os.length:=by rw [HN.out];exact hlt
   obtain ⟨o,ho⟩:∃ x,x=os[j]'hl0:=⟨_,rfl⟩
   have HU:=Lib.hid (show os[j]?=some o from by rw [ho];exact List.getElem?_eq_getElem hl0)
   obtain ⟨ga,ca,hva,hca,_,a1,_⟩:=Row2.at hJ.out.row (j:=j) (p:=(o.first,oval o)) (by rw [List.getElem?_map,HU.out];rfl)
   rw [List.length_map,HN.out] at hva hca
   injection hva with v1 v2 v3
   subst v1;subst v3
   have a2:wr.cell? ⟨ga,j*2+1,none⟩=some (.slice o.A o.data.length o.cap):=a1
   clear v2 ho hl0 a1
   have hol:=HL.out o (List.mem_of_getElem? HU.out)
   have HOW:=Lib.hid (fun mk=>own_ wr b c' t' mk v' ct' hJ.out.mo.bo o.A o.data.length o.cap o.data (hJ.out.dat j o (Nat.le_refl _) HU.out) (fun k hk e=>by
    have h1:=(outsR_dat_row HR.out (List.mem_of_getElem? HU.out)).2 k hk
    have h2:=(outsR_dat_row HR.out (List.mem_of_getElem? HU.out)).1.lt k hk
    rcases hJ.out.ft k e with e|⟨i,q,hi,hq,e⟩|e
    ·exact (HM.out k (.inr ⟨o,List.mem_of_getElem? HU.out,hk⟩)).2 (.inr (.inr (.inl e)))
    ·exact outsR_lists' HR.out i j (oval q) (oval o) k (by rw [List.getElem?_map,hq];rfl) (by rw [List.getElem?_map,HU.out];rfl) (by omega) e hk
    ·omega) (by omega) hJ.out.t0 (by have:=hJ.out.tm;omega) hJ.out.b0 (by have:=hJ.out.b3;have:=HB3.out;omega))
   go_wp2_with (go_at_call 17;refine (HOW.out _).mono ?_;intro e w2 hO;have hh:=hJ.out.next H0.out HR.out HM.out HU.out hol hO;obtain ⟨he,c3,v3,ct3,hN⟩:=hh;subst he;have HNX:=Lib.hid hN;clear hO hN)
   go_roundw
   case rel=>exact ⟨j+1,c3,_,v3,ct3,by omega,by go_num,HNX⟩
   case measure=>simp [RowKit.intOf];omega
  ·obtain rfl:j=n:=by omega
   go_wp2
   refine Norm.mk ?_
   exact ⟨_,_,_,_,_,_,_,_,_,_,_,_,_,_,_,_,_,_,_,_, rfl,Lib.hid ⟨c',t',v',ct',hJ.out⟩⟩
end Go.Proofs.Ythmeojeehemlaaa.Bk
end
section
namespace Go.Proofs.Ythmeojeehemlaaa.Bk
open Go.RowKit Go.Proofs.YthmeojeehemlaaaW.PrintWords Go.Proofs.Ythmeojeehemlaaa.Mem Go.Proofs.Ythmeojeehemlaaa.Lnd Go.Proofs.Ythmeojeehemlaaa.PM
attribute [local go_sem] isSome_setCell
theorem take_setG {α:Type} (ys l:List α) (k:Nat) (x:α) (hk:k<ys.length) (h:ys.take k=l.take k) (hx:l[k]?=some x):(ys.set k x).take (k+1)=l.take (k+1):=by
 have hl:k<l.length:=(List.getElem?_eq_some_iff.1 hx).1
 have hx':l[k]=x:=(List.getElem?_eq_some_iff.1 hx).2
 rw [List.take_succ_eq_append_getElem (by simpa using hk),List.take_succ_eq_append_getElem hl,hx',List.take_set_of_le (Nat.le_refl _),h,List.getElem_set_self]
theorem infoR:∃ i,Try.prog.info? 39=some i∧i.zero=some (.agg #[.int .u64 0,.slice none 0 0])∧i.size=2∧i.bytes=32:=info_parts (by kernel_rfl)
abbrev RowN (w:World) (v:Value) (n:Nat) (ps:List (Int × Value)):Prop:=w.ownsRow 0 39 2 v n (cells2 ps)
theorem RowN.of {w:World} {v:Value} {ps:List (Int × Value)} {n:Nat} (h:Row2 w v ps) (hn:ps.length=n):RowN w v n ps:=hn ▸ h
theorem RowN.to {w:World} {v:Value} {ps:List (Int × Value)} {n:Nat} (h:RowN w v n ps) (hn:ps.length=n):Row2 w v ps:=by
 subst hn;exact h
theorem RowN.ch {w w':World} {S:Nat→Prop} {v:Value} {n:Nat} {ps:List (Int × Value)} (h:RowN w v n ps) (hc:Ch w w' S) (hn:∀ g,v.ownBlock=some g→¬ S g):RowN w' v n ps:=by
 refine ⟨h.1,?_⟩
 rcases h.2 with hn'|⟨g,cap,cur,rfl,hb,hg,rest⟩
 ·exact .inl hn'
 ·exact .inr ⟨g,cap,cur,rfl,hb,(hc.block g (Array.getElem?_eq_some_iff.1 hg).1 (hn g rfl)).trans hg,rest⟩
theorem N2 (w0:World) (AL A2:Option Addr) (K cL n c2:Nat) (ps:List (Int × Value)) (hR:RowN w0 (.slice A2 n c2) n ps) (hps:ps.length=n) (hK:K≤8388608) (hn:n≤1048576) {y0 y1 y2 y3 y4 y5 y6 y7 y9 y10 y11 y12 y13 y15 y16 y17 y18 y19 y20 y21 y22 y23 y24 y25 y26 y27 y28 y29 y30 y31 y32 y33 y34 y35 y36 y37 y38 y39 y40 y41 y42 y43 y44 y45 y46 y47 y48 y49 y50 y51 y52 y53 y54 y55 y56 y57 y58 y59 y60 y61 y62 y63 y64 y65 y66 y67 y68 y69 y70 y71 y72 y73 y74 y75 y76 y77 y78 y79 y80 y81 y82 y83 y84 y85 y86 y87 y88 y89 y90 y91 y92 y93 y94 y95 y96 y97 y98 y99 y100 y101 y102 y103 y104 y105 y106 y107 y108 y109 y110 y111 y112 y113 y114 y115 y116 y117 y118 y119 y120 y121 y122 y123 y124 y125 y126 y127 y128 y129 y130 y131 y132 y133 y134 y135 y136 y137 y138 y139 y140 y141 y142 y143 y144 y145 y146 y147 y148 y149 y150 y151 y152 y153 y154 y155 y156 y157 y158 y159 y160 y161 y162 y163 y164 y165 y166 y167 y168 y169 y170 y171 y172 y173 y174 y175 y176 y177 y178 y179 y180 y181 y182 y183 y184 y185 y186 y187 y188 y189 y190 y191 y192 y193 y194 y195 y196 y197 y198 y199 y200 y201 y202 y203 y204 y205 y206 y207 y208 y209 y210 y211 y212 y213 y214 y215 y216 y217:Value} :
  Code.wp Try.prog (left (postC 6 (bodyX1 (Try.f6.body.getD .skip)))) (Norm fun a W=>∃ (e16 e110 e111 e112 e113 e114 e115 e116 e117 e118 e119 e120 e121 e122 e123 e124 e125:Value),a={ tmps:=#[y0,y1,y2,y3,y4,y5,y6,y7,(.slice AL K cL),y9,y10,y11,y12,y13,(.slice A2 n c2),y15,e16,y17,y18,y19,y20,y21,y22,y23,y24,y25,y26,y27,y28,y29,y30,y31,y32,y33,y34,y35,y36,y37,y38,y39,y40,y41,y42,y43,y44,y45,y46,y47,y48,y49,y50,y51,y52,y53,y54,y55,y56,y57,y58,y59,y60,y61,y62,y63,y64,y65,y66,y67,y68,y69,y70,y71,y72,y73,y74,y75,y76,y77,y78,y79,y80,y81,y82,y83,y84,y85,y86,y87,y88,y89,y90,y91,y92,y93,y94,y95,y96,y97,y98,y99,y100,y101,y102,y103,y104,y105,y106,y107,y108,y109,e110,e111,e112,e113,e114,e115,e116,e117,e118,e119,e120,e121,e122,e123,e124,e125,y126,y127,y128,y129,y130,y131,y132,y133,y134,y135,y136,y137,y138,y139,y140,y141,y142,y143,y144,y145,y146,y147,y148,y149,y150,y151,y152,y153,y154,y155,y156,y157,y158,y159,y160,y161,y162,y163,y164,y165,y166,y167,y168,y169,y170,y171,y172,y173,y174,y175,y176,y177,y178,y179,y180,y181,y182,y183,y184,y185,y186,y187,y188,y189,y190,y191,y192,y193,y194,y195,y196,y197,y198,y199,y200,y201,y202,y203,y204,y205,y206,y207,y208,y209,y210,y211,y212,y213,y214,y215,y216,y217],defers:=[] }∧Hid (RowN W (.slice A2 n c2) n (mkp K n))∧Hid (Ch w0 W (fun k=>(Value.slice A2 n c2).ownBlock=some k))) { tmps:=#[y0,y1,y2,y3,y4,y5,y6,y7,(.slice AL K cL),y9,y10,y11,y12,y13,(.slice A2 n c2),y15,y16,y17,y18,y19,y20,y21,y22,y23,y24,y25,y26,y27,y28,y29,y30,y31,y32,y33,y34,y35,y36,y37,y38,y39,y40,y41,y42,y43,y44,y45,y46,y47,y48,y49,y50,y51,y52,y53,y54,y55,y56,y57,y58,y59,y60,y61,y62,y63,y64,y65,y66,y67,y68,y69,y70,y71,y72,y73,y74,y75,y76,y77,y78,y79,y80,y81,y82,y83,y84,y85,y86,y87,y88,y89,y90,y91,y92,y93,y94,y95,y96,y97,y98,y99,y100,y101,y102,y103,y104,y105,y106,y107,y108,y109,y110,y111,y112,y113,y114,y115,y116,y117,y118,y119,y120,y121,y122,y123,y124,y125,y126,y127,y128,y129,y130,y131,y132,y133,y134,y135,y136,y137,y138,y139,y140,y141,y142,y143,y144,y145,y146,y147,y148,y149,y150,y151,y152,y153,y154,y155,y156,y157,y158,y159,y160,y161,y162,y163,y164,y165,y166,y167,y168,y169,y170,y171,y172,y173,y174,y175,y176,y177,y178,y179,y180,y181,y182,y183,y184,y185,y186,y187,y188,y189,y190,y191,y192,y193,y194,y195,y196,y197,y198,y199,y200,y201,y202,y203,y204,y205,y206,y207,y208,y209,y210,y211,y212,y213,y214,y215,y216,y217],defers:=[] } w0:=by
 have HR:=Lib.hid hR
 have HP:=Lib.hid hps
 clear hR hps
 unfold Try.f6
 dsimp only [Option.getD,postC,bodyX1,bodyX0,left,right,inner]
 go_wp2
 go_loopw [16] (fun i wr=>∃ (j:Nat) (zs:List (Int × Value)),j≤n∧i=.int .i64 (j:Int)∧Hid (zs.length=n)∧Hid (zs.take j=(mkp K n).take j)∧Hid (RowN wr (.slice A2 n c2) n zs)∧Hid (Ch w0 wr (fun k=>(Value.slice A2 n c2).ownBlock=some k))) (fun i _=>n - (RowKit.intOf i).toNat)
 case atStart=>exact ⟨0,ps,Nat.zero_le _,rfl,HP,Lib.hid rfl,HR,Lib.hid (Ch.refl _ _)⟩
 case round =>
  obtain ⟨j,zs,hj,rfl,hzl,hzt,hzr,hC⟩:=hrel
  by_cases hlt:j<n
  ·have hjz:j<zs.length:=by rw [hzl.out];exact hlt
   obtain ⟨ga,ca,hva,hca,a0,a1,f0,f1⟩:=Row2.at (hzr.out.to hzl.out) (List.getElem?_eq_getElem hjz)
   rw [hzl.out] at hva hca
   injection hva with v1 v2 v3
   subst v1;subst v3
   have HS:=Lib.hid (show RowN ((wr.setCell ⟨ga,j*2,none⟩ (.int .u64 (1000*(K:Int)+(j:Int)))).setCell ⟨ga,j*2+1,none⟩ (.slice none 0 0)) (.slice (some ⟨ga,0,none⟩) n c2) n (zs.set j (1000*(K:Int)+(j:Int),.slice none 0 0)) from Row2.set_ hzr.out j (1000*(K:Int)+(j:Int),.slice none 0 0))
   have HC:=Lib.hid ((hC.out.set_ ⟨ga,j*2,none⟩ (.int .u64 (1000*(K:Int)+(j:Int))) (.inl rfl)).set_ ⟨ga,j*2+1,none⟩ (.slice none 0 0) (.inl rfl))
   clear v2
   go_wp2
   go_roundw
   case rel=>exact ⟨j+1,zs.set j (1000*(K:Int)+(j:Int),.slice none 0 0),by omega,by go_num,Lib.hid (by rw [List.length_set];exact hzl.out),Lib.hid (take_setG zs (mkp K n) j _ (by rw [hzl.out];exact hlt) hzt.out (mkp_at K n j hlt)),HS,HC⟩
   case measure=>simp [RowKit.intOf];omega
  ·obtain rfl:j=n:=by omega
   have hz:zs=mkp K j:=by
    have h:=hzt.out
    rw [List.take_of_length_le (Nat.le_of_eq hzl.out),List.take_of_length_le (Nat.le_of_eq (mkp_length _ _))] at h
    exact h
   subst hz
   go_wp2
   refine Norm.mk ?_
   exact ⟨⟨_,_,_,_,_,_,_,_,_,_,_,_,_,_,_,_,_, rfl⟩,hzr,hC⟩
structure Gj (w0 wr:World) (V x:Value) (K n j:Nat):Prop where
 ch:Ch w0 wr (fun k=>V.ownBlock=some k)
 old:RowN wr V n (mkp K n)
 row:RowN wr x (n+j) (mkp K (n+j))
 own:∀ k,x.ownBlock=some k→V.ownBlock=some k∨w0.heap.size≤k
theorem Gj.app {w0 wr w2:World} {V x v':Value} {K n j:Nat} {o:Obj} (h:Gj w0 wr V x K n j) (hA:AppS (wr.alloc o) w2 0 39 2 x v' (n+j) 1 (cells2 (mkp K (n+j))) (cells2 [(1000*(K:Int)+((n+j:Nat):Int),.slice none 0 0)])):Gj w0 w2 V v' K n (j+1):=by
 have e:cells2 (mkp K (n+j)) ++ cells2 [(1000*(K:Int)+((n+j:Nat):Int),.slice none 0 0)]=cells2 (mkp K (n+(j+1))):=by rw [← cells2_append,← Nat.add_assoc,mkp_succ]
 have ha:Ch wr (wr.alloc o) Never:=(Ch.refl wr Never).alloc o
 have hch:Ch (wr.alloc o) w2 (fun k=>x.ownBlock=some k):=Ch.of_grown hA.grown
 refine ⟨(h.ch.alloc o).trans hch fun k hk=>h.own k hk,?_,?_,fun k hk=>?_⟩
 ·refine hA.keep 0 V n _ (h.old.ch ha fun _ _ h=>h) (.inr (.inl ?_))
  rw [e]
  exact cells2_prefix (mkp_prefix K _ _ (by omega))
 ·have:=hA.row
  rw [e] at this
  exact this
 ·rcases hA.where_ with e|⟨q,hq,e⟩
  ·exact h.own k (e ▸ hk)
  ·right
   rw [e] at hk
   obtain rfl:=Option.some.inj hk
   exact Nat.le_trans h.ch.size (Nat.le_trans ha.size hq)
theorem N3 (w0:World) (AL A2:Option Addr) (K cL n c2:Nat) (hR:RowN w0 (.slice A2 n c2) n (mkp K n)) (hK:K≤8388608) (hn:n≤1048576) {y0 y1 y2 y3 y4 y5 y6 y7 y9 y10 y11 y12 y13 y14 y15 y16 y18 y19 y20 y21 y22 y23 y24 y25 y26 y27 y28 y29 y30 y31 y32 y33 y34 y35 y36 y37 y38 y39 y40 y41 y42 y43 y44 y45 y46 y47 y48 y49 y50 y51 y52 y53 y54 y55 y56 y57 y58 y59 y60 y61 y62 y63 y64 y65 y66 y67 y68 y69 y70 y71 y72 y73 y74 y75 y76 y77 y78 y79 y80 y81 y82 y83 y84 y85 y86 y87 y88 y89 y90 y91 y92 y93 y94 y95 y96 y97 y98 y99 y100 y101 y102 y103 y104 y105 y106 y107 y108 y109 y110 y111 y112 y113 y114 y115 y116 y117 y118 y119 y120 y121 y122 y123 y124 y125 y126 y127 y128 y129 y130 y131 y132 y133 y134 y135 y136 y137 y138 y139 y140 y141 y142 y143 y144 y145 y146 y147 y148 y149 y150 y151 y152 y153 y154 y155 y156 y157 y158 y159 y160 y161 y162 y163 y164 y165 y166 y167 y168 y169 y170 y171 y172 y173 y174 y175 y176 y177 y178 y179 y180 y181 y182 y183 y184 y185 y186 y187 y188 y189 y190 y191 y192 y193 y194 y195 y196 y197 y198 y199 y200 y201 y202 y203 y204 y205 y206 y207 y208 y209 y210 y211 y212 y213 y214 y215 y216 y217:Value} :
  Code.wp Try.prog (left (postC 8 (bodyX1 (Try.f6.body.getD .skip)))) (Norm fun a W=>∃ (B:Option Addr) (d:Nat) (e18 e127 e128 e129 e130 e131 e132 e133 e134 e135 e136 e137 e138 e139 e140 e141:Value),a={ tmps:=#[y0,y1,y2,y3,y4,y5,y6,y7,(.slice AL K cL),y9,y10,y11,y12,y13,y14,y15,y16,(.slice B (n+9) d),e18,y19,y20,y21,y22,y23,y24,y25,y26,y27,y28,y29,y30,y31,y32,y33,y34,y35,y36,y37,y38,y39,y40,y41,y42,y43,y44,y45,y46,y47,y48,y49,y50,y51,y52,y53,y54,y55,y56,y57,y58,y59,y60,y61,y62,y63,y64,y65,y66,y67,y68,y69,y70,y71,y72,y73,y74,y75,y76,y77,y78,y79,y80,y81,y82,y83,y84,y85,y86,y87,y88,y89,y90,y91,y92,y93,y94,y95,y96,y97,y98,y99,y100,y101,y102,y103,y104,y105,y106,y107,y108,y109,y110,y111,y112,y113,y114,y115,y116,y117,y118,y119,y120,y121,y122,y123,y124,y125,y126,e127,e128,e129,e130,e131,e132,e133,e134,e135,e136,e137,e138,e139,e140,e141,y142,y143,y144,y145,y146,y147,y148,y149,y150,y151,y152,y153,y154,y155,y156,y157,y158,y159,y160,y161,y162,y163,y164,y165,y166,y167,y168,y169,y170,y171,y172,y173,y174,y175,y176,y177,y178,y179,y180,y181,y182,y183,y184,y185,y186,y187,y188,y189,y190,y191,y192,y193,y194,y195,y196,y197,y198,y199,y200,y201,y202,y203,y204,y205,y206,y207,y208,y209,y210,y211,y212,y213,y214,y215,y216,y217],defers:=[] }∧Hid (Gj w0 W (.slice A2 n c2) (.slice B (n+9) d) K n 9)) { tmps:=#[y0,y1,y2,y3,y4,y5,y6,y7,(.slice AL K cL),y9,y10,y11,y12,y13,y14,y15,y16,(.slice A2 n c2),y18,y19,y20,y21,y22,y23,y24,y25,y26,y27,y28,y29,y30,y31,y32,y33,y34,y35,y36,y37,y38,y39,y40,y41,y42,y43,y44,y45,y46,y47,y48,y49,y50,y51,y52,y53,y54,y55,y56,y57,y58,y59,y60,y61,y62,y63,y64,y65,y66,y67,y68,y69,y70,y71,y72,y73,y74,y75,y76,y77,y78,y79,y80,y81,y82,y83,y84,y85,y86,y87,y88,y89,y90,y91,y92,y93,y94,y95,y96,y97,y98,y99,y100,y101,y102,y103,y104,y105,y106,y107,y108,y109,y110,y111,y112,y113,y114,y115,y116,y117,y118,y119,y120,y121,y122,y123,y124,y125,y126,y127,y128,y129,y130,y131,y132,y133,y134,y135,y136,y137,y138,y139,y140,y141,y142,y143,y144,y145,y146,y147,y148,y149,y150,y151,y152,y153,y154,y155,y156,y157,y158,y159,y160,y161,y162,y163,y164,y165,y166,y167,y168,y169,y170,y171,y172,y173,y174,y175,y176,y177,y178,y179,y180,y181,y182,y183,y184,y185,y186,y187,y188,y189,y190,y191,y192,y193,y194,y195,y196,y197,y198,y199,y200,y201,y202,y203,y204,y205,y206,y207,y208,y209,y210,y211,y212,y213,y214,y215,y216,y217],defers:=[] } w0:=by
 obtain ⟨i,hi,hz0,hz1,hz2⟩:=infoR
 have HG0:=Lib.hid (show Gj w0 w0 (.slice A2 n c2) (.slice A2 n c2) K n 0 from ⟨Ch.refl _ _,hR,hR,fun k hk=>.inl hk⟩)
 clear hR
 unfold Try.f6
 dsimp only [Option.getD,postC,bodyX1,bodyX0,left,right,inner]
 go_wp2
 go_loopw [17,18] (fun x i wr=>∃ (j d:Nat) (B:Option Addr),j≤9∧i=.int .i64 (j:Int)∧x=.slice B (n+j) d∧Hid (Gj w0 wr (.slice A2 n c2) x K n j)) (fun _ i _=>9 - (RowKit.intOf i).toNat)
 case atStart=>exact ⟨0,c2,A2,Nat.zero_le _,rfl,rfl,HG0⟩
 case round =>
  obtain ⟨j,d,B,hj,rfl,rfl,hG⟩:=hrel
  by_cases hlt:j<9
  ·go_wp2_with (at_builtin;refine wpList_appS _ rfl _ _ 22 rfl 0 39 i (.agg #[.int .u64 0,.slice none 0 0]) 2 32 Try.underlying22 hi hz0 hz1 hz2 rfl (by decide) (.slice B (n+j) d) (n+j) (cells2 (mkp K (n+j))) rfl ?q1 ⟨wr.heap.size,0,none⟩ 1 1 (cells2 [(1000*(K:Int)+((n+j:Nat):Int),.slice none 0 0)]) rfl rfl (by decide) ?q2 ?q3 ?q4 ?q5 ?q6 ?_)
   case q1=>exact hG.out.row.ch ((Ch.refl wr Never).alloc _) fun _ _ h=>h
   case q2=>exact new_at wr [.int .u64 (1000*(K:Int)+((n+j:Nat):Int)),.slice none 0 0] 39
   case q3=>intro u hu;simp [cells2] at hu;rcases hu with rfl|rfl <;> rfl
   case q4=>unfold maxLen;omega
   case q5=>omega
   case q6=>exact Nat.zero_le _
   intro v' w2 hA
   obtain ⟨B2,d2,hv,_⟩:=own_form hA.row
   subst hv
   have HG2:=Lib.hid (hG.out.app hA)
   clear hA
   go_wp2
   go_roundw
   case rel=>exact ⟨j+1,d2,B2,by omega,by go_num,rfl,HG2⟩
   case measure=>simp [RowKit.intOf];omega
  ·obtain rfl:j=9:=by omega
   go_wp2
   refine Norm.mk ?_
   exact ⟨B,d,_,_,_,_,_,_,_,_,_,_,_,_,_,_,_,_, rfl,hG⟩
end Go.Proofs.Ythmeojeehemlaaa.Bk
end
section
namespace Go.Proofs.Ythmeojeehemlaaa.Bk
open Go.RowKit Go.Proofs.YthmeojeehemlaaaW.PrintWords Go.Proofs.Ythmeojeehemlaaa.Mem Go.Proofs.Ythmeojeehemlaaa.Lnd Go.Proofs.Ythmeojeehemlaaa.PM
attribute [local go_sem] isSome_setCell
theorem infoL:∃ i,Try.prog.info? 22=some i∧i.zero=some (.slice none 0 0)∧i.size=1∧i.bytes=24:=info_parts (by kernel_rfl)
structure Bdp (w w0 W:World) (M g b:Nat) (F ok:Nat→Prop) (P0:Option Addr) (rl:List S39) (rs:List Reg) (c t:Int) (v:Fin 5→Value) (ct:Fin 5→List Value) (L:Value) (los:List Value) (n:Nat) (c' t':Int) (v':Fin 5→Value) (ct':Fin 5→List Value) (L':Value) (los':List Value):Prop where
 mo:Mo w W g b F ok P0 rl rs c' t' v' ct' L' los'
 len:los'.length=los.length+2
 b0:(ct' 0).length≤2
 b3:(ct' 3).length≤(ct 3).length+18*(n+1)
 t0:0≤t'
 tm:t'≤t+1048576*(n+1)
 ch:Ch w0 W (fun k=>Any F ok b v ct L los k∨M≤k)
 sp:∀ k,Any F ok b v' ct' L' los' k→Any F ok b v ct L los k∨M≤k
theorem Bd (w w0:World) (M g b:Nat) (F ok:Nat→Prop) (P0:Option Addr) (rl:List S39) (rs:List Reg) (c t i9 i11:Int) (v:Fin 5→Value) (ct:Fin 5→List Value) (los:List Value) (AL A1 A2:Option Addr) (K cL n1 c1 n c2:Nat) (xs:List Int) (os:List Out)
  (h0:Mo w w0 g b F ok P0 rl rs c t v ct (.slice AL K cL) los) (hK:los.length=K) (hK2:K+2≤8388608) (hev:K % 2=0) (h1:OwnB w0 M A1 c1 xs) (hn1:xs.length=n1) (hx:n1≤1048576) (hR:OutsR w0 M (.slice A2 n c2) os) (hn:os.length=n) (hone:Value.slice A1 n1 c1=.slice none 0 0∨Value.slice A2 n c2=.slice none 0 0)
  (hM:∀ k,Any F ok b v ct (.slice AL K cL) los k→k<M) (hwM:w.heap.size≤M) (hM0:M≤w0.heap.size) (hl:∀ o∈os,o.data.length≤1048576) (hn2:n≤1048576) (hb0:(ct 0).length≤2) (hb3:(ct 3).length+18*(n+1)≤5400000000000) (ht0:0≤t) (ht:t≤4000) {y0 y1 y2 y3 y4 y5 y6 y10 y12 y15 y16 y17 y18 y19 y20 y21 y22 y23 y24 y25 y26 y27 y28 y29 y30 y31 y32 y33 y34 y35 y36 y37 y38 y39 y40 y41 y42 y43 y44 y45 y46 y47 y48 y49 y50 y51 y52 y53 y54 y55 y56 y57 y58 y59 y60 y61 y62 y63 y64 y65 y66 y67 y68 y69 y70 y71 y72 y73 y74 y75 y76 y77 y78 y79 y80 y81 y82 y83 y84 y85 y86 y87 y88 y89 y90 y91 y92 y93 y94 y95 y96 y97 y98 y99 y100 y101 y102 y103 y104 y105 y106 y107 y108 y109 y110 y111 y112 y113 y114 y115 y116 y117 y118 y119 y120 y121 y122 y123 y124 y125 y126 y127 y128 y129 y130 y131 y132 y133 y134 y135 y136 y137 y138 y139 y140 y141 y142 y143 y144 y145 y146 y147 y148 y149 y150 y151 y152 y153 y154 y155 y156 y157 y158 y159 y160 y161 y162 y163 y164 y165 y166 y167 y168 y169 y170 y171 y172 y173 y174 y175 y176 y177 y178 y179 y180 y181 y182 y183 y184 y185 y186 y187 y188 y189 y190 y191 y192 y193 y194 y195 y196 y197 y198 y199 y200 y201 y202 y203 y204 y205 y206 y207 y208 y209 y210 y211 y212 y213 y214 y215 y216 y217:Value} :
  Code.wp Try.prog (postC 4 (bodyX1 (Try.f6.body.getD .skip))) (Norm fun a W=>∃ (AL2:Option Addr) (cL2:Nat) (e15 e16 e17 e18 e84 e85 e86 e87 e88 e89 e90 e91 e92 e93 e94 e95 e96 e97 e98 e99 e100 e101 e102 e103 e104 e105 e106 e107 e108 e109 e110 e111 e112 e113 e114 e115 e116 e117 e118 e119 e120 e121 e122 e123 e124 e125 e126 e127 e128 e129 e130 e131 e132 e133 e134 e135 e136 e137 e138 e139 e140 e141 e142 e143 e144 e145 e146:Value),a={ tmps:=#[y0,y1,y2,y3,y4,y5,y6,(.pointer (some ⟨b,0,none⟩)),(.slice AL2 (K+2) cL2),(.int .i64 i9),y10,(.int .i64 i11),y12,(.slice A1 n1 c1),(.slice A2 n c2),e15,e16,e17,e18,y19,y20,y21,y22,y23,y24,y25,y26,y27,y28,y29,y30,y31,y32,y33,y34,y35,y36,y37,y38,y39,y40,y41,y42,y43,y44,y45,y46,y47,y48,y49,y50,y51,y52,y53,y54,y55,y56,y57,y58,y59,y60,y61,y62,y63,y64,y65,y66,y67,y68,y69,y70,y71,y72,y73,y74,y75,y76,y77,y78,y79,y80,y81,y82,y83,e84,e85,e86,e87,e88,e89,e90,e91,e92,e93,e94,e95,e96,e97,e98,e99,e100,e101,e102,e103,e104,e105,e106,e107,e108,e109,e110,e111,e112,e113,e114,e115,e116,e117,e118,e119,e120,e121,e122,e123,e124,e125,e126,e127,e128,e129,e130,e131,e132,e133,e134,e135,e136,e137,e138,e139,e140,e141,e142,e143,e144,e145,e146,y147,y148,y149,y150,y151,y152,y153,y154,y155,y156,y157,y158,y159,y160,y161,y162,y163,y164,y165,y166,y167,y168,y169,y170,y171,y172,y173,y174,y175,y176,y177,y178,y179,y180,y181,y182,y183,y184,y185,y186,y187,y188,y189,y190,y191,y192,y193,y194,y195,y196,y197,y198,y199,y200,y201,y202,y203,y204,y205,y206,y207,y208,y209,y210,y211,y212,y213,y214,y215,y216,y217],defers:=[] }∧Hid (∃ c' t' v' ct' los',Bdp w w0 W M g b F ok P0 rl rs c t v ct (.slice AL K cL) los n c' t' v' ct' (.slice AL2 (K+2) cL2) los')) { tmps:=#[y0,y1,y2,y3,y4,y5,y6,(.pointer (some ⟨b,0,none⟩)),(.slice AL K cL),(.int .i64 i9),y10,(.int .i64 i11),y12,(.slice A1 n1 c1),(.slice A2 n c2),y15,y16,y17,y18,y19,y20,y21,y22,y23,y24,y25,y26,y27,y28,y29,y30,y31,y32,y33,y34,y35,y36,y37,y38,y39,y40,y41,y42,y43,y44,y45,y46,y47,y48,y49,y50,y51,y52,y53,y54,y55,y56,y57,y58,y59,y60,y61,y62,y63,y64,y65,y66,y67,y68,y69,y70,y71,y72,y73,y74,y75,y76,y77,y78,y79,y80,y81,y82,y83,y84,y85,y86,y87,y88,y89,y90,y91,y92,y93,y94,y95,y96,y97,y98,y99,y100,y101,y102,y103,y104,y105,y106,y107,y108,y109,y110,y111,y112,y113,y114,y115,y116,y117,y118,y119,y120,y121,y122,y123,y124,y125,y126,y127,y128,y129,y130,y131,y132,y133,y134,y135,y136,y137,y138,y139,y140,y141,y142,y143,y144,y145,y146,y147,y148,y149,y150,y151,y152,y153,y154,y155,y156,y157,y158,y159,y160,y161,y162,y163,y164,y165,y166,y167,y168,y169,y170,y171,y172,y173,y174,y175,y176,y177,y178,y179,y180,y181,y182,y183,y184,y185,y186,y187,y188,y189,y190,y191,y192,y193,y194,y195,y196,y197,y198,y199,y200,y201,y202,y203,y204,y205,y206,y207,y208,y209,y210,y211,y212,y213,y214,y215,y216,y217],defers:=[] } w0:=by
 subst hn1
 have hrow1:Row w0 5 (.slice A1 xs.length c1) (bs xs):=by
  have h2:w0.ownsRow M 5 1 (.slice A1 xs.length c1) (bs xs).length (bs xs):=by rw [bs_length];exact h1
  exact (Row.of_own h2).1
 have hnew1:∀ k,(Value.slice A1 xs.length c1).ownBlock=some k→M≤k:=fun k hk=>(World.ownsRow.lt h1 k hk).1
 have hany1:∀ k,(Value.slice A1 xs.length c1).ownBlock=some k→w.heap.size≤k∧¬ Any F ok b v ct (.slice AL K cL) los k:=fun k hk=>⟨by have:=hnew1 k hk;omega,fun e=>by have:=hM k e;have:=hnew1 k hk;omega⟩
 have HOW:=Lib.hid (fun mk=>own_ w0 b c t mk v ct h0.bo A1 xs.length c1 xs hrow1 (fun k hk e=>(hany1 k hk).2 (.inr (.inr (.inl e)))) (by omega) ht0 (by omega) hb0 (by omega))
 have H0:=Lib.hid h0
 have HK:=Lib.hid hK
 have HA1:=Lib.hid hany1
 have HN1:=Lib.hid hnew1
 have HR:=Lib.hid hR
 have HN:=Lib.hid hn
 have HONE:=Lib.hid hone
 have HM:=Lib.hid hM
 have HL:=Lib.hid hl
 have HB3:=Lib.hid hb3
 have HWM:=Lib.hid (And.intro hwM hM0)
 have HOS:=Lib.hid (show ∀ k,((Value.slice A2 n c2).ownBlock=some k∨∃ o∈os,(oval o).ownBlock=some k)→M≤k∧k<w0.heap.size∧(Value.slice A1 xs.length c1).ownBlock≠some k from fun k hk=>by
  have hlt:M≤k∧k<w0.heap.size:=by
   rcases hk with e|⟨o,ho,e⟩
   ·exact World.ownsRow.lt hR.row k e
   ·exact ⟨(outsR_dat_row hR ho).2 k e,(outsR_dat_row hR ho).1.lt k e⟩
  refine ⟨hlt.1,hlt.2,fun e=>?_⟩
  rcases hone with h2|h2
  ·rw [h2] at e;simp [Value.ownBlock] at e
  ·rcases hk with e2|⟨o,ho,e2⟩
   ·rw [h2] at e2;simp [Value.ownBlock] at e2
   ·injection h2 with _ h3 _
    rw [h3] at hn
    rw [List.eq_nil_of_length_eq_zero hn] at ho
    cases ho)
 clear h0 hK h1 hR hn hone hM hl hb3 hwM hM0 hrow1 hnew1 hany1
 unfold Try.f6
 dsimp only [Option.getD,postC,bodyX1,bodyX0,left,right,inner]
 refine wp_seq_k (fun K18 hK=>?_)
 have HK18:=Lib.hid hK
 clear hK
 go_wp2_with (go_at_call 17;refine (HOW.out _).mono ?_;intro e w1 hO;have hh:=H0.out.own HA1.out hO;have he:=hh.1;subst he;obtain ⟨_,ca,va,cta,hm,hb0a,hb3a,hca,hfa⟩:=hh;have HMO:=Lib.hid hm;have HCA:=Lib.hid hca;have HFA:=Lib.hid hfa;have HB3A:=Lib.hid hb3a;clear hO hm hca hfa hb3a)
 refine HK18.out _ _ ?_
 clear HK18
 have hR1:OutsR w1 M (.slice A2 n c2) os:=by
  have far:∀ k,((Value.slice A2 n c2).ownBlock=some k∨∃ o∈os,(oval o).ownBlock=some k)→¬ (Foot b v ct k∨(Value.slice A1 xs.length c1).ownBlock=some k):=fun k hk e=>by
   have h2:=HOS.out k hk
   rcases e with e|e
   ·have:=HM.out k (.inr (.inr (.inl e)));omega
   ·exact h2.2.2 e
  have mv:∀ (e:TypeId) (s q:Nat) (u:Value) (zs:List Value),w0.ownsRow M e s u q zs→(∀ k,u.ownBlock=some k→¬ (Foot b v ct k∨(Value.slice A1 xs.length c1).ownBlock=some k))→w1.ownsRow M e s u q zs:=fun e s q u zs hr hn=>by
   refine ⟨hr.1,?_⟩
   rcases hr.2 with hn'|⟨g',cap,cur,rfl,hb,hg,rest⟩
   ·exact .inl hn'
   ·exact .inr ⟨g',cap,cur,rfl,hb,(HCA.out.block g' (Array.getElem?_eq_some_iff.1 hg).1 (hn g' rfl)).trans hg,rest⟩
  exact ⟨mv _ _ _ _ _ HR.out.row fun k hk=>far k (.inl hk),fun o ho=>mv _ _ _ _ _ (HR.out.dat o ho) fun k hk=>far k (.inr ⟨o,ho,hk⟩),HR.out.sep⟩
 have hMa:∀ k,((Value.slice A2 n c2).ownBlock=some k∨∃ o∈os,(oval o).ownBlock=some k)→w.heap.size≤k∧¬ Any F ok b va cta (.slice AL K cL) los k:=fun k hk=>by
  have h2:=HOS.out k hk
  have h3:=HWM.out
  refine ⟨by omega,fun e=>?_⟩
  rcases e with e|e|e|e
  ·have:=HM.out k (.inl e);omega
  ·have:=HM.out k (.inr (.inl e));omega
  ·rcases HFA.out k e with e|e|e
   ·have:=HM.out k (.inr (.inr (.inl e)));omega
   ·exact h2.2.2 e
   ·omega
  ·have:=HM.out k (.inr (.inr (.inr e)));omega
 refine wp_seq_k (fun K19 hK=>?_)
 have HK19:=Lib.hid hK
 clear hK
 refine Code.wp_mono (Norm.elim ?_) (N1 w w1 M g b F ok P0 rl rs ca (t+xs.length) i9 i11 va cta (.slice AL K cL) los A2 n c2 os HMO.out hR1 HN.out hMa HL.out hn2 hb0a (by have:=HB3A.out;have:=HB3.out;omega) (by omega) (by omega))
 rintro a W2 ⟨e15,e91,e92,e93,e94,e95,e96,e97,e98,e99,e100,e101,e102,e103,e104,e105,e106,e107,e108,e109,rfl,HX2⟩
 refine HK19.out _ _ ?_
 clear HK19
 obtain ⟨cb,tb,vb,ctb,hN⟩:=HX2.out
 have HNJ:=Lib.hid hN
 have HR1:=Lib.hid hR1
 have HMA:=Lib.hid hMa
 have hvb:∀ k,(Value.slice A2 n c2).ownBlock=some k→w.heap.size≤k∧¬ Any F ok b vb ctb (.slice AL K cL) los k:=fun k hk=>by
  have h2:=HMA.out k (.inl hk)
  refine ⟨h2.1,fun e=>?_⟩
  rcases e with e|e|e|e
  ·exact h2.2 (.inl e)
  ·exact h2.2 (.inr (.inl e))
  ·rcases HNJ.out.ft k e with e|⟨i,q,hi,hq,e⟩|e
   ·exact h2.2 (.inr (.inr (.inl e)))
   ·rcases own_ne HR1.out.row (HR1.out.dat q (List.mem_of_getElem? hq)) (by decide:(39:TypeId)≠5) with h3|h3
    ·rw [h3] at hk;cases hk
    ·exact h3 (hk.trans e.symm)
   ·have:=(World.ownsRow.lt HR1.out.row k hk).2;omega
  ·exact h2.2 (.inr (.inr (.inr e)))
 have HVB:=Lib.hid hvb
 clear hN HX2 hR1 hMa hvb
 refine wp_seq_k (fun K23 hK=>?_)
 have HK23:=Lib.hid hK
 clear hK
 refine Code.wp_mono (Norm.elim ?_) (N2 W2 AL A2 K cL n c2 (os.map fun o=>(o.first,oval o)) (RowN.of HNJ.out.row (by rw [List.length_map];exact HN.out)) (by rw [List.length_map];exact HN.out) (by omega) hn2)
 rintro a W3 ⟨e16,e110,e111,e112,e113,e114,e115,e116,e117,e118,e119,e120,e121,e122,e123,e124,e125,rfl,HR3,HC3⟩
 refine HK23.out _ _ ?_
 clear HK23
 have HM3:=Lib.hid (HNJ.out.mo.move HC3.out fun k hk=>HVB.out k hk)
 refine wp_seq_k (fun K27 hK=>?_)
 have HK27:=Lib.hid hK
 clear hK
 go_wp2
 refine HK27.out _ _ ?_
 clear HK27
 refine wp_seq_k (fun K28 hK=>?_)
 have HK28:=Lib.hid hK
 clear hK
 refine Code.wp_mono (Norm.elim ?_) (N3 W3 AL A2 K cL n c2 HR3.out (by omega) hn2)
 rintro a W4 ⟨B,d,e18,e127,e128,e129,e130,e131,e132,e133,e134,e135,e136,e137,e138,e139,e140,e141,rfl,HG⟩
 refine HK28.out _ _ ?_
 clear HK28
 have HM4:=Lib.hid (HM3.out.move HG.out.ch fun k hk=>HVB.out k hk)
 obtain ⟨il,hil,hl0,hl1,hl2⟩:=infoL
 go_wp2_with (at_builtin;refine wpList_app _ rfl _ _ 56 rfl 0 22 il (.slice none 0 0) 24 Try.underlying56 hil hl0 hl1 hl2 rfl (.slice AL K cL) los rfl ?q1 ⟨W4.heap.size,0,none⟩ 2 2 [.slice A2 n c2,.slice B (n+9) d] rfl rfl (by decide) ?q2 ?q3 ?q4 ?q5 ?q6 ?_)
 case q1=>exact HM4.out.ls.row.alloc _
 case q2=>exact new_at W4 [.slice A2 n c2,.slice B (n+9) d] 22
 case q3=>intro u hu;simp at hu;rcases hu with rfl|rfl <;> rfl
 case q4=>rw [HK.out];unfold maxLen;omega
 case q5=>rw [HK.out];omega
 case q6=>exact Nat.zero_le _
 intro v' W5 hA
 obtain ⟨AL2,cL2,hv,_⟩:=hA.row'.form
 have hlen:(los ++ [Value.slice A2 n c2,.slice B (n+9) d]).length=K+2:=by rw [List.length_append,HK.out];rfl
 rw [hlen] at hv
 subst hv
 have hB:∀ k,(Value.slice B (n+9) d).ownBlock=some k→w.heap.size≤k∧¬ Any F ok b vb ctb (.slice AL K cL) los k:=fun k hk=>by
  rcases HG.out.own k hk with e|e
  ·exact HVB.out k e
  ·refine ⟨by have:=HM3.out.ch.size;omega,fun e2=>by have:=HM3.out.lt k e2;omega⟩
 have hfin:=HM4.out.lapp hA (HK.out ▸ HG.out.old.to (mkp_length _ _)) (HK.out ▸ HG.out.row.to (mkp_length _ _)) (by omega) (by omega) (by rw [HK.out];exact hev) HVB.out hB
 have hvM:∀ k,(Value.slice A2 n c2).ownBlock=some k→M≤k:=fun k hk=>(HOS.out k (.inl hk)).1
 have hsz1:=HCA.out.size
 have hsz2:=HNJ.out.ch.size
 have hM0:=HWM.out.2
 have hch:Ch w0 W5 (fun k=>Any F ok b v ct (.slice AL K cL) los k∨M≤k):=by
  have e1:Ch w0 w1 (fun k=>Any F ok b v ct (.slice AL K cL) los k∨M≤k):=HCA.out.mono fun k hk=>hk.elim (fun e=>.inl (.inr (.inr (.inl e)))) fun e=>.inr (HN1.out k e)
  have e2:=e1.trans HNJ.out.ch fun k hk=>by
   rcases hk with e|⟨i,o,ho,e⟩
   ·rcases HFA.out k e with e|e|e
    ·exact .inl (.inl (.inr (.inr (.inl e))))
    ·exact .inl (.inr (HN1.out k e))
    ·exact .inr e
   ·exact .inl (.inr (HOS.out k (.inr ⟨o,List.mem_of_getElem? ho,e⟩)).1)
  have e3:=e2.trans HC3.out fun k hk=>.inl (.inr (hvM k hk))
  have e4:=e3.trans HG.out.ch fun k hk=>.inl (.inr (hvM k hk))
  exact (e4.alloc _).trans hA.ch fun k hk=>.inl (.inl (.inr (.inr (.inr (.inl hk)))))
 have hszB:=HC3.out.size
 have hszC:=HG.out.ch.size
 have hszD:W4.heap.size≤(W4.alloc (.cells #[.slice A2 n c2,.slice B (n+9) d] 22)).heap.size:=((Ch.refl W4 Never).alloc _).size
 have hsp:∀ k,Any F ok b vb ctb (.slice AL2 (K+2) cL2) (los ++ [.slice A2 n c2,.slice B (n+9) d]) k→Any F ok b v ct (.slice AL K cL) los k∨M≤k:=fun k hk=>by
  rcases hk with e|e|e|e
  ·exact .inl (.inl e)
  ·exact .inl (.inr (.inl e))
  ·rcases HNJ.out.ft k e with e|⟨i,o,hi,ho,e⟩|e
   ·rcases HFA.out k e with e|e|e
    ·exact .inl (.inr (.inr (.inl e)))
    ·exact .inr (HN1.out k e)
    ·right;omega
   ·exact .inr (HOS.out k (.inr ⟨o,List.mem_of_getElem? ho,e⟩)).1
   ·right;omega
  ·rcases e with e|⟨j,u,_,hu,hg⟩
   ·rcases hA.where_ with e2|⟨q,hq,e2⟩
    ·exact .inl (.inr (.inr (.inr (.inl (e2 ▸ e)))))
    ·rw [e2] at e
     obtain rfl:=Option.some.inj e
     right;omega
   ·by_cases hj:j<los.length
    ·rw [List.getElem?_append_left hj] at hu
     exact .inl (.inr (.inr (.inr (.inr ⟨j,u,Nat.zero_le _,hu,hg⟩))))
    ·rw [List.getElem?_append_right (by omega)] at hu
     have hm:=List.mem_of_getElem? hu
     simp only [List.mem_cons,List.not_mem_nil,or_false] at hm
     rcases hm with rfl|rfl
     ·exact .inr (hvM k hg)
     ·rcases HG.out.own k hg with e|e
      ·exact .inr (hvM k e)
      ·right;omega
 have HBD:=Lib.hid (show Bdp w w0 W5 M g b F ok P0 rl rs c t v ct (.slice AL K cL) los n cb tb vb ctb (.slice AL2 (K+2) cL2) (los ++ [.slice A2 n c2,.slice B (n+9) d]) from
  ⟨hfin,by rw [List.length_append];rfl,HNJ.out.b0,by have:=HNJ.out.b3;have:=HB3A.out;omega,HNJ.out.t0,by have:=HNJ.out.tm;omega,hch,hsp⟩)
 clear hA hlen hB hfin hch hvM hsp hszB hszC hszD
 go_wp2
 refine Norm.mk ?_
 exact ⟨AL2,cL2,_,_,_,_,_,_,_,_,_,_,_,_,_,_,_,_,_,_,_,_,_,_,_,_,_,_,_,_,_,_,_,_,_,_,_,_,_,_,_,_,_,_,_,_,_,_,_,_,_,_,_,_,_,_,_,_,_,_,_,_,_,_,_,_,_,_,_, rfl,Lib.hid ⟨_,_,_,_,_,HBD.out⟩⟩
end Go.Proofs.Ythmeojeehemlaaa.Bk
end
section
namespace Go.Proofs.Ythmeojeehemlaaa.Mem
open Go.RowKit Go.Proofs.YthmeojeehemlaaaW.PrintWords
open Go.Proofs.Ythmeojeehemlaaa.PM
structure S46 where
 wh:Int
 kd:Int
 x:Int
 m:Int
 v:Int
 dat:List Int
def k46:Kd S46:=Kd.iso (Kd.pair (Kd.int .i64) (Kd.pair (Kd.int .i64) (Kd.pair (Kd.int .u64) (Kd.pair (Kd.int .i64) (Kd.pair (Kd.int .u64) (Kd.slice 5 (Kd.int .u8))))))) (fun x:S46=>(x.wh,x.kd,x.x,x.m,x.v,x.dat))
theorem k46_open {w:World} {x:S46} {cs:List Value} (h:k46.K w x cs):∃ A1 c1,cs=[.int .i64 x.wh,.int .i64 x.kd,.int .u64 x.x,.int .i64 x.m,.int .u64 x.v,.slice A1 x.dat.length c1]∧x.dat.length≤c1∧(Kd.int .u8).C w A1 x.dat.length x.dat:=by
 obtain ⟨_,_,rfl,rfl,_,_,rfl,rfl,_,_,rfl,rfl,_,_,rfl,rfl,_,_,rfl,rfl,⟨A1,c1,rfl,l1,g1⟩⟩:=h
 exact ⟨A1,c1,rfl,l1,g1⟩
def z46:S46:=⟨0,0,0,0,0,[]⟩
theorem at46 {w:World} {A:Option Addr} {n:Nat} {xs:List S46} (h:Kd.C k46 w A n xs) (i:Nat) (hi:i<xs.length):∃ ad A1 c1,A=some ad ∧
  w.cell? (ad.add (i*6))=some (.int .i64 xs[i].wh)∧w.cell? ⟨(ad.add (i*6)).block,(ad.add (i*6)).off+1,none⟩=some (.int .i64 xs[i].kd)∧w.cell? ⟨(ad.add (i*6)).block,(ad.add (i*6)).off+2,none⟩=some (.int .u64 xs[i].x)∧w.cell? ⟨(ad.add (i*6)).block,(ad.add (i*6)).off+3,none⟩=some (.int .i64 xs[i].m)∧w.cell? ⟨(ad.add (i*6)).block,(ad.add (i*6)).off+4,none⟩=some (.int .u64 xs[i].v)∧w.cell? ⟨(ad.add (i*6)).block,(ad.add (i*6)).off+5,none⟩=some (.slice A1 xs[i].dat.length c1) ∧
  xs[i].dat.length≤c1∧(Kd.int .u8).C w A1 xs[i].dat.length xs[i].dat:=by
 have hn:=h.1
 obtain ⟨ad,c,e,_,hK,hc0⟩:=Kd.C_get h z46 (i:Int) (by omega) (by omega)
 rw [Int.toNat_natCast,List.getD_eq_getElem?_getD,List.getElem?_eq_getElem hi] at hK
 have hc:∀ j u,c[j]?=some u→w.cell? (ad.add (i*6+j))=some u:=by rw [Int.toNat_natCast] at hc0;exact hc0
 obtain ⟨A1,c1,rfl,l1,g1⟩:=k46_open hK
 refine ⟨ad,A1,c1,e,hc 0 _ rfl,?_,?_,?_,?_,?_,l1,g1⟩
 ·rw [← add_field _ _ 1 (by omega)];exact hc 1 _ rfl
 ·rw [← add_field _ _ 2 (by omega)];exact hc 2 _ rfl
 ·rw [← add_field _ _ 3 (by omega)];exact hc 3 _ rfl
 ·rw [← add_field _ _ 4 (by omega)];exact hc 4 _ rfl
 ·rw [← add_field _ _ 5 (by omega)];exact hc 5 _ rfl
def Fit46 (a:S46):Prop:=Small ⟨a.x,a.dat⟩∧(-9223372036854775808≤a.m∧a.m<9223372036854775808)∧0≤a.v∧a.v<18446744073709551616
theorem C_far {w:World} {A:Option Addr} {n:Nat} {l:List Int} (h:Kd.C (Kd.int .u8) w A n l) (hn:0<n) {ad:Addr} (e:A=some ad):ad.block<w.heap.size:=by
 obtain rfl:=h.1
 obtain ⟨b,off,e2,hcell⟩:=Lnd.Rd.of_C h hn
 rw [e] at e2;cases e2
 have h1:=World.block_lt_of_cell? w _ (hcell 0 hn)
 simpa using h1
end Go.Proofs.Ythmeojeehemlaaa.Mem
end
section
namespace Go.Proofs.Ythmeojeehemlaaa.Bk
open Go.RowKit Go.Proofs.YthmeojeehemlaaaW.PrintWords Go.Proofs.Ythmeojeehemlaaa.Mem Go.Proofs.Ythmeojeehemlaaa.Lnd Go.Proofs.Ythmeojeehemlaaa.PM
attribute [local go_sem] isSome_setCell
theorem below_of_ch {w w':World} (h:Ch w w' Never):Below w.heap.size w w':=⟨h.os,h.tape,h.output,h.size,fun i hi=>h.block i hi fun h=>h⟩
section
variable {w wr:World} {g b:Nat} {F ok:Nat→Prop} {P0:Option Addr} {rl:List S39} {rs:List Reg} {c t:Int} {v:Fin 5→Value} {ct:Fin 5→List Value} {L:Value} {los:List Value}
theorem any_split {F ok F' ok':Nat→Prop} {b:Nat} {v:Fin 5→Value} {ct:Fin 5→List Value} {L:Value} {los:List Value} {N:Nat} (h:∀ k,F' k∨ok' k→F k∨ok k∨N≤k):∀ k,Any F' ok' b v ct L los k→Any F ok b v ct L los k∨N≤k:=fun k hk=>by
 rcases hk with e|e|e|e
 ·rcases h k (.inl e) with e|e|e
  ·exact .inl (.inl e)
  ·exact .inl (.inr (.inl e))
  ·exact .inr e
 ·rcases h k (.inr e) with e|e|e
  ·exact .inl (.inl e)
  ·exact .inl (.inr (.inl e))
  ·exact .inr e
 ·exact .inl (.inr (.inr (.inl e)))
 ·exact .inl (.inr (.inr (.inr e)))
structure AD (w wr w1:World) (g b:Nat) (F ok F' ok':Nat→Prop) (P0:Option Addr) (rl rl':List S39) (rs':List Reg) (c t:Int) (v:Fin 5→Value) (ct:Fin 5→List Value) (L:Value) (los:List Value) (q M:Nat) (A1 A2:Option Addr) (c1 c2:Nat) (xs:List Int) (os:List Out):Prop where
 mo:Mo w w1 g b F' ok' P0 rl' rs' c t v ct L los
 hb:OwnB w1 M A1 c1 xs
 hr:OutsR w1 M (.slice A2 os.length c2) os
 one:Value.slice A1 xs.length c1=.slice none 0 0∨Value.slice A2 os.length c2=.slice none 0 0
 xl:xs.length≤1048576
 ol:os.length≤rl.length
 os_:∀ o∈os,o.data.length≤1048576
 lM:wr.heap.size≤M
 Ml:M≤w1.heap.size
 any:∀ k,Any F' ok' b v ct L los k→k<M
 rlen:rl'.length≤rl.length+q
 ch:Ch wr w1 F
 sp:∀ k,Any F' ok' b v ct L los k→Any F ok b v ct L los k∨wr.heap.size≤k
def ActD (w wr:World) (g b:Nat) (F ok:Nat→Prop) (P0:Option Addr) (rl:List S39) (c t:Int) (v:Fin 5→Value) (ct:Fin 5→List Value) (L:Value) (los:List Value) (q:Nat) (e:Ending) (w1:World):Prop:=
 ∃ F' ok' rl' rs' M A1 A2 c1 c2 xs os,e=.returned (.tuple #[.bool true,.slice A1 xs.length c1,.slice A2 os.length c2])∧AD w wr w1 g b F ok F' ok' P0 rl rl' rs' c t v ct L los q M A1 A2 c1 c2 xs os
theorem ActD.of {F' ok':Nat→Prop} {rl':List S39} {rs':List Reg} {w1:World} {v1 v2:Value} {q:Nat} (h:Mo w wr g b F ok P0 rl rs c t v ct L los) (hm:Mo w w1 g b F' ok' P0 rl' rs' c t v ct L los) (hh:Hands wr w1 rl.length F' ok' v1 v2) (hl:rl'.length≤rl.length+q) (hc:Ch wr w1 F) (hs:∀ k,F' k∨ok' k→F k∨ok k∨wr.heap.size≤k) :
  ActD w wr g b F ok P0 rl c t v ct L los q (.returned (.tuple #[.bool true,v1,v2])) w1:=by
 rcases hh.far with ⟨rfl,rfl⟩|hf
 ·exact ⟨F',ok',rl',rs',w1.heap.size,none,none,0,0,[],[],rfl,⟨hm,World.ownsRow_nil _ _ _ _,OutsR.nil _ _,.inl rfl,by simp,Nat.zero_le _,fun o h=>(nomatch h),hc.size,Nat.le_refl _,hm.lt,hl,hc,any_split hs⟩⟩
 ·obtain ⟨xs,A1,c1,rfl,hb1,hb2⟩:=hh.b
  obtain ⟨os,A2,c2,rfl,hr1,hr2,hr3⟩:=hh.r
  refine ⟨F',ok',rl',rs',wr.heap.size,A1,A2,c1,c2,xs,os,rfl,⟨hm,hb1,hr1,hh.one,hb2,hr2,hr3,Nat.le_refl _,hc.size,fun k hk=>?_,hl,hc,any_split hs⟩⟩
  rcases hk with e|e|e|e
  ·exact hf k (.inl e)
  ·exact hf k (.inr e)
  ·exact h.lt k (.inr (.inr (.inl e)))
  ·exact h.lt k (.inr (.inr (.inr e)))
theorem Mo.acts (h:Mo w wr g b F ok P0 rl rs c t v ct L los) (wh k x m vv:Int) (A:Option Addr) (n c0:Nat) (bs':List Int) (hC:Kd.C (Kd.int .u8) w A n bs') (hc:n≤c0) (hf:Fit46 ⟨wh,k,x,m,vv,bs'⟩) (hl:rl.length+1≤1048576) :
  Calls Try.prog 16 #[.pointer (some ⟨g,0,none⟩),.agg #[.int .i64 wh,.int .i64 k,.int .u64 x,.int .i64 m,.int .u64 vv,.slice A n c0]] wr (ActD w wr g b F ok P0 rl c t v ct L los 1):=by
 refine (act2_ wr F ok g P0 rl rs wh k x m vv A n c0 bs' h.desk (Kd.C_below hC (below_of_ch h.ch)) hc hf.1 (fun hp ad e hx=>by have:=C_far hC hp e;have:=h.dn _ (.inl hx);omega) (by omega) hf.2.1.1 hf.2.1.2 hf.2.2.1 hf.2.2.2).mono ?_
 rintro e w' ⟨v1,v2,F',ok',rl',rs',⟨rfl,hh⟩,q1,q2,q3,q4,q5⟩
 exact ActD.of h (h.act q1 q3 q4 q5) hh q2 (Ch.of_chg q3) fun k hk=>hk.elim (fun e=>(q4 k e).imp id fun e=>.inr e) fun e=>.inr (q5 k e)
theorem Mo.asks (h:Mo w wr g b F ok P0 rl rs c t v ct L los) (wh k x m vv:Int) (A:Option Addr) (n c0:Nat) (hk:k=5∨k=7) (hx0:0≤x) (hx1:x<18446744073709551616) (hm0:-9223372036854775808≤m) (hm1:m<9223372036854775808) (hl:rl.length+1≤1048576) :
  Calls Try.prog 16 #[.pointer (some ⟨g,0,none⟩),.agg #[.int .i64 wh,.int .i64 k,.int .u64 x,.int .i64 m,.int .u64 vv,.slice A n c0]] wr (ActD w wr g b F ok P0 rl c t v ct L los 0):=by
 refine (ask_ wr F ok g P0 rl rs wh k x m vv A n c0 h.desk hk hx0 hx1 hl hm0 hm1).mono ?_
 rintro e w' ⟨v1,v2,rfl,hh,hd,hb⟩
 have q3:Chg F wr w':=Chg.of_below hb (Nat.le_refl _)
 exact ActD.of h (h.act hd q3 (fun k hk=>.inl hk) (fun k hk=>.inl hk)) hh (by omega) (Ch.of_chg q3) fun k hk=>hk.elim (fun e=>.inl e) fun e=>.inr (.inl e)
end
structure Num (rl:List S39) (t:Int) (ct:Fin 5→List Value) (los:List Value) (nr a K:Nat):Prop where
 len:los.length=K
 ev:K % 2=0
 Ka:K≤2*a
 rlen:rl.length≤nr
 b0:(ct 0).length≤2
 b3:(ct 3).length≤9000018*a
 t0:0≤t
 tm:t≤600000000000
end Go.Proofs.Ythmeojeehemlaaa.Bk
end
section
namespace Go.Proofs.Ythmeojeehemlaaa.Bk
open Go.RowKit Go.Proofs.YthmeojeehemlaaaW.PrintWords Go.Proofs.Ythmeojeehemlaaa.Mem Go.Proofs.Ythmeojeehemlaaa.Lnd Go.Proofs.Ythmeojeehemlaaa.PM
attribute [local go_sem] isSome_setCell
def bodyC (b:Code):Code:=inner (left (right (inner (inner (right (left (postC 6 b)))))))
theorem Row.list22 {w:World} {v:Value} {ls:List Value} (h:Row w 22 v ls) {j:Nat} {u:Value} (hu:ls[j]?=some u):∃ g cap,v=.slice (some ⟨g,0,none⟩) ls.length cap∧ls.length≤cap∧w.cell? ⟨g,j,none⟩=some u:=by
 have hk:j<ls.length:=(List.getElem?_eq_some_iff.1 hu).1
 obtain ⟨g,cap,hv,hl,_,hc⟩:=h.at (by omega)
 refine ⟨g,cap,hv,hl,?_⟩
 rw [(hc j hk).1,(List.getElem?_eq_some_iff.1 hu).2]
theorem Row2.form {w:World} {v:Value} {ps:List (Int × Value)} (h:Row2 w v ps):∃ A cap,v=.slice A ps.length cap∧ps.length≤cap:=by
 rcases h.2 with ⟨rfl,h0⟩|⟨g,cap,cur,hv,hb,hg,hn,hc,hs,ht⟩
 ·exact ⟨none,0,by rw [h0],by omega⟩
 ·exact ⟨_,cap,hv,hn⟩
theorem C0 (w0:World) (gl K cL k n cU:Nat) (AU:Option Addr) (l0:w0.cell? ⟨gl,k,none⟩=some (.slice AU n cU)) (hk:k<K) (hKc:K≤cL) (hU:Row2 w0 (.slice AU n cU) (mkp (k / 2*2) n)) (hnc:n≤cU) (hn:n≤1048600) (hK:K≤8388608) {y0 y1 y2 y3 y4 y5 y6 y7 y9 y10 y11 y12 y13 y14 y15 y16 y17 y18 y20 y21 y22 y23 y24 y25 y26 y27 y28 y29 y30 y31 y32 y33 y34 y35 y36 y37 y38 y39 y40 y41 y42 y43 y44 y45 y46 y47 y48 y49 y50 y51 y52 y53 y54 y55 y56 y57 y58 y59 y60 y61 y62 y63 y64 y65 y66 y67 y68 y69 y70 y71 y72 y73 y74 y75 y76 y77 y78 y79 y80 y81 y82 y83 y84 y85 y86 y87 y88 y89 y90 y91 y92 y93 y94 y95 y96 y97 y98 y99 y100 y101 y102 y103 y104 y105 y106 y107 y108 y109 y110 y111 y112 y113 y114 y115 y116 y117 y118 y119 y120 y121 y122 y123 y124 y125 y126 y127 y128 y129 y130 y131 y132 y133 y134 y135 y136 y137 y138 y139 y140 y141 y142 y143 y144 y145 y146 y147 y148 y149 y150 y151 y152 y153 y154 y155 y156 y157 y158 y159 y160 y161 y162 y163 y164 y165 y166 y167 y168 y169 y170 y171 y172 y173 y174 y175 y176 y177 y178 y179 y180 y181 y182 y183 y184 y185 y186 y187 y188 y189 y190 y191 y192 y193 y194 y195 y196 y197 y198 y199 y200 y201 y202 y203 y204 y205 y206 y207 y208 y209 y210 y211 y212 y213 y214 y215 y216 y217:Value} :
  Code.wp Try.prog (bodyC (Try.f6.body.getD .skip)) (Norm fun a W=>∃ (e4 e20 e161 e162 e163 e164 e165 e166 e167 e168 e169 e170 e171 e172 e173 e174 e175 e176 e177 e178 e179 e180 e181 e182 e183 e184 e185 e186 e187 e188 e189 e190 e191 e192 e193 e194 e195 e196 e197:Value),a={ tmps:=#[y0,y1,y2,y3,e4,y5,y6,y7,(.slice (some ⟨gl,0,none⟩) K cL),y9,y10,y11,y12,y13,y14,y15,y16,y17,y18,(.int .i64 (k:Int)),e20,y21,y22,y23,y24,y25,y26,y27,y28,y29,y30,y31,y32,y33,y34,y35,y36,y37,y38,y39,y40,y41,y42,y43,y44,y45,y46,y47,y48,y49,y50,y51,y52,y53,y54,y55,y56,y57,y58,y59,y60,y61,y62,y63,y64,y65,y66,y67,y68,y69,y70,y71,y72,y73,y74,y75,y76,y77,y78,y79,y80,y81,y82,y83,y84,y85,y86,y87,y88,y89,y90,y91,y92,y93,y94,y95,y96,y97,y98,y99,y100,y101,y102,y103,y104,y105,y106,y107,y108,y109,y110,y111,y112,y113,y114,y115,y116,y117,y118,y119,y120,y121,y122,y123,y124,y125,y126,y127,y128,y129,y130,y131,y132,y133,y134,y135,y136,y137,y138,y139,y140,y141,y142,y143,y144,y145,y146,y147,y148,y149,y150,y151,y152,y153,y154,y155,y156,y157,y158,y159,y160,e161,e162,e163,e164,e165,e166,e167,e168,e169,e170,e171,e172,e173,e174,e175,e176,e177,e178,e179,e180,e181,e182,e183,e184,e185,e186,e187,e188,e189,e190,e191,e192,e193,e194,e195,e196,e197,y198,y199,y200,y201,y202,y203,y204,y205,y206,y207,y208,y209,y210,y211,y212,y213,y214,y215,y216,y217],defers:=[] }∧W=w0) { tmps:=#[y0,y1,y2,y3,y4,y5,y6,y7,(.slice (some ⟨gl,0,none⟩) K cL),y9,y10,y11,y12,y13,y14,y15,y16,y17,y18,(.int .i64 (k:Int)),y20,y21,y22,y23,y24,y25,y26,y27,y28,y29,y30,y31,y32,y33,y34,y35,y36,y37,y38,y39,y40,y41,y42,y43,y44,y45,y46,y47,y48,y49,y50,y51,y52,y53,y54,y55,y56,y57,y58,y59,y60,y61,y62,y63,y64,y65,y66,y67,y68,y69,y70,y71,y72,y73,y74,y75,y76,y77,y78,y79,y80,y81,y82,y83,y84,y85,y86,y87,y88,y89,y90,y91,y92,y93,y94,y95,y96,y97,y98,y99,y100,y101,y102,y103,y104,y105,y106,y107,y108,y109,y110,y111,y112,y113,y114,y115,y116,y117,y118,y119,y120,y121,y122,y123,y124,y125,y126,y127,y128,y129,y130,y131,y132,y133,y134,y135,y136,y137,y138,y139,y140,y141,y142,y143,y144,y145,y146,y147,y148,y149,y150,y151,y152,y153,y154,y155,y156,y157,y158,y159,y160,y161,y162,y163,y164,y165,y166,y167,y168,y169,y170,y171,y172,y173,y174,y175,y176,y177,y178,y179,y180,y181,y182,y183,y184,y185,y186,y187,y188,y189,y190,y191,y192,y193,y194,y195,y196,y197,y198,y199,y200,y201,y202,y203,y204,y205,y206,y207,y208,y209,y210,y211,y212,y213,y214,y215,y216,y217],defers:=[] } w0:=by
 have HU:=Lib.hid hU
 clear hU
 unfold Try.f6
 dsimp only [Option.getD,postC,bodyC,left,right,inner]
 go_wp2
 go_loopw [20] (fun i wr=>∃ (j:Nat),j≤n∧i=.int .i64 (j:Int)∧wr=w0) (fun i _=>n - (RowKit.intOf i).toNat)
 case atStart=>exact ⟨0,Nat.zero_le _,rfl,rfl⟩
 case round =>
  obtain ⟨j,hj,rfl,rfl⟩:=hrel
  by_cases hlt:j<n
  ·obtain ⟨ga,ca,hva,hca,a0,a1,f0,f1⟩:=Row2.at HU.out (mkp_at (k / 2*2) n j hlt)
   rw [mkp_length] at hva hca
   injection hva with v1 v2 v3
   subst v1;subst v3
   clear v2
   go_wp2
   go_roundw
   case rel=>exact ⟨j+1,by omega,by go_num,trivial⟩
   case measure=>simp [RowKit.intOf];omega
  ·obtain rfl:j=n:=by omega
   go_wp2
   refine Norm.mk ?_
   exact ⟨_,_,_,_,_,_,_,_,_,_,_,_,_,_,_,_,_,_,_,_,_,_,_,_,_,_,_,_,_,_,_,_,_,_,_,_,_,_,_, rfl,rfl⟩
theorem C1 (w0:World) (K cL:Nat) (AL:Option Addr) (los:List Value) (hL:Ls w0 (.slice AL K cL) los) (hl:los.length=K) (hK:K≤8388608) {y0 y1 y2 y3 y4 y5 y6 y7 y9 y10 y11 y12 y13 y14 y15 y16 y17 y18 y19 y20 y21 y22 y23 y24 y25 y26 y27 y28 y29 y30 y31 y32 y33 y34 y35 y36 y37 y38 y39 y40 y41 y42 y43 y44 y45 y46 y47 y48 y49 y50 y51 y52 y53 y54 y55 y56 y57 y58 y59 y60 y61 y62 y63 y64 y65 y66 y67 y68 y69 y70 y71 y72 y73 y74 y75 y76 y77 y78 y79 y80 y81 y82 y83 y84 y85 y86 y87 y88 y89 y90 y91 y92 y93 y94 y95 y96 y97 y98 y99 y100 y101 y102 y103 y104 y105 y106 y107 y108 y109 y110 y111 y112 y113 y114 y115 y116 y117 y118 y119 y120 y121 y122 y123 y124 y125 y126 y127 y128 y129 y130 y131 y132 y133 y134 y135 y136 y137 y138 y139 y140 y141 y142 y143 y144 y145 y146 y147 y148 y149 y150 y151 y152 y153 y154 y155 y156 y157 y158 y159 y160 y161 y162 y163 y164 y165 y166 y167 y168 y169 y170 y171 y172 y173 y174 y175 y176 y177 y178 y179 y180 y181 y182 y183 y184 y185 y186 y187 y188 y189 y190 y191 y192 y193 y194 y195 y196 y197 y198 y199 y200 y201 y202 y203 y204 y205 y206 y207 y208 y209 y210 y211 y212 y213 y214 y215 y216 y217:Value} :
  Code.wp Try.prog (left (postC 6 (Try.f6.body.getD .skip))) (Norm fun a W=>∃ (e4 e19 e20 e155 e156 e157 e158 e159 e160 e161 e162 e163 e164 e165 e166 e167 e168 e169 e170 e171 e172 e173 e174 e175 e176 e177 e178 e179 e180 e181 e182 e183 e184 e185 e186 e187 e188 e189 e190 e191 e192 e193 e194 e195 e196 e197:Value),a={ tmps:=#[y0,y1,y2,y3,e4,y5,y6,y7,(.slice AL K cL),y9,y10,y11,y12,y13,y14,y15,y16,y17,y18,e19,e20,y21,y22,y23,y24,y25,y26,y27,y28,y29,y30,y31,y32,y33,y34,y35,y36,y37,y38,y39,y40,y41,y42,y43,y44,y45,y46,y47,y48,y49,y50,y51,y52,y53,y54,y55,y56,y57,y58,y59,y60,y61,y62,y63,y64,y65,y66,y67,y68,y69,y70,y71,y72,y73,y74,y75,y76,y77,y78,y79,y80,y81,y82,y83,y84,y85,y86,y87,y88,y89,y90,y91,y92,y93,y94,y95,y96,y97,y98,y99,y100,y101,y102,y103,y104,y105,y106,y107,y108,y109,y110,y111,y112,y113,y114,y115,y116,y117,y118,y119,y120,y121,y122,y123,y124,y125,y126,y127,y128,y129,y130,y131,y132,y133,y134,y135,y136,y137,y138,y139,y140,y141,y142,y143,y144,y145,y146,y147,y148,y149,y150,y151,y152,y153,y154,e155,e156,e157,e158,e159,e160,e161,e162,e163,e164,e165,e166,e167,e168,e169,e170,e171,e172,e173,e174,e175,e176,e177,e178,e179,e180,e181,e182,e183,e184,e185,e186,e187,e188,e189,e190,e191,e192,e193,e194,e195,e196,e197,y198,y199,y200,y201,y202,y203,y204,y205,y206,y207,y208,y209,y210,y211,y212,y213,y214,y215,y216,y217],defers:=[] }∧W=w0) { tmps:=#[y0,y1,y2,y3,y4,y5,y6,y7,(.slice AL K cL),y9,y10,y11,y12,y13,y14,y15,y16,y17,y18,y19,y20,y21,y22,y23,y24,y25,y26,y27,y28,y29,y30,y31,y32,y33,y34,y35,y36,y37,y38,y39,y40,y41,y42,y43,y44,y45,y46,y47,y48,y49,y50,y51,y52,y53,y54,y55,y56,y57,y58,y59,y60,y61,y62,y63,y64,y65,y66,y67,y68,y69,y70,y71,y72,y73,y74,y75,y76,y77,y78,y79,y80,y81,y82,y83,y84,y85,y86,y87,y88,y89,y90,y91,y92,y93,y94,y95,y96,y97,y98,y99,y100,y101,y102,y103,y104,y105,y106,y107,y108,y109,y110,y111,y112,y113,y114,y115,y116,y117,y118,y119,y120,y121,y122,y123,y124,y125,y126,y127,y128,y129,y130,y131,y132,y133,y134,y135,y136,y137,y138,y139,y140,y141,y142,y143,y144,y145,y146,y147,y148,y149,y150,y151,y152,y153,y154,y155,y156,y157,y158,y159,y160,y161,y162,y163,y164,y165,y166,y167,y168,y169,y170,y171,y172,y173,y174,y175,y176,y177,y178,y179,y180,y181,y182,y183,y184,y185,y186,y187,y188,y189,y190,y191,y192,y193,y194,y195,y196,y197,y198,y199,y200,y201,y202,y203,y204,y205,y206,y207,y208,y209,y210,y211,y212,y213,y214,y215,y216,y217],defers:=[] } w0:=by
 have HL:=Lib.hid hL
 have HK:=Lib.hid hl
 clear hL hl
 unfold Try.f6
 dsimp only [Option.getD,postC,left]
 go_wp2
 go_loopw [19] (fun i wr=>∃ (k:Nat),k≤K∧i=.int .i64 (k:Int)∧wr=w0) (fun i _=>K - (RowKit.intOf i).toNat)
 case atStart=>exact ⟨0,Nat.zero_le _,rfl,rfl⟩
 case round =>
  obtain ⟨k,hk,rfl,rfl⟩:=hrel
  by_cases hlt:k<K
  ·have hl0:k<los.length:=by rw [HK.out];exact hlt
   have HU:=Lib.hid (List.getElem?_eq_getElem hl0)
   obtain ⟨gl,cL',hv,hc,l0⟩:=Row.list22 HL.out.row HU.out
   rw [HK.out] at hv hc
   injection hv with v1 v2 v3
   subst v1;subst v3
   clear v2
   obtain ⟨n,hr,hn⟩:=HL.out.el k _ HU.out
   obtain ⟨AU,cU,hf,hcU⟩:=hr.form
   rw [mkp_length] at hf hcU
   rw [hf] at l0 hr
   have HR:=Lib.hid hr
   clear hr hf HU
   refine wp_seq_k (fun Kb hK2=>?_)
   have HKb:=Lib.hid hK2
   clear hK2
   go_wp2
   refine HKb.out _ _ ?_
   clear HKb
   refine wp_seq_k (fun Kb hK2=>?_)
   have HKb:=Lib.hid hK2
   clear hK2
   refine wp_block ?_
   refine Code.wp_mono (Norm.elim ?_) (C0 wr gl K cL k n cU AU l0 hlt hc HR.out hcU hn hK)
   rintro a W ⟨e4,e20,e161,e162,e163,e164,e165,e166,e167,e168,e169,e170,e171,e172,e173,e174,e175,e176,e177,e178,e179,e180,e181,e182,e183,e184,e185,e186,e187,e188,e189,e190,e191,e192,e193,e194,e195,e196,e197,rfl,rfl⟩
   refine HKb.out _ _ ?_
   clear HKb
   go_wp2
   go_roundw
   case rel=>exact ⟨k+1,by omega,by go_num,trivial⟩
   case measure=>simp [RowKit.intOf];omega
  ·obtain rfl:k=K:=by omega
   go_wp2
   refine Norm.mk ?_
   exact ⟨_,_,_,_,_,_,_,_,_,_,_,_,_,_,_,_,_,_,_,_,_,_,_,_,_,_,_,_,_,_,_,_,_,_,_,_,_,_,_,_,_,_,_,_,_,_, rfl,rfl⟩
end Go.Proofs.Ythmeojeehemlaaa.Bk
end
