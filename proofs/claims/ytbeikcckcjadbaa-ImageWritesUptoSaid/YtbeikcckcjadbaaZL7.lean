/- Parts of the proof, laid together by a program of this session (pack.py): Ln1, Ln2, Ln3, Ln4, Ln5, Ln6, Ln7, Ln8, Ln9, Ln10. -/
import Derived.Test.YtbeikcckcjadbaaZL6
import Derived.Lib.Hide
import Derived.Laws.MakeOwn
import Derived.Laws.OwnMore
import Derived.Laws.IdiomCopy
import Derived.KernelRfl
import Derived.IntWalk
import Derived.Deep.QuietTactic
import Derived.BigQuiet
import Derived.RegionTactic
import Derived.WalkKit
import Derived.OwnWalk
import Derived.Deep.LoopGhost
import Derived.Deep.RegionWith
import Derived.BigRegion
import Derived.StillTailTactics
set_option linter.unusedVariables false
set_option linter.unusedSimpArgs false
set_option maxRecDepth 100000
set_option maxHeartbeats 16000000
section
namespace Go.Proofs.Ytbeikcckcjadbaa.Ln
open Go.RowKit Go.Proofs.YtbeikcckcjadbaaW.PrintWords Go.Proofs.Ytbeikcckcjadbaa.PI
def Blk (w:World) (g:Nat) (t:TypeId) (cs:Array Value):Prop:=w.heap[g]?=some (.cells cs t (0,0))
section
variable {w w':World} {g:Nat} {t:TypeId} {cs:Array Value}
theorem Blk.lt (h:Blk w g t cs):g<w.heap.size:=blk_lt h
theorem Blk.cell (h:Blk w g t cs) (i:Nat):w.cell? ⟨g,i,none⟩=cs[i]?:=bkC h i
theorem Blk.frozen (h:Blk w g t cs) (i:Nat):w.frozen? ⟨g,i,none⟩=false:=bkF h i
theorem Blk.set_ (h:Blk w g t cs) (i:Nat) (u:Value):Blk (w.setCell ⟨g,i,none⟩ u) g t (cs.setIfInBounds i u):=blk_set h i u
theorem Blk.far (h:Blk w g t cs) {p:Addr} (hp:p.block≠g) (u:Value):Blk (w.setCell p u) g t cs:=bkR h (Ne.symm hp) u
theorem Blk.drew (h:Blk w g t cs):Blk w.drew g t cs:=h
theorem Blk.drewN (h:Blk w g t cs) (n:Nat):Blk (w.drewN n) g t cs:=h
theorem Blk.alloc (h:Blk w g t cs) (o:Obj):Blk (w.alloc o) g t cs:=bkA h o
theorem Blk.new (w:World) (t:TypeId) (cs:Array Value):Blk (w.alloc (.cells cs t)) w.heap.size t cs:=blk_new w _
theorem Blk.below (h:Blk w g t cs) (hb:Below w.heap.size w w'):Blk w' g t cs:=bkB h hb
end
structure Ch (w w':World) (S:Nat→Prop):Prop where
 os:w'.os=w.os
 tape:w'.tape=w.tape
 output:w'.output=w.output
 size:w.heap.size≤w'.heap.size
 block:∀ i,i<w.heap.size→¬ S i→w'.heap[i]?=w.heap[i]?
section
variable {w w' w2:World} {S S2:Nat→Prop}
theorem Ch.refl (w:World) (S:Nat→Prop):Ch w w S:=⟨rfl,rfl,rfl,Nat.le_refl _,fun _ _ _=>rfl⟩
theorem Ch.set_ (h:Ch w w' S) (p:Addr) (u:Value) (hp:S p.block∨w.heap.size≤p.block):Ch w (w'.setCell p u) S:=by
 refine ⟨h.os,h.tape,h.output,by simpa [World.setCell] using h.size,fun i hi h1=>?_⟩
 rw [← h.block i hi h1]
 have:p.block≠i:=by
  rcases hp with e|e
  ·intro e2;exact h1 (e2 ▸ e)
  ·omega
 simp [World.setCell,Array.getElem?_modify,this]
theorem Ch.drew (h:Ch w w' S):Ch w w'.drew S:=⟨h.os,h.tape,h.output,h.size,h.block⟩
theorem Ch.drewN (h:Ch w w' S) (n:Nat):Ch w (w'.drewN n) S:=⟨h.os,h.tape,h.output,h.size,h.block⟩
theorem Ch.alloc (h:Ch w w' S) (o:Obj):Ch w (w'.alloc o) S:=by
 refine ⟨h.os,h.tape,h.output,by rw [World.size_alloc];have:=h.size;omega,fun i hi h1=>?_⟩
 rw [← h.block i hi h1]
 simp only [World.alloc,Array.getElem?_push]
 rw [if_neg (by have:=h.size;omega)]
theorem Ch.trans (h:Ch w w' S) (k:Ch w' w2 S2) (hs:∀ i,i<w.heap.size→S2 i→S i):Ch w w2 S:=
 ⟨k.os.trans h.os,k.tape.trans h.tape,k.output.trans h.output,Nat.le_trans h.size k.size,fun i hi h1=>(k.block i (Nat.lt_of_lt_of_le hi h.size) (fun e=>h1 (hs i hi e))).trans (h.block i hi h1)⟩
theorem Ch.mono (h:Ch w w' S) (hs:∀ i,S i→S2 i):Ch w w' S2:=⟨h.os,h.tape,h.output,h.size,fun i hi h1=>h.block i hi fun e=>h1 (hs i e)⟩
theorem Ch.below (hb:Below w.heap.size w w') (S:Nat→Prop):Ch w w' S:=⟨hb.os,hb.tape,hb.output,hb.size,fun i hi _=>hb.block i hi⟩
theorem Ch.blk (h:Ch w w' S) {g:Nat} {t:TypeId} {cs:Array Value} (hb:Blk w g t cs) (hg:¬ S g):Blk w' g t cs:=(h.block g hb.lt hg).trans hb
theorem Ch.cell (h:Ch w w' S) {p:Addr} {v:Value} (hc:w.cell? p=some v) (h1:¬ S p.block):w'.cell? p=some v:=by
 have hl:=World.block_lt_of_cell? w p hc
 have:=h.block p.block hl h1
 simpa [World.cell?,this] using hc
end
def Far (A:Option Addr) (n:Nat) (S:Nat→Prop):Prop:=0<n→∀ ad,A=some ad→¬ S ad.block
theorem add_zero_block (g q:Nat):(⟨g,0,none⟩:Addr).add q=⟨g,q,none⟩:=by unfold Addr.add;split <;> simp_all
theorem add_blk (ad:Addr) (q:Nat):(ad.add q).block=ad.block:=by unfold Addr.add;split <;> rfl
theorem run_copy_sized {P:Program} (w:World) (dT sT ty elem:TypeId) (b o dLen dCap s n:Nat) (a:Addr) (sLen sCap:Nat) (cs:List Value)
  (hu:P.underlying dT=some (.slice elem)) (hs:(P.info? elem).map (·.size)=some s) (hn:n=Nat.min sLen dLen) (hcs:cs.length=n*s)
  (hsrc:∀ j v,cs[j]?=some v→w.cell? (a.add j)=some v) (hc:∀ j,j<cs.length→(w.cell? ⟨b,o+j,none⟩).isSome=true) (hf:∀ j,j<cs.length→w.frozen? ⟨b,o+j,none⟩=false) (h1:∀ v∈cs,v.oneCell'=true) :
  (Builtin.copy_ #[dT,sT] ty #[.slice (some ⟨b,o,none⟩) dLen dCap,.slice (some a) sLen sCap]).run P w=.ok (goInt n) (w.setCells b o cs):=by
 have hl:=run_loadCells_list (P:=P) w a cs hsrc
 have hst:=run_storeCells_cells (P:=P) b o cs 0 w (by simpa using hc) (by simpa using hf) h1
 rw [hcs] at hl
 cases hq:P.info? elem with
 | none=>simp [hq] at hs
 | some i =>
  have hi:i.size=s:=by simpa [hq] using hs
  simp [Builtin.copy_,run_underlying hu,Builtin.lenOf,Builtin.firstCells,sizeOf,typeInfo,hq,hi,← hn,hl,hst]
def flat54:List S54→List Value
 | []=>[]
 | x :: r=>.int .i64 x.f0 :: .int .i64 x.f1 :: .int .i64 x.f2 :: .int .i64 x.f3 :: .int .i64 x.f4 :: flat54 r
theorem flat54_length:∀ xs:List S54,(flat54 xs).length=5*xs.length
 | []=>rfl
 | x :: r=>by simp only [flat54,List.length_cons,flat54_length r];omega
theorem flat54_append:∀ xs ys:List S54,flat54 (xs ++ ys)=flat54 xs ++ flat54 ys
 | [],_=>rfl
 | x :: r,ys=>by simp only [List.cons_append,flat54,flat54_append r ys]
theorem flat54_at:∀ (xs:List S54) (i:Nat) (h:i<xs.length),(flat54 xs)[5*i]?=some (.int .i64 xs[i].f0)∧(flat54 xs)[5*i+1]?=some (.int .i64 xs[i].f1)∧(flat54 xs)[5*i+2]?=some (.int .i64 xs[i].f2)∧(flat54 xs)[5*i+3]?=some (.int .i64 xs[i].f3)∧(flat54 xs)[5*i+4]?=some (.int .i64 xs[i].f4)
 | x :: r,0,_=>⟨rfl,rfl,rfl,rfl,rfl⟩
 | x :: r,i+1,h=>by
  have ih:=flat54_at r i (by simpa using h)
  rw [show 5*(i+1)=5*i+1+1+1+1+1 from by omega]
  simp only [flat54,List.getElem?_cons_succ,List.getElem_cons_succ]
  exact ih
theorem flat54_set:∀ (xs:List S54) (i:Nat) (y:S54),((((((flat54 xs).set (5*i) (.int .i64 y.f0)).set (5*i+1) (.int .i64 y.f1)).set (5*i+2) (.int .i64 y.f2)).set (5*i+3) (.int .i64 y.f3)).set (5*i+4) (.int .i64 y.f4))=flat54 (xs.set i y)
 | [],i,y=>by simp [flat54]
 | x :: r,0,y=>rfl
 | x :: r,i+1,y=>by
  have ih:=flat54_set r i y
  rw [show 5*(i+1)=5*i+1+1+1+1+1 from by omega]
  simp only [flat54,List.set_cons_succ]
  rw [ih]
theorem flat54_drop:∀ (xs:List S54) (n:Nat),(flat54 xs).drop (5*n)=flat54 (xs.drop n)
 | [],n=>by simp [flat54]
 | x :: r,0=>rfl
 | x :: r,n+1=>by
  rw [show 5*(n+1)=5*n+1+1+1+1+1 from by omega]
  simp only [flat54,List.drop_succ_cons,flat54_drop r n]
theorem flat54_one:∀ (rs:List S54) (v:Value),v∈flat54 rs→v.oneCell'=true
 | [],v,h=>by cases h
 | x :: r,v,h=>by
  simp only [flat54,List.mem_cons] at h
  rcases h with rfl|rfl|rfl|rfl|rfl|h
  ·rfl
  ·rfl
  ·rfl
  ·rfl
  ·rfl
  ·exact flat54_one r v h
def rows54 (xs:List S54):Array Value:=(flat54 xs).toArray
theorem Blk.at54 {w:World} {g:Nat} {xs:List S54} (h:Blk w g 54 (rows54 xs)) (i:Nat) (hi:i<xs.length):w.cell? ⟨g,i*5,none⟩=some (.int .i64 xs[i].f0)∧w.cell? ⟨g,i*5+1,none⟩=some (.int .i64 xs[i].f1)∧w.cell? ⟨g,i*5+2,none⟩=some (.int .i64 xs[i].f2)∧w.cell? ⟨g,i*5+3,none⟩=some (.int .i64 xs[i].f3)∧w.cell? ⟨g,i*5+4,none⟩=some (.int .i64 xs[i].f4):=by
 have:=flat54_at xs i hi
 refine ⟨by rw [h.cell,Nat.mul_comm];simpa [rows54] using this.1,by rw [h.cell,Nat.mul_comm];simpa [rows54] using this.2.1,by rw [h.cell,Nat.mul_comm];simpa [rows54] using this.2.2.1,by rw [h.cell,Nat.mul_comm];simpa [rows54] using this.2.2.2.1,by rw [h.cell,Nat.mul_comm];simpa [rows54] using this.2.2.2.2⟩
theorem Blk.put54 {w:World} {g:Nat} {xs:List S54} (h:Blk w g 54 (rows54 xs)) (i:Nat) (y:S54):Blk (((((w.setCell ⟨g,i*5,none⟩ (.int .i64 y.f0)).setCell ⟨g,i*5+1,none⟩ (.int .i64 y.f1)).setCell ⟨g,i*5+2,none⟩ (.int .i64 y.f2)).setCell ⟨g,i*5+3,none⟩ (.int .i64 y.f3)).setCell ⟨g,i*5+4,none⟩ (.int .i64 y.f4)) g 54 (rows54 (xs.set i y)):=by
 rw [Nat.mul_comm]
 have:=(((((h.set_ (5*i) (.int .i64 y.f0)).set_ (5*i+1) (.int .i64 y.f1)).set_ (5*i+2) (.int .i64 y.f2)).set_ (5*i+3) (.int .i64 y.f3)).set_ (5*i+4) (.int .i64 y.f4))
 unfold rows54 at this ⊢
 rw [List.setIfInBounds_toArray,List.setIfInBounds_toArray,List.setIfInBounds_toArray,List.setIfInBounds_toArray,List.setIfInBounds_toArray,flat54_set] at this
 exact this
theorem C_rows54 {w:World} {gb:Nat} {ys:List S54} (h:Blk w gb 54 (rows54 ys)) (m:Nat) (hm:m≤ys.length) (hl:ys.length≤9223372036854775807):Kd.C k54 w (some ⟨gb,0,none⟩) (ys.take m).length (ys.take m):=by
 refine ⟨rfl,by simp;omega,fun _=>⟨_,rfl,fun j p hj=>⟨[.int .i64 p.f0,.int .i64 p.f1,.int .i64 p.f2,.int .i64 p.f3,.int .i64 p.f4],rfl,k54_mk w p,fun i u hu=>?_⟩⟩⟩
 have hj':j<(ys.take m).length:=(List.getElem?_eq_some_iff.1 hj).1
 have hjy:j<ys.length:=by simp at hj';omega
 have hp:ys[j]=p:=by
  have:=(List.getElem?_eq_some_iff.1 hj).2
  rw [List.getElem_take] at this
  exact this
 show w.cell? ((⟨gb,0,none⟩:Addr).add (j*5+i))=some u
 rw [add_zero_block]
 match i,hu with
 | 0,hu=>cases hu;rw [← hp];exact (h.at54 j hjy).1
 | 1,hu=>cases hu;rw [← hp];exact (h.at54 j hjy).2.1
 | 2,hu=>cases hu;rw [← hp];exact (h.at54 j hjy).2.2.1
 | 3,hu=>cases hu;rw [← hp];exact (h.at54 j hjy).2.2.2.1
 | 4,hu=>cases hu;rw [← hp];exact (h.at54 j hjy).2.2.2.2
theorem C_flat54 {w:World} {ad:Addr} {n:Nat} {rs:List S54} (hp:0<n) (h:Kd.C k54 w (some ad) n rs) (j:Nat) (v:Value) (hj:(flat54 rs)[j]?=some v):w.cell? (ad.add j)=some v:=by
 obtain ⟨ad',e,hc⟩:=h.2.2 hp
 cases e
 have hl:j<5*rs.length:=by rw [← flat54_length];exact (List.getElem?_eq_some_iff.1 hj).1
 have hq:j / 5<rs.length:=by omega
 obtain ⟨c,hs,hr,hcell⟩:=hc (j / 5) _ (List.getElem?_eq_getElem hq)
 obtain rfl:=k54_open hr
 have hcell':∀ i u,[Value.int .i64 rs[j / 5].f0,Value.int .i64 rs[j / 5].f1,Value.int .i64 rs[j / 5].f2,Value.int .i64 rs[j / 5].f3,Value.int .i64 rs[j / 5].f4][i]?=some u→w.cell? (ad.add (j / 5*5+i))=some u:=hcell
 obtain ⟨z0,z1,z2,z3,z4⟩:=flat54_at rs (j / 5) hq
 have hm:j % 5=0∨j % 5=1∨j % 5=2∨j % 5=3∨j % 5=4:=by omega
 rcases hm with hm|hm|hm|hm|hm
 ·rw [show j=5*(j / 5) from by omega,z0] at hj
  have:=hcell' 0 _ rfl
  rw [show j / 5*5+0=j from by omega] at this
  rw [this];exact hj
 ·rw [show j=5*(j / 5)+1 from by omega,z1] at hj
  have:=hcell' 1 _ rfl
  rw [show j / 5*5+1=j from by omega] at this
  rw [this];exact hj
 ·rw [show j=5*(j / 5)+2 from by omega,z2] at hj
  have:=hcell' 2 _ rfl
  rw [show j / 5*5+2=j from by omega] at this
  rw [this];exact hj
 ·rw [show j=5*(j / 5)+3 from by omega,z3] at hj
  have:=hcell' 3 _ rfl
  rw [show j / 5*5+3=j from by omega] at this
  rw [this];exact hj
 ·rw [show j=5*(j / 5)+4 from by omega,z4] at hj
  have:=hcell' 4 _ rfl
  rw [show j / 5*5+4=j from by omega] at this
  rw [this];exact hj
theorem C_ch54 {w w1:World} {S:Nat→Prop} {n:Nat} {A:Option Addr} {a:List S54} (h:Kd.C k54 w A n a) (hk:Ch w w1 S) (h1:Far A n S):Kd.C k54 w1 A n a:=by
 refine ⟨h.1,h.2.1,fun hp=>?_⟩
 obtain ⟨ad,e,hc⟩:=h.2.2 hp
 refine ⟨ad,e,fun j p hj=>?_⟩
 obtain ⟨c,hs,hr,hcell⟩:=hc j p hj
 obtain rfl:=k54_open hr
 refine ⟨_,hs,k54_mk w1 p,fun i u hu=>hk.cell (hcell i u hu) ?_⟩
 rw [add_blk]
 exact h1 hp ad e
theorem C_lt54 {w:World} {A:Option Addr} {n:Nat} {a:List S54} (h:Kd.C k54 w A n a):Far A n (fun i=>w.heap.size≤i):=by
 intro hp ad e
 obtain ⟨ad',e',hc⟩:=h.2.2 hp
 rw [e] at e'
 obtain rfl:=Option.some.inj e'
 have hl:0<a.length:=by have:=h.1;omega
 obtain ⟨c,hs,hr,hcell⟩:=hc 0 _ (List.getElem?_eq_getElem hl)
 obtain rfl:=k54_open hr
 have:=World.block_lt_of_cell? w _ (hcell 0 _ rfl)
 rw [add_blk] at this
 omega
def flat68:List S68→List Value
 | []=>[]
 | x :: r=>.string x.f0 :: .int .i64 x.f1 :: .int .i64 x.f2 :: .int .i64 x.f3 :: flat68 r
theorem flat68_length:∀ xs:List S68,(flat68 xs).length=4*xs.length
 | []=>rfl
 | x :: r=>by simp only [flat68,List.length_cons,flat68_length r];omega
theorem flat68_append:∀ xs ys:List S68,flat68 (xs ++ ys)=flat68 xs ++ flat68 ys
 | [],_=>rfl
 | x :: r,ys=>by simp only [List.cons_append,flat68,flat68_append r ys]
theorem flat68_at:∀ (xs:List S68) (i:Nat) (h:i<xs.length),(flat68 xs)[4*i]?=some (.string xs[i].f0)∧(flat68 xs)[4*i+1]?=some (.int .i64 xs[i].f1)∧(flat68 xs)[4*i+2]?=some (.int .i64 xs[i].f2)∧(flat68 xs)[4*i+3]?=some (.int .i64 xs[i].f3)
 | x :: r,0,_=>⟨rfl,rfl,rfl,rfl⟩
 | x :: r,i+1,h=>by
  have ih:=flat68_at r i (by simpa using h)
  rw [show 4*(i+1)=4*i+1+1+1+1 from by omega]
  simp only [flat68,List.getElem?_cons_succ,List.getElem_cons_succ]
  exact ih
theorem flat68_set:∀ (xs:List S68) (i:Nat) (y:S68),(((((flat68 xs).set (4*i) (.string y.f0)).set (4*i+1) (.int .i64 y.f1)).set (4*i+2) (.int .i64 y.f2)).set (4*i+3) (.int .i64 y.f3))=flat68 (xs.set i y)
 | [],i,y=>by simp [flat68]
 | x :: r,0,y=>rfl
 | x :: r,i+1,y=>by
  have ih:=flat68_set r i y
  rw [show 4*(i+1)=4*i+1+1+1+1 from by omega]
  simp only [flat68,List.set_cons_succ]
  rw [ih]
theorem flat68_drop:∀ (xs:List S68) (n:Nat),(flat68 xs).drop (4*n)=flat68 (xs.drop n)
 | [],n=>by simp [flat68]
 | x :: r,0=>rfl
 | x :: r,n+1=>by
  rw [show 4*(n+1)=4*n+1+1+1+1 from by omega]
  simp only [flat68,List.drop_succ_cons,flat68_drop r n]
theorem flat68_one:∀ (rs:List S68) (v:Value),v∈flat68 rs→v.oneCell'=true
 | [],v,h=>by cases h
 | x :: r,v,h=>by
  simp only [flat68,List.mem_cons] at h
  rcases h with rfl|rfl|rfl|rfl|h
  ·rfl
  ·rfl
  ·rfl
  ·rfl
  ·exact flat68_one r v h
def rows68 (xs:List S68):Array Value:=(flat68 xs).toArray
theorem Blk.at68 {w:World} {g:Nat} {xs:List S68} (h:Blk w g 68 (rows68 xs)) (i:Nat) (hi:i<xs.length):w.cell? ⟨g,i*4,none⟩=some (.string xs[i].f0)∧w.cell? ⟨g,i*4+1,none⟩=some (.int .i64 xs[i].f1)∧w.cell? ⟨g,i*4+2,none⟩=some (.int .i64 xs[i].f2)∧w.cell? ⟨g,i*4+3,none⟩=some (.int .i64 xs[i].f3):=by
 have:=flat68_at xs i hi
 refine ⟨by rw [h.cell,Nat.mul_comm];simpa [rows68] using this.1,by rw [h.cell,Nat.mul_comm];simpa [rows68] using this.2.1,by rw [h.cell,Nat.mul_comm];simpa [rows68] using this.2.2.1,by rw [h.cell,Nat.mul_comm];simpa [rows68] using this.2.2.2⟩
theorem Blk.put68 {w:World} {g:Nat} {xs:List S68} (h:Blk w g 68 (rows68 xs)) (i:Nat) (y:S68):Blk ((((w.setCell ⟨g,i*4,none⟩ (.string y.f0)).setCell ⟨g,i*4+1,none⟩ (.int .i64 y.f1)).setCell ⟨g,i*4+2,none⟩ (.int .i64 y.f2)).setCell ⟨g,i*4+3,none⟩ (.int .i64 y.f3)) g 68 (rows68 (xs.set i y)):=by
 rw [Nat.mul_comm]
 have:=((((h.set_ (4*i) (.string y.f0)).set_ (4*i+1) (.int .i64 y.f1)).set_ (4*i+2) (.int .i64 y.f2)).set_ (4*i+3) (.int .i64 y.f3))
 unfold rows68 at this ⊢
 rw [List.setIfInBounds_toArray,List.setIfInBounds_toArray,List.setIfInBounds_toArray,List.setIfInBounds_toArray,flat68_set] at this
 exact this
theorem C_rows68 {w:World} {gb:Nat} {ys:List S68} (h:Blk w gb 68 (rows68 ys)) (m:Nat) (hm:m≤ys.length) (hl:ys.length≤9223372036854775807):Kd.C k68 w (some ⟨gb,0,none⟩) (ys.take m).length (ys.take m):=by
 refine ⟨rfl,by simp;omega,fun _=>⟨_,rfl,fun j p hj=>⟨[.string p.f0,.int .i64 p.f1,.int .i64 p.f2,.int .i64 p.f3],rfl,k68_mk w p,fun i u hu=>?_⟩⟩⟩
 have hj':j<(ys.take m).length:=(List.getElem?_eq_some_iff.1 hj).1
 have hjy:j<ys.length:=by simp at hj';omega
 have hp:ys[j]=p:=by
  have:=(List.getElem?_eq_some_iff.1 hj).2
  rw [List.getElem_take] at this
  exact this
 show w.cell? ((⟨gb,0,none⟩:Addr).add (j*4+i))=some u
 rw [add_zero_block]
 match i,hu with
 | 0,hu=>cases hu;rw [← hp];exact (h.at68 j hjy).1
 | 1,hu=>cases hu;rw [← hp];exact (h.at68 j hjy).2.1
 | 2,hu=>cases hu;rw [← hp];exact (h.at68 j hjy).2.2.1
 | 3,hu=>cases hu;rw [← hp];exact (h.at68 j hjy).2.2.2
theorem C_flat68 {w:World} {ad:Addr} {n:Nat} {rs:List S68} (hp:0<n) (h:Kd.C k68 w (some ad) n rs) (j:Nat) (v:Value) (hj:(flat68 rs)[j]?=some v):w.cell? (ad.add j)=some v:=by
 obtain ⟨ad',e,hc⟩:=h.2.2 hp
 cases e
 have hl:j<4*rs.length:=by rw [← flat68_length];exact (List.getElem?_eq_some_iff.1 hj).1
 have hq:j / 4<rs.length:=by omega
 obtain ⟨c,hs,hr,hcell⟩:=hc (j / 4) _ (List.getElem?_eq_getElem hq)
 obtain rfl:=k68_open hr
 have hcell':∀ i u,[Value.string rs[j / 4].f0,Value.int .i64 rs[j / 4].f1,Value.int .i64 rs[j / 4].f2,Value.int .i64 rs[j / 4].f3][i]?=some u→w.cell? (ad.add (j / 4*4+i))=some u:=hcell
 obtain ⟨z0,z1,z2,z3⟩:=flat68_at rs (j / 4) hq
 have hm:j % 4=0∨j % 4=1∨j % 4=2∨j % 4=3:=by omega
 rcases hm with hm|hm|hm|hm
 ·rw [show j=4*(j / 4) from by omega,z0] at hj
  have:=hcell' 0 _ rfl
  rw [show j / 4*4+0=j from by omega] at this
  rw [this];exact hj
 ·rw [show j=4*(j / 4)+1 from by omega,z1] at hj
  have:=hcell' 1 _ rfl
  rw [show j / 4*4+1=j from by omega] at this
  rw [this];exact hj
 ·rw [show j=4*(j / 4)+2 from by omega,z2] at hj
  have:=hcell' 2 _ rfl
  rw [show j / 4*4+2=j from by omega] at this
  rw [this];exact hj
 ·rw [show j=4*(j / 4)+3 from by omega,z3] at hj
  have:=hcell' 3 _ rfl
  rw [show j / 4*4+3=j from by omega] at this
  rw [this];exact hj
theorem C_ch68 {w w1:World} {S:Nat→Prop} {n:Nat} {A:Option Addr} {a:List S68} (h:Kd.C k68 w A n a) (hk:Ch w w1 S) (h1:Far A n S):Kd.C k68 w1 A n a:=by
 refine ⟨h.1,h.2.1,fun hp=>?_⟩
 obtain ⟨ad,e,hc⟩:=h.2.2 hp
 refine ⟨ad,e,fun j p hj=>?_⟩
 obtain ⟨c,hs,hr,hcell⟩:=hc j p hj
 obtain rfl:=k68_open hr
 refine ⟨_,hs,k68_mk w1 p,fun i u hu=>hk.cell (hcell i u hu) ?_⟩
 rw [add_blk]
 exact h1 hp ad e
theorem C_lt68 {w:World} {A:Option Addr} {n:Nat} {a:List S68} (h:Kd.C k68 w A n a):Far A n (fun i=>w.heap.size≤i):=by
 intro hp ad e
 obtain ⟨ad',e',hc⟩:=h.2.2 hp
 rw [e] at e'
 obtain rfl:=Option.some.inj e'
 have hl:0<a.length:=by have:=h.1;omega
 obtain ⟨c,hs,hr,hcell⟩:=hc 0 _ (List.getElem?_eq_getElem hl)
 obtain rfl:=k68_open hr
 have:=World.block_lt_of_cell? w _ (hcell 0 _ rfl)
 rw [add_blk] at this
 omega
def flat56:List S56→List Value
 | []=>[]
 | x :: r=>.string x.f0 :: .int .i64 x.f1 :: .int .i64 x.f2 :: .int .i64 x.f3 :: .int .i64 x.f4 :: flat56 r
theorem flat56_length:∀ xs:List S56,(flat56 xs).length=5*xs.length
 | []=>rfl
 | x :: r=>by simp only [flat56,List.length_cons,flat56_length r];omega
theorem flat56_append:∀ xs ys:List S56,flat56 (xs ++ ys)=flat56 xs ++ flat56 ys
 | [],_=>rfl
 | x :: r,ys=>by simp only [List.cons_append,flat56,flat56_append r ys]
theorem flat56_at:∀ (xs:List S56) (i:Nat) (h:i<xs.length),(flat56 xs)[5*i]?=some (.string xs[i].f0)∧(flat56 xs)[5*i+1]?=some (.int .i64 xs[i].f1)∧(flat56 xs)[5*i+2]?=some (.int .i64 xs[i].f2)∧(flat56 xs)[5*i+3]?=some (.int .i64 xs[i].f3)∧(flat56 xs)[5*i+4]?=some (.int .i64 xs[i].f4)
 | x :: r,0,_=>⟨rfl,rfl,rfl,rfl,rfl⟩
 | x :: r,i+1,h=>by
  have ih:=flat56_at r i (by simpa using h)
  rw [show 5*(i+1)=5*i+1+1+1+1+1 from by omega]
  simp only [flat56,List.getElem?_cons_succ,List.getElem_cons_succ]
  exact ih
theorem flat56_set:∀ (xs:List S56) (i:Nat) (y:S56),((((((flat56 xs).set (5*i) (.string y.f0)).set (5*i+1) (.int .i64 y.f1)).set (5*i+2) (.int .i64 y.f2)).set (5*i+3) (.int .i64 y.f3)).set (5*i+4) (.int .i64 y.f4))=flat56 (xs.set i y)
 | [],i,y=>by simp [flat56]
 | x :: r,0,y=>rfl
 | x :: r,i+1,y=>by
  have ih:=flat56_set r i y
  rw [show 5*(i+1)=5*i+1+1+1+1+1 from by omega]
  simp only [flat56,List.set_cons_succ]
  rw [ih]
theorem flat56_drop:∀ (xs:List S56) (n:Nat),(flat56 xs).drop (5*n)=flat56 (xs.drop n)
 | [],n=>by simp [flat56]
 | x :: r,0=>rfl
 | x :: r,n+1=>by
  rw [show 5*(n+1)=5*n+1+1+1+1+1 from by omega]
  simp only [flat56,List.drop_succ_cons,flat56_drop r n]
theorem flat56_one:∀ (rs:List S56) (v:Value),v∈flat56 rs→v.oneCell'=true
 | [],v,h=>by cases h
 | x :: r,v,h=>by
  simp only [flat56,List.mem_cons] at h
  rcases h with rfl|rfl|rfl|rfl|rfl|h
  ·rfl
  ·rfl
  ·rfl
  ·rfl
  ·rfl
  ·exact flat56_one r v h
def rows56 (xs:List S56):Array Value:=(flat56 xs).toArray
theorem Blk.at56 {w:World} {g:Nat} {xs:List S56} (h:Blk w g 56 (rows56 xs)) (i:Nat) (hi:i<xs.length):w.cell? ⟨g,i*5,none⟩=some (.string xs[i].f0)∧w.cell? ⟨g,i*5+1,none⟩=some (.int .i64 xs[i].f1)∧w.cell? ⟨g,i*5+2,none⟩=some (.int .i64 xs[i].f2)∧w.cell? ⟨g,i*5+3,none⟩=some (.int .i64 xs[i].f3)∧w.cell? ⟨g,i*5+4,none⟩=some (.int .i64 xs[i].f4):=by
 have:=flat56_at xs i hi
 refine ⟨by rw [h.cell,Nat.mul_comm];simpa [rows56] using this.1,by rw [h.cell,Nat.mul_comm];simpa [rows56] using this.2.1,by rw [h.cell,Nat.mul_comm];simpa [rows56] using this.2.2.1,by rw [h.cell,Nat.mul_comm];simpa [rows56] using this.2.2.2.1,by rw [h.cell,Nat.mul_comm];simpa [rows56] using this.2.2.2.2⟩
theorem Blk.put56 {w:World} {g:Nat} {xs:List S56} (h:Blk w g 56 (rows56 xs)) (i:Nat) (y:S56):Blk (((((w.setCell ⟨g,i*5,none⟩ (.string y.f0)).setCell ⟨g,i*5+1,none⟩ (.int .i64 y.f1)).setCell ⟨g,i*5+2,none⟩ (.int .i64 y.f2)).setCell ⟨g,i*5+3,none⟩ (.int .i64 y.f3)).setCell ⟨g,i*5+4,none⟩ (.int .i64 y.f4)) g 56 (rows56 (xs.set i y)):=by
 rw [Nat.mul_comm]
 have:=(((((h.set_ (5*i) (.string y.f0)).set_ (5*i+1) (.int .i64 y.f1)).set_ (5*i+2) (.int .i64 y.f2)).set_ (5*i+3) (.int .i64 y.f3)).set_ (5*i+4) (.int .i64 y.f4))
 unfold rows56 at this ⊢
 rw [List.setIfInBounds_toArray,List.setIfInBounds_toArray,List.setIfInBounds_toArray,List.setIfInBounds_toArray,List.setIfInBounds_toArray,flat56_set] at this
 exact this
theorem C_rows56 {w:World} {gb:Nat} {ys:List S56} (h:Blk w gb 56 (rows56 ys)) (m:Nat) (hm:m≤ys.length) (hl:ys.length≤9223372036854775807):Kd.C k56 w (some ⟨gb,0,none⟩) (ys.take m).length (ys.take m):=by
 refine ⟨rfl,by simp;omega,fun _=>⟨_,rfl,fun j p hj=>⟨[.string p.f0,.int .i64 p.f1,.int .i64 p.f2,.int .i64 p.f3,.int .i64 p.f4],rfl,k56_mk w p,fun i u hu=>?_⟩⟩⟩
 have hj':j<(ys.take m).length:=(List.getElem?_eq_some_iff.1 hj).1
 have hjy:j<ys.length:=by simp at hj';omega
 have hp:ys[j]=p:=by
  have:=(List.getElem?_eq_some_iff.1 hj).2
  rw [List.getElem_take] at this
  exact this
 show w.cell? ((⟨gb,0,none⟩:Addr).add (j*5+i))=some u
 rw [add_zero_block]
 match i,hu with
 | 0,hu=>cases hu;rw [← hp];exact (h.at56 j hjy).1
 | 1,hu=>cases hu;rw [← hp];exact (h.at56 j hjy).2.1
 | 2,hu=>cases hu;rw [← hp];exact (h.at56 j hjy).2.2.1
 | 3,hu=>cases hu;rw [← hp];exact (h.at56 j hjy).2.2.2.1
 | 4,hu=>cases hu;rw [← hp];exact (h.at56 j hjy).2.2.2.2
theorem C_flat56 {w:World} {ad:Addr} {n:Nat} {rs:List S56} (hp:0<n) (h:Kd.C k56 w (some ad) n rs) (j:Nat) (v:Value) (hj:(flat56 rs)[j]?=some v):w.cell? (ad.add j)=some v:=by
 obtain ⟨ad',e,hc⟩:=h.2.2 hp
 cases e
 have hl:j<5*rs.length:=by rw [← flat56_length];exact (List.getElem?_eq_some_iff.1 hj).1
 have hq:j / 5<rs.length:=by omega
 obtain ⟨c,hs,hr,hcell⟩:=hc (j / 5) _ (List.getElem?_eq_getElem hq)
 obtain rfl:=k56_open hr
 have hcell':∀ i u,[Value.string rs[j / 5].f0,Value.int .i64 rs[j / 5].f1,Value.int .i64 rs[j / 5].f2,Value.int .i64 rs[j / 5].f3,Value.int .i64 rs[j / 5].f4][i]?=some u→w.cell? (ad.add (j / 5*5+i))=some u:=hcell
 obtain ⟨z0,z1,z2,z3,z4⟩:=flat56_at rs (j / 5) hq
 have hm:j % 5=0∨j % 5=1∨j % 5=2∨j % 5=3∨j % 5=4:=by omega
 rcases hm with hm|hm|hm|hm|hm
 ·rw [show j=5*(j / 5) from by omega,z0] at hj
  have:=hcell' 0 _ rfl
  rw [show j / 5*5+0=j from by omega] at this
  rw [this];exact hj
 ·rw [show j=5*(j / 5)+1 from by omega,z1] at hj
  have:=hcell' 1 _ rfl
  rw [show j / 5*5+1=j from by omega] at this
  rw [this];exact hj
 ·rw [show j=5*(j / 5)+2 from by omega,z2] at hj
  have:=hcell' 2 _ rfl
  rw [show j / 5*5+2=j from by omega] at this
  rw [this];exact hj
 ·rw [show j=5*(j / 5)+3 from by omega,z3] at hj
  have:=hcell' 3 _ rfl
  rw [show j / 5*5+3=j from by omega] at this
  rw [this];exact hj
 ·rw [show j=5*(j / 5)+4 from by omega,z4] at hj
  have:=hcell' 4 _ rfl
  rw [show j / 5*5+4=j from by omega] at this
  rw [this];exact hj
theorem C_ch56 {w w1:World} {S:Nat→Prop} {n:Nat} {A:Option Addr} {a:List S56} (h:Kd.C k56 w A n a) (hk:Ch w w1 S) (h1:Far A n S):Kd.C k56 w1 A n a:=by
 refine ⟨h.1,h.2.1,fun hp=>?_⟩
 obtain ⟨ad,e,hc⟩:=h.2.2 hp
 refine ⟨ad,e,fun j p hj=>?_⟩
 obtain ⟨c,hs,hr,hcell⟩:=hc j p hj
 obtain rfl:=k56_open hr
 refine ⟨_,hs,k56_mk w1 p,fun i u hu=>hk.cell (hcell i u hu) ?_⟩
 rw [add_blk]
 exact h1 hp ad e
theorem C_lt56 {w:World} {A:Option Addr} {n:Nat} {a:List S56} (h:Kd.C k56 w A n a):Far A n (fun i=>w.heap.size≤i):=by
 intro hp ad e
 obtain ⟨ad',e',hc⟩:=h.2.2 hp
 rw [e] at e'
 obtain rfl:=Option.some.inj e'
 have hl:0<a.length:=by have:=h.1;omega
 obtain ⟨c,hs,hr,hcell⟩:=hc 0 _ (List.getElem?_eq_getElem hl)
 obtain rfl:=k56_open hr
 have:=World.block_lt_of_cell? w _ (hcell 0 _ rfl)
 rw [add_blk] at this
 omega
end Go.Proofs.Ytbeikcckcjadbaa.Ln
end
section
namespace Go.Proofs.Ytbeikcckcjadbaa.Ln
open Go.RowKit Go.Proofs.YtbeikcckcjadbaaW.PrintWords Go.Proofs.Ytbeikcckcjadbaa.PI Go.Proofs.Ytbeikcckcjadbaa.Im
attribute [local go_sem] isSome_setCell
def Pl54 (w:World) (v:Value) (ys:List S54):Prop:=(v=.slice none 0 0∧ys=[])∨∃ gb,v=.slice (some ⟨gb,0,none⟩) ys.length ys.length∧Blk w gb 54 (rows54 ys)
theorem Pl54.form {w:World} {v:Value} {ys:List S54} (h:Pl54 w v ys):∃ B,v=.slice B ys.length ys.length∧∀ ad,B=some ad→ad.block<w.heap.size:=by
 rcases h with ⟨rfl,rfl⟩|⟨gb,rfl,hb⟩
 ·exact ⟨none,rfl,fun _ h=>by cases h⟩
 ·exact ⟨_,rfl,fun ad h=>by cases h;exact hb.lt⟩
theorem Pl54.ch {w w':World} {S:Nat→Prop} {v:Value} {ys:List S54} (h:Pl54 w v ys) (hc:Ch w w' S) (hs:∀ k,v.ownBlock=some k→¬ S k):Pl54 w' v ys:=by
 rcases h with h|⟨gb,rfl,hb⟩
 ·exact .inl h
 ·exact .inr ⟨gb,rfl,hc.blk hb (hs gb rfl)⟩
theorem made54 (n:Nat):madeCells #[.int .i64 0,.int .i64 0,.int .i64 0,.int .i64 0,.int .i64 0] (n*5)=rows54 (List.replicate n z54):=by
 apply Array.ext
 ·simp [rows54,size_madeCells,flat54_length];omega
 ·intro i h1 h2
  have hi:i<n*5:=by simpa [size_madeCells] using h1
  have h3:=flat54_at (List.replicate n z54) (i / 5) (by simp;omega)
  have hm:i % 5=0∨i % 5=1∨i % 5=2∨i % 5=3∨i % 5=4:=by omega
  apply Option.some.inj
  rw [← Array.getElem?_eq_getElem h1,← Array.getElem?_eq_getElem h2]
  rw [Array.getElem?_eq_getElem h1]
  simp only [rows54,List.getElem?_toArray]
  rcases hm with hm|hm|hm|hm|hm
  ·have e:5*(i / 5)=i:=by omega
   have h4:=h3.1
   rw [e] at h4
   rw [h4]
   simp [z54,madeCells,hm] <;> rfl
  ·have e:5*(i / 5)+1=i:=by omega
   have h4:=h3.2.1
   rw [e] at h4
   rw [h4]
   simp [z54,madeCells,hm] <;> rfl
  ·have e:5*(i / 5)+2=i:=by omega
   have h4:=h3.2.2.1
   rw [e] at h4
   rw [h4]
   simp [z54,madeCells,hm] <;> rfl
  ·have e:5*(i / 5)+3=i:=by omega
   have h4:=h3.2.2.2.1
   rw [e] at h4
   rw [h4]
   simp [z54,madeCells,hm] <;> rfl
  ·have e:5*(i / 5)+4=i:=by omega
   have h4:=h3.2.2.2.2
   rw [e] at h4
   rw [h4]
   simp [z54,madeCells,hm] <;> rfl
theorem info54:(Try.prog.info? 54).map (fun i=>(i.zero,i.size,i.bytes))=some (some (.agg #[.int .i64 0,.int .i64 0,.int .i64 0,.int .i64 0,.int .i64 0]),5,40):=by kernel_rfl
theorem P54 (w0:World) (g q n0 n1 n2 c0 c1 c2:Nat) (A0 A1 A2:Option Addr) (en:Int) (v0 v1 v2:Value) (ys:List S54) (hg:Blk w0 g 29 #[v0,v1,v2]) (hq:Blk w0 q 26 #[.slice A0 n0 c0,.slice A1 n1 c1,.slice A2 n2 c2,.int .i64 en]) (hp:Pl54 w0 v0 ys) (hn:n0≤2000000) (hy:ys.length≤1000000000) {y1 y2 y4 y5 y6 y7 y8 y9 y10 y11 y12 y13 y14 y15 y16 y17 y18 y19 y20 y21 y22 y23 y24 y25 y26 y27 y28 y29 y30 y31 y32 y33 y34 y35 y36 y37 y38 y39 y40 y41 y42 y43 y44 y45 y46 y47 y48 y49 y50 y51 y52 y53 y54 y55 y56 y57 y58 y59 y60 y61 y62 y63 y64 y65 y66 y67 y68 y69 y70 y71 y72 y73 y74 y75 y76 y77 y78 y79 y80 y81 y82 y83 y84 y85 y86 y87 y88 y89 y90 y91 y92 y93 y94 y95 y96 y97 y98 y99 y100 y101 y102 y103 y104 y105 y106 y107 y108 y109 y110 y111 y112 y113 y114 y115 y116 y117 y118 y119 y120 y121 y122 y123 y124 y125 y126 y127 y128 y129 y130 y131 y132 y133 y134 y135 y136 y137 y138 y139 y140 y141 y142 y143 y144 y145 y146 y147 y148 y149 y150 y151 y152 y153 y154 y155 y156 y157 y158 y159 y160 y161 y162 y163 y164 y165 y166:Value} :
  Code.wp Try.prog (left (postC 1 (Try.f21.body.getD .skip))) (Norm fun a' W=>∃ (e8 e9 e10 e11 e12 e13 e14 e15 e16 e17 e18 e19 e20 e21 e22 e23 e24 e25 e26 e27:Value),a'={ tmps:=#[(.pointer (some ⟨g,0,none⟩)),y1,y2,(.pointer (some ⟨q,0,none⟩)),y4,y5,y6,y7,e8,e9,e10,e11,e12,e13,e14,e15,e16,e17,e18,e19,e20,e21,e22,e23,e24,e25,e26,e27,y28,y29,y30,y31,y32,y33,y34,y35,y36,y37,y38,y39,y40,y41,y42,y43,y44,y45,y46,y47,y48,y49,y50,y51,y52,y53,y54,y55,y56,y57,y58,y59,y60,y61,y62,y63,y64,y65,y66,y67,y68,y69,y70,y71,y72,y73,y74,y75,y76,y77,y78,y79,y80,y81,y82,y83,y84,y85,y86,y87,y88,y89,y90,y91,y92,y93,y94,y95,y96,y97,y98,y99,y100,y101,y102,y103,y104,y105,y106,y107,y108,y109,y110,y111,y112,y113,y114,y115,y116,y117,y118,y119,y120,y121,y122,y123,y124,y125,y126,y127,y128,y129,y130,y131,y132,y133,y134,y135,y136,y137,y138,y139,y140,y141,y142,y143,y144,y145,y146,y147,y148,y149,y150,y151,y152,y153,y154,y155,y156,y157,y158,y159,y160,y161,y162,y163,y164,y165,y166],defers:=[] }∧Hid (∃ (v:Value) (zs:List S54),Blk W g 29 #[v,v1,v2]∧Pl54 W v zs∧2*n0+70≤zs.length∧zs.length≤1000000000∧Ch w0 W (fun k=>k=g)∧∀ k,v.ownBlock=some k→v0.ownBlock=some k∨w0.heap.size≤k)) { tmps:=#[(.pointer (some ⟨g,0,none⟩)),y1,y2,(.pointer (some ⟨q,0,none⟩)),y4,y5,y6,y7,y8,y9,y10,y11,y12,y13,y14,y15,y16,y17,y18,y19,y20,y21,y22,y23,y24,y25,y26,y27,y28,y29,y30,y31,y32,y33,y34,y35,y36,y37,y38,y39,y40,y41,y42,y43,y44,y45,y46,y47,y48,y49,y50,y51,y52,y53,y54,y55,y56,y57,y58,y59,y60,y61,y62,y63,y64,y65,y66,y67,y68,y69,y70,y71,y72,y73,y74,y75,y76,y77,y78,y79,y80,y81,y82,y83,y84,y85,y86,y87,y88,y89,y90,y91,y92,y93,y94,y95,y96,y97,y98,y99,y100,y101,y102,y103,y104,y105,y106,y107,y108,y109,y110,y111,y112,y113,y114,y115,y116,y117,y118,y119,y120,y121,y122,y123,y124,y125,y126,y127,y128,y129,y130,y131,y132,y133,y134,y135,y136,y137,y138,y139,y140,y141,y142,y143,y144,y145,y146,y147,y148,y149,y150,y151,y152,y153,y154,y155,y156,y157,y158,y159,y160,y161,y162,y163,y164,y165,y166],defers:=[] } w0:=by
 obtain ⟨B,rfl,hB⟩:=hp.form
 have HP:=Lib.hid hp
 have HG:=Lib.hid hg
 have gl:=hg.cell 0
 have ql:=hq.cell 0
 simp only [List.getElem?_toArray,List.getElem?_cons_zero,List.getElem?_cons_succ] at gl ql
 obtain ⟨L,hL⟩:∃ L,L=ys.length:=⟨_,rfl⟩
 have HLL:=Lib.hid hL
 rw [← hL] at gl hy ⊢
 clear hg hq hp hL
 unfold Try.f21
 dsimp only [Option.getD,postC,left]
 refine wp_seq_k (fun K hK=>?_)
 have HK:=Lib.hid hK
 clear hK
 have s1:IntKind.i64.wrap (2*(n0:Int))=2*(n0:Int):=IntWalk.i64_in _ (by omega)
 have s2:IntKind.i64.wrap (2*(n0:Int)+70)=2*(n0:Int)+70:=IntWalk.i64_in _ (by omega)
 by_cases hs:L<2*n0+70
 ·have hd:decide ((L:Int)<2*(n0:Int)+70)=true:=decide_eq_true (by omega)
  have hmk:∀ W:World,(Instr.makeSlice 22 (.int .i64 (4*(n0:Int)+140)) (.int .i64 (4*(n0:Int)+140))).run Try.prog W=.ok (.slice (some ⟨W.heap.size,0,none⟩) (4*n0+140) (4*n0+140)) (W.alloc (.cells (madeCells #[.int .i64 0,.int .i64 0,.int .i64 0,.int .i64 0,.int .i64 0] ((4*n0+140)*5)) 54)):=by
   intro W
   obtain ⟨i0,hi,hz0,hz1,hz2⟩:=info_parts info54
   have h:=run_make (P:=Try.prog) (w:=W) 22 54 i0 _ Try.underlying22 hi hz0 .i64 .i64 (4*(n0:Int)+140) (4*(n0:Int)+140) (by omega) (Int.le_refl _) (by rw [hz2];omega) (by omega)
   have e:(4*(n0:Int)+140).toNat=4*n0+140:=by omega
   rw [e,hz1] at h
   exact h
  go_quiet (fail)
  clear s1 s2
  have hg1:=HG.out.drewN nq
  have hq1:=ql
  have hc1:=(Ch.refl w0 (fun k=>k=g)).drewN nq
  have hsz0:w0.heap.size≤(w0.drewN nq).heap.size:=Nat.le_refl _
  have gl1:(w0.drewN nq).cell? ⟨g,0,none⟩=some (.slice B L L):=gl
  have ql1:(w0.drewN nq).cell? ⟨q,0,none⟩=some (.slice A0 n0 c0):=ql
  generalize w0.drewN nq=w1 at hg1 hc1 hsz0 gl1 ql1 ⊢
  clear gl ql hq1
  have HG1:=Lib.hid hg1
  have HC1:=Lib.hid hc1
  clear hg1 hc1
  have hsz1:(w1.setCell ⟨g,0,none⟩ (.slice (some ⟨w1.heap.size,0,none⟩) (4*n0+140) (4*n0+140))).heap.size=w1.heap.size:=by simp [World.setCell]
  have hb0:Blk ((w1.setCell ⟨g,0,none⟩ (.slice (some ⟨w1.heap.size,0,none⟩) (4*n0+140) (4*n0+140))).alloc (.cells (madeCells #[.int .i64 0,.int .i64 0,.int .i64 0,.int .i64 0,.int .i64 0] ((4*n0+140)*5)) 54)) w1.heap.size 54 (rows54 (List.replicate (4*n0+140) z54)):=by
   have h:=Blk.new (w1.setCell ⟨g,0,none⟩ (.slice (some ⟨w1.heap.size,0,none⟩) (4*n0+140) (4*n0+140))) 54 (madeCells #[.int .i64 0,.int .i64 0,.int .i64 0,.int .i64 0,.int .i64 0] ((4*n0+140)*5))
   rw [hsz1] at h
   rw [← made54]
   exact h
  have hg0:=(HG1.out.set_ 0 (.slice (some ⟨w1.heap.size,0,none⟩) (4*n0+140) (4*n0+140))).alloc (.cells (madeCells #[.int .i64 0,.int .i64 0,.int .i64 0,.int .i64 0,.int .i64 0] ((4*n0+140)*5)) 54)
  have hc0:=(HC1.out.set_ ⟨g,0,none⟩ (.slice (some ⟨w1.heap.size,0,none⟩) (4*n0+140) (4*n0+140)) (.inl rfl)).alloc (.cells (madeCells #[.int .i64 0,.int .i64 0,.int .i64 0,.int .i64 0,.int .i64 0] ((4*n0+140)*5)) 54)
  have HB0:=Lib.hid hb0
  have HG0:=Lib.hid hg0
  have HC0:=Lib.hid hc0
  have f0:=HG1.out.frozen 0
  clear hb0 hg0 hc0 hsz1
  have hglt:g<w1.heap.size:=HG1.out.lt
  refine HK.out _ _ ?_
  clear HK
  go_wp2
  refine Norm.mk ?_
  exact ⟨_,_,_,_,_,_,_,_,_,_,_,_,_,_,_,_,_,_,_,_, rfl,Lib.hid ⟨_,List.replicate (4*n0+140) z54,HG0.out,.inr ⟨_,by rw [List.length_replicate],HB0.out⟩,by rw [List.length_replicate];omega,by rw [List.length_replicate];omega,HC0.out,fun k hk=>.inr (by have hk2:w1.heap.size=k:=Option.some.inj hk;omega)⟩⟩
 ·have hd:decide ((L:Int)<2*(n0:Int)+70)=false:=decide_eq_false (by omega)
  go_quiet (fail)
  clear s1 s2
  refine HK.out _ _ ?_
  clear HK
  go_wp2
  refine Norm.mk ?_
  exact ⟨_,_,_,_,_,_,_,_,_,_,_,_,_,_,_,_,_,_,_,_, rfl,Lib.hid ⟨.slice B L L,ys,by rw [HLL.out];exact HG.out,by rw [HLL.out];exact HP.out,by rw [← HLL.out];omega,by rw [← HLL.out];exact hy,(Ch.refl w0 _).drewN _,fun k hk=>.inl hk⟩⟩
def Pl68 (w:World) (v:Value) (ys:List S68):Prop:=(v=.slice none 0 0∧ys=[])∨∃ gb,v=.slice (some ⟨gb,0,none⟩) ys.length ys.length∧Blk w gb 68 (rows68 ys)
theorem Pl68.form {w:World} {v:Value} {ys:List S68} (h:Pl68 w v ys):∃ B,v=.slice B ys.length ys.length∧∀ ad,B=some ad→ad.block<w.heap.size:=by
 rcases h with ⟨rfl,rfl⟩|⟨gb,rfl,hb⟩
 ·exact ⟨none,rfl,fun _ h=>by cases h⟩
 ·exact ⟨_,rfl,fun ad h=>by cases h;exact hb.lt⟩
theorem Pl68.ch {w w':World} {S:Nat→Prop} {v:Value} {ys:List S68} (h:Pl68 w v ys) (hc:Ch w w' S) (hs:∀ k,v.ownBlock=some k→¬ S k):Pl68 w' v ys:=by
 rcases h with h|⟨gb,rfl,hb⟩
 ·exact .inl h
 ·exact .inr ⟨gb,rfl,hc.blk hb (hs gb rfl)⟩
theorem made68 (n:Nat):madeCells #[.string ByteArray.empty,.int .i64 0,.int .i64 0,.int .i64 0] (n*4)=rows68 (List.replicate n z68):=by
 apply Array.ext
 ·simp [rows68,size_madeCells,flat68_length];omega
 ·intro i h1 h2
  have hi:i<n*4:=by simpa [size_madeCells] using h1
  have h3:=flat68_at (List.replicate n z68) (i / 4) (by simp;omega)
  have hm:i % 4=0∨i % 4=1∨i % 4=2∨i % 4=3:=by omega
  apply Option.some.inj
  rw [← Array.getElem?_eq_getElem h1,← Array.getElem?_eq_getElem h2]
  rw [Array.getElem?_eq_getElem h1]
  simp only [rows68,List.getElem?_toArray]
  rcases hm with hm|hm|hm|hm
  ·have e:4*(i / 4)=i:=by omega
   have h4:=h3.1
   rw [e] at h4
   rw [h4]
   simp [z68,madeCells,hm] <;> rfl
  ·have e:4*(i / 4)+1=i:=by omega
   have h4:=h3.2.1
   rw [e] at h4
   rw [h4]
   simp [z68,madeCells,hm] <;> rfl
  ·have e:4*(i / 4)+2=i:=by omega
   have h4:=h3.2.2.1
   rw [e] at h4
   rw [h4]
   simp [z68,madeCells,hm] <;> rfl
  ·have e:4*(i / 4)+3=i:=by omega
   have h4:=h3.2.2.2
   rw [e] at h4
   rw [h4]
   simp [z68,madeCells,hm] <;> rfl
theorem info68:(Try.prog.info? 68).map (fun i=>(i.zero,i.size,i.bytes))=some (some (.agg #[.string ByteArray.empty,.int .i64 0,.int .i64 0,.int .i64 0]),4,40):=by kernel_rfl
theorem P68 (w0:World) (g q n0 n1 n2 c0 c1 c2:Nat) (A0 A1 A2:Option Addr) (en:Int) (v0 v1 v2:Value) (ys:List S68) (hg:Blk w0 g 29 #[v0,v1,v2]) (hq:Blk w0 q 26 #[.slice A0 n0 c0,.slice A1 n1 c1,.slice A2 n2 c2,.int .i64 en]) (hp:Pl68 w0 v1 ys) (hn:n1≤2000000) (hy:ys.length≤1000000000) {y1 y2 y4 y5 y6 y7 y8 y9 y10 y11 y12 y13 y14 y15 y16 y17 y18 y19 y20 y21 y22 y23 y24 y25 y26 y27 y28 y29 y30 y31 y32 y33 y34 y35 y36 y37 y38 y39 y40 y41 y42 y43 y44 y45 y46 y47 y48 y49 y50 y51 y52 y53 y54 y55 y56 y57 y58 y59 y60 y61 y62 y63 y64 y65 y66 y67 y68 y69 y70 y71 y72 y73 y74 y75 y76 y77 y78 y79 y80 y81 y82 y83 y84 y85 y86 y87 y88 y89 y90 y91 y92 y93 y94 y95 y96 y97 y98 y99 y100 y101 y102 y103 y104 y105 y106 y107 y108 y109 y110 y111 y112 y113 y114 y115 y116 y117 y118 y119 y120 y121 y122 y123 y124 y125 y126 y127 y128 y129 y130 y131 y132 y133 y134 y135 y136 y137 y138 y139 y140 y141 y142 y143 y144 y145 y146 y147 y148 y149 y150 y151 y152 y153 y154 y155 y156 y157 y158 y159 y160 y161 y162 y163 y164 y165 y166:Value} :
  Code.wp Try.prog (left (postC 2 (Try.f21.body.getD .skip))) (Norm fun a' W=>∃ (e28 e29 e30 e31 e32 e33 e34 e35 e36 e37 e38 e39 e40 e41 e42 e43 e44 e45 e46 e47:Value),a'={ tmps:=#[(.pointer (some ⟨g,0,none⟩)),y1,y2,(.pointer (some ⟨q,0,none⟩)),y4,y5,y6,y7,y8,y9,y10,y11,y12,y13,y14,y15,y16,y17,y18,y19,y20,y21,y22,y23,y24,y25,y26,y27,e28,e29,e30,e31,e32,e33,e34,e35,e36,e37,e38,e39,e40,e41,e42,e43,e44,e45,e46,e47,y48,y49,y50,y51,y52,y53,y54,y55,y56,y57,y58,y59,y60,y61,y62,y63,y64,y65,y66,y67,y68,y69,y70,y71,y72,y73,y74,y75,y76,y77,y78,y79,y80,y81,y82,y83,y84,y85,y86,y87,y88,y89,y90,y91,y92,y93,y94,y95,y96,y97,y98,y99,y100,y101,y102,y103,y104,y105,y106,y107,y108,y109,y110,y111,y112,y113,y114,y115,y116,y117,y118,y119,y120,y121,y122,y123,y124,y125,y126,y127,y128,y129,y130,y131,y132,y133,y134,y135,y136,y137,y138,y139,y140,y141,y142,y143,y144,y145,y146,y147,y148,y149,y150,y151,y152,y153,y154,y155,y156,y157,y158,y159,y160,y161,y162,y163,y164,y165,y166],defers:=[] }∧Hid (∃ (v:Value) (zs:List S68),Blk W g 29 #[v0,v,v2]∧Pl68 W v zs∧2*n1+70≤zs.length∧zs.length≤1000000000∧Ch w0 W (fun k=>k=g)∧∀ k,v.ownBlock=some k→v1.ownBlock=some k∨w0.heap.size≤k)) { tmps:=#[(.pointer (some ⟨g,0,none⟩)),y1,y2,(.pointer (some ⟨q,0,none⟩)),y4,y5,y6,y7,y8,y9,y10,y11,y12,y13,y14,y15,y16,y17,y18,y19,y20,y21,y22,y23,y24,y25,y26,y27,y28,y29,y30,y31,y32,y33,y34,y35,y36,y37,y38,y39,y40,y41,y42,y43,y44,y45,y46,y47,y48,y49,y50,y51,y52,y53,y54,y55,y56,y57,y58,y59,y60,y61,y62,y63,y64,y65,y66,y67,y68,y69,y70,y71,y72,y73,y74,y75,y76,y77,y78,y79,y80,y81,y82,y83,y84,y85,y86,y87,y88,y89,y90,y91,y92,y93,y94,y95,y96,y97,y98,y99,y100,y101,y102,y103,y104,y105,y106,y107,y108,y109,y110,y111,y112,y113,y114,y115,y116,y117,y118,y119,y120,y121,y122,y123,y124,y125,y126,y127,y128,y129,y130,y131,y132,y133,y134,y135,y136,y137,y138,y139,y140,y141,y142,y143,y144,y145,y146,y147,y148,y149,y150,y151,y152,y153,y154,y155,y156,y157,y158,y159,y160,y161,y162,y163,y164,y165,y166],defers:=[] } w0:=by
 obtain ⟨B,rfl,hB⟩:=hp.form
 have HP:=Lib.hid hp
 have HG:=Lib.hid hg
 have gl:=hg.cell 1
 have ql:=hq.cell 1
 simp only [List.getElem?_toArray,List.getElem?_cons_zero,List.getElem?_cons_succ] at gl ql
 obtain ⟨L,hL⟩:∃ L,L=ys.length:=⟨_,rfl⟩
 have HLL:=Lib.hid hL
 rw [← hL] at gl hy ⊢
 clear hg hq hp hL
 unfold Try.f21
 dsimp only [Option.getD,postC,left]
 refine wp_seq_k (fun K hK=>?_)
 have HK:=Lib.hid hK
 clear hK
 have s1:IntKind.i64.wrap (2*(n1:Int))=2*(n1:Int):=IntWalk.i64_in _ (by omega)
 have s2:IntKind.i64.wrap (2*(n1:Int)+70)=2*(n1:Int)+70:=IntWalk.i64_in _ (by omega)
 by_cases hs:L<2*n1+70
 ·have hd:decide ((L:Int)<2*(n1:Int)+70)=true:=decide_eq_true (by omega)
  have hmk:∀ W:World,(Instr.makeSlice 23 (.int .i64 (4*(n1:Int)+140)) (.int .i64 (4*(n1:Int)+140))).run Try.prog W=.ok (.slice (some ⟨W.heap.size,0,none⟩) (4*n1+140) (4*n1+140)) (W.alloc (.cells (madeCells #[.string ByteArray.empty,.int .i64 0,.int .i64 0,.int .i64 0] ((4*n1+140)*4)) 68)):=by
   intro W
   obtain ⟨i0,hi,hz0,hz1,hz2⟩:=info_parts info68
   have h:=run_make (P:=Try.prog) (w:=W) 23 68 i0 _ Try.underlying23 hi hz0 .i64 .i64 (4*(n1:Int)+140) (4*(n1:Int)+140) (by omega) (Int.le_refl _) (by rw [hz2];omega) (by omega)
   have e:(4*(n1:Int)+140).toNat=4*n1+140:=by omega
   rw [e,hz1] at h
   exact h
  go_quiet (fail)
  clear s1 s2
  have hg1:=HG.out.drewN nq
  have hq1:=ql
  have hc1:=(Ch.refl w0 (fun k=>k=g)).drewN nq
  have hsz0:w0.heap.size≤(w0.drewN nq).heap.size:=Nat.le_refl _
  have gl1:(w0.drewN nq).cell? ⟨g,1,none⟩=some (.slice B L L):=gl
  have ql1:(w0.drewN nq).cell? ⟨q,1,none⟩=some (.slice A1 n1 c1):=ql
  generalize w0.drewN nq=w1 at hg1 hc1 hsz0 gl1 ql1 ⊢
  clear gl ql hq1
  have HG1:=Lib.hid hg1
  have HC1:=Lib.hid hc1
  clear hg1 hc1
  have hsz1:(w1.setCell ⟨g,1,none⟩ (.slice (some ⟨w1.heap.size,0,none⟩) (4*n1+140) (4*n1+140))).heap.size=w1.heap.size:=by simp [World.setCell]
  have hb0:Blk ((w1.setCell ⟨g,1,none⟩ (.slice (some ⟨w1.heap.size,0,none⟩) (4*n1+140) (4*n1+140))).alloc (.cells (madeCells #[.string ByteArray.empty,.int .i64 0,.int .i64 0,.int .i64 0] ((4*n1+140)*4)) 68)) w1.heap.size 68 (rows68 (List.replicate (4*n1+140) z68)):=by
   have h:=Blk.new (w1.setCell ⟨g,1,none⟩ (.slice (some ⟨w1.heap.size,0,none⟩) (4*n1+140) (4*n1+140))) 68 (madeCells #[.string ByteArray.empty,.int .i64 0,.int .i64 0,.int .i64 0] ((4*n1+140)*4))
   rw [hsz1] at h
   rw [← made68]
   exact h
  have hg0:=(HG1.out.set_ 1 (.slice (some ⟨w1.heap.size,0,none⟩) (4*n1+140) (4*n1+140))).alloc (.cells (madeCells #[.string ByteArray.empty,.int .i64 0,.int .i64 0,.int .i64 0] ((4*n1+140)*4)) 68)
  have hc0:=(HC1.out.set_ ⟨g,1,none⟩ (.slice (some ⟨w1.heap.size,0,none⟩) (4*n1+140) (4*n1+140)) (.inl rfl)).alloc (.cells (madeCells #[.string ByteArray.empty,.int .i64 0,.int .i64 0,.int .i64 0] ((4*n1+140)*4)) 68)
  have HB0:=Lib.hid hb0
  have HG0:=Lib.hid hg0
  have HC0:=Lib.hid hc0
  have f0:=HG1.out.frozen 1
  clear hb0 hg0 hc0 hsz1
  have hglt:g<w1.heap.size:=HG1.out.lt
  refine HK.out _ _ ?_
  clear HK
  go_wp2
  refine Norm.mk ?_
  exact ⟨_,_,_,_,_,_,_,_,_,_,_,_,_,_,_,_,_,_,_,_, rfl,Lib.hid ⟨_,List.replicate (4*n1+140) z68,HG0.out,.inr ⟨_,by rw [List.length_replicate],HB0.out⟩,by rw [List.length_replicate];omega,by rw [List.length_replicate];omega,HC0.out,fun k hk=>.inr (by have hk2:w1.heap.size=k:=Option.some.inj hk;omega)⟩⟩
 ·have hd:decide ((L:Int)<2*(n1:Int)+70)=false:=decide_eq_false (by omega)
  go_quiet (fail)
  clear s1 s2
  refine HK.out _ _ ?_
  clear HK
  go_wp2
  refine Norm.mk ?_
  exact ⟨_,_,_,_,_,_,_,_,_,_,_,_,_,_,_,_,_,_,_,_, rfl,Lib.hid ⟨.slice B L L,ys,by rw [HLL.out];exact HG.out,by rw [HLL.out];exact HP.out,by rw [← HLL.out];omega,by rw [← HLL.out];exact hy,(Ch.refl w0 _).drewN _,fun k hk=>.inl hk⟩⟩
def Pl56 (w:World) (v:Value) (ys:List S56):Prop:=(v=.slice none 0 0∧ys=[])∨∃ gb,v=.slice (some ⟨gb,0,none⟩) ys.length ys.length∧Blk w gb 56 (rows56 ys)
theorem Pl56.form {w:World} {v:Value} {ys:List S56} (h:Pl56 w v ys):∃ B,v=.slice B ys.length ys.length∧∀ ad,B=some ad→ad.block<w.heap.size:=by
 rcases h with ⟨rfl,rfl⟩|⟨gb,rfl,hb⟩
 ·exact ⟨none,rfl,fun _ h=>by cases h⟩
 ·exact ⟨_,rfl,fun ad h=>by cases h;exact hb.lt⟩
theorem Pl56.ch {w w':World} {S:Nat→Prop} {v:Value} {ys:List S56} (h:Pl56 w v ys) (hc:Ch w w' S) (hs:∀ k,v.ownBlock=some k→¬ S k):Pl56 w' v ys:=by
 rcases h with h|⟨gb,rfl,hb⟩
 ·exact .inl h
 ·exact .inr ⟨gb,rfl,hc.blk hb (hs gb rfl)⟩
theorem made56 (n:Nat):madeCells #[.string ByteArray.empty,.int .i64 0,.int .i64 0,.int .i64 0,.int .i64 0] (n*5)=rows56 (List.replicate n z56):=by
 apply Array.ext
 ·simp [rows56,size_madeCells,flat56_length];omega
 ·intro i h1 h2
  have hi:i<n*5:=by simpa [size_madeCells] using h1
  have h3:=flat56_at (List.replicate n z56) (i / 5) (by simp;omega)
  have hm:i % 5=0∨i % 5=1∨i % 5=2∨i % 5=3∨i % 5=4:=by omega
  apply Option.some.inj
  rw [← Array.getElem?_eq_getElem h1,← Array.getElem?_eq_getElem h2]
  rw [Array.getElem?_eq_getElem h1]
  simp only [rows56,List.getElem?_toArray]
  rcases hm with hm|hm|hm|hm|hm
  ·have e:5*(i / 5)=i:=by omega
   have h4:=h3.1
   rw [e] at h4
   rw [h4]
   simp [z56,madeCells,hm] <;> rfl
  ·have e:5*(i / 5)+1=i:=by omega
   have h4:=h3.2.1
   rw [e] at h4
   rw [h4]
   simp [z56,madeCells,hm] <;> rfl
  ·have e:5*(i / 5)+2=i:=by omega
   have h4:=h3.2.2.1
   rw [e] at h4
   rw [h4]
   simp [z56,madeCells,hm] <;> rfl
  ·have e:5*(i / 5)+3=i:=by omega
   have h4:=h3.2.2.2.1
   rw [e] at h4
   rw [h4]
   simp [z56,madeCells,hm] <;> rfl
  ·have e:5*(i / 5)+4=i:=by omega
   have h4:=h3.2.2.2.2
   rw [e] at h4
   rw [h4]
   simp [z56,madeCells,hm] <;> rfl
theorem info56:(Try.prog.info? 56).map (fun i=>(i.zero,i.size,i.bytes))=some (some (.agg #[.string ByteArray.empty,.int .i64 0,.int .i64 0,.int .i64 0,.int .i64 0]),5,48):=by kernel_rfl
theorem P56 (w0:World) (g q n0 n1 n2 c0 c1 c2:Nat) (A0 A1 A2:Option Addr) (en:Int) (v0 v1 v2:Value) (ys:List S56) (hg:Blk w0 g 29 #[v0,v1,v2]) (hq:Blk w0 q 26 #[.slice A0 n0 c0,.slice A1 n1 c1,.slice A2 n2 c2,.int .i64 en]) (hp:Pl56 w0 v2 ys) (hn:n2≤2000000) (hy:ys.length≤1000000000) {y1 y2 y4 y5 y6 y7 y8 y9 y10 y11 y12 y13 y14 y15 y16 y17 y18 y19 y20 y21 y22 y23 y24 y25 y26 y27 y28 y29 y30 y31 y32 y33 y34 y35 y36 y37 y38 y39 y40 y41 y42 y43 y44 y45 y46 y47 y48 y49 y50 y51 y52 y53 y54 y55 y56 y57 y58 y59 y60 y61 y62 y63 y64 y65 y66 y67 y68 y69 y70 y71 y72 y73 y74 y75 y76 y77 y78 y79 y80 y81 y82 y83 y84 y85 y86 y87 y88 y89 y90 y91 y92 y93 y94 y95 y96 y97 y98 y99 y100 y101 y102 y103 y104 y105 y106 y107 y108 y109 y110 y111 y112 y113 y114 y115 y116 y117 y118 y119 y120 y121 y122 y123 y124 y125 y126 y127 y128 y129 y130 y131 y132 y133 y134 y135 y136 y137 y138 y139 y140 y141 y142 y143 y144 y145 y146 y147 y148 y149 y150 y151 y152 y153 y154 y155 y156 y157 y158 y159 y160 y161 y162 y163 y164 y165 y166:Value} :
  Code.wp Try.prog (left (postC 3 (Try.f21.body.getD .skip))) (Norm fun a' W=>∃ (e48 e49 e50 e51 e52 e53 e54 e55 e56 e57 e58 e59 e60 e61 e62 e63 e64 e65 e66 e67:Value),a'={ tmps:=#[(.pointer (some ⟨g,0,none⟩)),y1,y2,(.pointer (some ⟨q,0,none⟩)),y4,y5,y6,y7,y8,y9,y10,y11,y12,y13,y14,y15,y16,y17,y18,y19,y20,y21,y22,y23,y24,y25,y26,y27,y28,y29,y30,y31,y32,y33,y34,y35,y36,y37,y38,y39,y40,y41,y42,y43,y44,y45,y46,y47,e48,e49,e50,e51,e52,e53,e54,e55,e56,e57,e58,e59,e60,e61,e62,e63,e64,e65,e66,e67,y68,y69,y70,y71,y72,y73,y74,y75,y76,y77,y78,y79,y80,y81,y82,y83,y84,y85,y86,y87,y88,y89,y90,y91,y92,y93,y94,y95,y96,y97,y98,y99,y100,y101,y102,y103,y104,y105,y106,y107,y108,y109,y110,y111,y112,y113,y114,y115,y116,y117,y118,y119,y120,y121,y122,y123,y124,y125,y126,y127,y128,y129,y130,y131,y132,y133,y134,y135,y136,y137,y138,y139,y140,y141,y142,y143,y144,y145,y146,y147,y148,y149,y150,y151,y152,y153,y154,y155,y156,y157,y158,y159,y160,y161,y162,y163,y164,y165,y166],defers:=[] }∧Hid (∃ (v:Value) (zs:List S56),Blk W g 29 #[v0,v1,v]∧Pl56 W v zs∧2*n2+70≤zs.length∧zs.length≤1000000000∧Ch w0 W (fun k=>k=g)∧∀ k,v.ownBlock=some k→v2.ownBlock=some k∨w0.heap.size≤k)) { tmps:=#[(.pointer (some ⟨g,0,none⟩)),y1,y2,(.pointer (some ⟨q,0,none⟩)),y4,y5,y6,y7,y8,y9,y10,y11,y12,y13,y14,y15,y16,y17,y18,y19,y20,y21,y22,y23,y24,y25,y26,y27,y28,y29,y30,y31,y32,y33,y34,y35,y36,y37,y38,y39,y40,y41,y42,y43,y44,y45,y46,y47,y48,y49,y50,y51,y52,y53,y54,y55,y56,y57,y58,y59,y60,y61,y62,y63,y64,y65,y66,y67,y68,y69,y70,y71,y72,y73,y74,y75,y76,y77,y78,y79,y80,y81,y82,y83,y84,y85,y86,y87,y88,y89,y90,y91,y92,y93,y94,y95,y96,y97,y98,y99,y100,y101,y102,y103,y104,y105,y106,y107,y108,y109,y110,y111,y112,y113,y114,y115,y116,y117,y118,y119,y120,y121,y122,y123,y124,y125,y126,y127,y128,y129,y130,y131,y132,y133,y134,y135,y136,y137,y138,y139,y140,y141,y142,y143,y144,y145,y146,y147,y148,y149,y150,y151,y152,y153,y154,y155,y156,y157,y158,y159,y160,y161,y162,y163,y164,y165,y166],defers:=[] } w0:=by
 obtain ⟨B,rfl,hB⟩:=hp.form
 have HP:=Lib.hid hp
 have HG:=Lib.hid hg
 have gl:=hg.cell 2
 have ql:=hq.cell 2
 simp only [List.getElem?_toArray,List.getElem?_cons_zero,List.getElem?_cons_succ] at gl ql
 obtain ⟨L,hL⟩:∃ L,L=ys.length:=⟨_,rfl⟩
 have HLL:=Lib.hid hL
 rw [← hL] at gl hy ⊢
 clear hg hq hp hL
 unfold Try.f21
 dsimp only [Option.getD,postC,left]
 refine wp_seq_k (fun K hK=>?_)
 have HK:=Lib.hid hK
 clear hK
 have s1:IntKind.i64.wrap (2*(n2:Int))=2*(n2:Int):=IntWalk.i64_in _ (by omega)
 have s2:IntKind.i64.wrap (2*(n2:Int)+70)=2*(n2:Int)+70:=IntWalk.i64_in _ (by omega)
 by_cases hs:L<2*n2+70
 ·have hd:decide ((L:Int)<2*(n2:Int)+70)=true:=decide_eq_true (by omega)
  have hmk:∀ W:World,(Instr.makeSlice 24 (.int .i64 (4*(n2:Int)+140)) (.int .i64 (4*(n2:Int)+140))).run Try.prog W=.ok (.slice (some ⟨W.heap.size,0,none⟩) (4*n2+140) (4*n2+140)) (W.alloc (.cells (madeCells #[.string ByteArray.empty,.int .i64 0,.int .i64 0,.int .i64 0,.int .i64 0] ((4*n2+140)*5)) 56)):=by
   intro W
   obtain ⟨i0,hi,hz0,hz1,hz2⟩:=info_parts info56
   have h:=run_make (P:=Try.prog) (w:=W) 24 56 i0 _ Try.underlying24 hi hz0 .i64 .i64 (4*(n2:Int)+140) (4*(n2:Int)+140) (by omega) (Int.le_refl _) (by rw [hz2];omega) (by omega)
   have e:(4*(n2:Int)+140).toNat=4*n2+140:=by omega
   rw [e,hz1] at h
   exact h
  go_quiet (fail)
  clear s1 s2
  have hg1:=HG.out.drewN nq
  have hq1:=ql
  have hc1:=(Ch.refl w0 (fun k=>k=g)).drewN nq
  have hsz0:w0.heap.size≤(w0.drewN nq).heap.size:=Nat.le_refl _
  have gl1:(w0.drewN nq).cell? ⟨g,2,none⟩=some (.slice B L L):=gl
  have ql1:(w0.drewN nq).cell? ⟨q,2,none⟩=some (.slice A2 n2 c2):=ql
  generalize w0.drewN nq=w1 at hg1 hc1 hsz0 gl1 ql1 ⊢
  clear gl ql hq1
  have HG1:=Lib.hid hg1
  have HC1:=Lib.hid hc1
  clear hg1 hc1
  have hsz1:(w1.setCell ⟨g,2,none⟩ (.slice (some ⟨w1.heap.size,0,none⟩) (4*n2+140) (4*n2+140))).heap.size=w1.heap.size:=by simp [World.setCell]
  have hb0:Blk ((w1.setCell ⟨g,2,none⟩ (.slice (some ⟨w1.heap.size,0,none⟩) (4*n2+140) (4*n2+140))).alloc (.cells (madeCells #[.string ByteArray.empty,.int .i64 0,.int .i64 0,.int .i64 0,.int .i64 0] ((4*n2+140)*5)) 56)) w1.heap.size 56 (rows56 (List.replicate (4*n2+140) z56)):=by
   have h:=Blk.new (w1.setCell ⟨g,2,none⟩ (.slice (some ⟨w1.heap.size,0,none⟩) (4*n2+140) (4*n2+140))) 56 (madeCells #[.string ByteArray.empty,.int .i64 0,.int .i64 0,.int .i64 0,.int .i64 0] ((4*n2+140)*5))
   rw [hsz1] at h
   rw [← made56]
   exact h
  have hg0:=(HG1.out.set_ 2 (.slice (some ⟨w1.heap.size,0,none⟩) (4*n2+140) (4*n2+140))).alloc (.cells (madeCells #[.string ByteArray.empty,.int .i64 0,.int .i64 0,.int .i64 0,.int .i64 0] ((4*n2+140)*5)) 56)
  have hc0:=(HC1.out.set_ ⟨g,2,none⟩ (.slice (some ⟨w1.heap.size,0,none⟩) (4*n2+140) (4*n2+140)) (.inl rfl)).alloc (.cells (madeCells #[.string ByteArray.empty,.int .i64 0,.int .i64 0,.int .i64 0,.int .i64 0] ((4*n2+140)*5)) 56)
  have HB0:=Lib.hid hb0
  have HG0:=Lib.hid hg0
  have HC0:=Lib.hid hc0
  have f0:=HG1.out.frozen 2
  clear hb0 hg0 hc0 hsz1
  have hglt:g<w1.heap.size:=HG1.out.lt
  refine HK.out _ _ ?_
  clear HK
  go_wp2
  refine Norm.mk ?_
  exact ⟨_,_,_,_,_,_,_,_,_,_,_,_,_,_,_,_,_,_,_,_, rfl,Lib.hid ⟨_,List.replicate (4*n2+140) z56,HG0.out,.inr ⟨_,by rw [List.length_replicate],HB0.out⟩,by rw [List.length_replicate];omega,by rw [List.length_replicate];omega,HC0.out,fun k hk=>.inr (by have hk2:w1.heap.size=k:=Option.some.inj hk;omega)⟩⟩
 ·have hd:decide ((L:Int)<2*(n2:Int)+70)=false:=decide_eq_false (by omega)
  go_quiet (fail)
  clear s1 s2
  refine HK.out _ _ ?_
  clear HK
  go_wp2
  refine Norm.mk ?_
  exact ⟨_,_,_,_,_,_,_,_,_,_,_,_,_,_,_,_,_,_,_,_, rfl,Lib.hid ⟨.slice B L L,ys,by rw [HLL.out];exact HG.out,by rw [HLL.out];exact HP.out,by rw [← HLL.out];omega,by rw [← HLL.out];exact hy,(Ch.refl w0 _).drewN _,fun k hk=>.inl hk⟩⟩
end Go.Proofs.Ytbeikcckcjadbaa.Ln
end
section
namespace Go.Proofs.Ytbeikcckcjadbaa.Ln
open Go.RowKit Go.Proofs.YtbeikcckcjadbaaW.PrintWords Go.Proofs.Ytbeikcckcjadbaa.PI Go.Proofs.Ytbeikcckcjadbaa.Im
attribute [local go_sem] isSome_setCell
theorem take_set {α:Type} (ys l:List α) (k:Nat) (x:α) (hk:k<ys.length) (h:ys.take k=l.take k) (hx:l[k]?=some x):(ys.set k x).take (k+1)=l.take (k+1):=by
 have hl:k<l.length:=(List.getElem?_eq_some_iff.1 hx).1
 have hx':l[k]=x:=(List.getElem?_eq_some_iff.1 hx).2
 rw [List.take_succ_eq_append_getElem (by simpa using hk),List.take_succ_eq_append_getElem hl,hx',List.take_set_of_le (Nat.le_refl _),h,List.getElem_set_self]
def beh54 (i:Int):S54:=⟨-7,0,0,0,i⟩
def behs54 (n:Nat):List S54:=(List.range n).map fun (i:Nat)=>beh54 (i:Int)
theorem behs54_length (n:Nat):(behs54 n).length=n:=by simp [behs54]
theorem behs54_at (n i:Nat) (h:i<n):(behs54 n)[i]?=some (beh54 i):=by simp [behs54,h]
theorem L54 (w0:World) (g gb L:Nat) (v1 v2:Value) (ys:List S54) (hg:Blk w0 g 29 #[.slice (some ⟨gb,0,none⟩) L L,v1,v2]) (hb:Blk w0 gb 54 (rows54 ys)) (hy:ys.length=L) (hl:L≤1000000000) (hne:g≠gb) {y1 y2 y3 y4 y5 y6 y7 y8 y9 y10 y11 y12 y13 y14 y15 y16 y17 y18 y19 y20 y21 y22 y23 y24 y25 y26 y27 y28 y29 y30 y31 y32 y33 y34 y35 y36 y37 y38 y39 y40 y41 y42 y43 y44 y45 y46 y47 y48 y49 y50 y51 y52 y53 y54 y55 y56 y57 y58 y59 y60 y61 y62 y63 y64 y65 y66 y67 y68 y69 y70 y71 y72 y73 y74 y75 y76 y77 y78 y79 y80 y81 y82 y83 y84 y85 y86 y87 y88 y89 y90 y91 y92 y93 y94 y95 y96 y97 y98 y99 y100 y101 y102 y103 y104 y105 y106 y107 y108 y109 y110 y111 y112 y113 y114 y115 y116 y117 y118 y119 y120 y121 y122 y123 y124 y125 y126 y127 y128 y129 y130 y131 y132 y133 y134 y135 y136 y137 y138 y139 y140 y141 y142 y143 y144 y145 y146 y147 y148 y149 y150 y151 y152 y153 y154 y155 y156 y157 y158 y159 y160 y161 y162 y163 y164 y165 y166:Value} :
  Code.wp Try.prog (left (postC 4 (Try.f21.body.getD .skip))) (Norm fun a' W=>∃ (e5 e68 e69 e70 e71 e72 e73 e74 e75 e76 e77 e78 e79 e80 e81 e82 e83 e84:Value),a'={ tmps:=#[(.pointer (some ⟨g,0,none⟩)),y1,y2,y3,y4,e5,y6,y7,y8,y9,y10,y11,y12,y13,y14,y15,y16,y17,y18,y19,y20,y21,y22,y23,y24,y25,y26,y27,y28,y29,y30,y31,y32,y33,y34,y35,y36,y37,y38,y39,y40,y41,y42,y43,y44,y45,y46,y47,y48,y49,y50,y51,y52,y53,y54,y55,y56,y57,y58,y59,y60,y61,y62,y63,y64,y65,y66,y67,e68,e69,e70,e71,e72,e73,e74,e75,e76,e77,e78,e79,e80,e81,e82,e83,e84,y85,y86,y87,y88,y89,y90,y91,y92,y93,y94,y95,y96,y97,y98,y99,y100,y101,y102,y103,y104,y105,y106,y107,y108,y109,y110,y111,y112,y113,y114,y115,y116,y117,y118,y119,y120,y121,y122,y123,y124,y125,y126,y127,y128,y129,y130,y131,y132,y133,y134,y135,y136,y137,y138,y139,y140,y141,y142,y143,y144,y145,y146,y147,y148,y149,y150,y151,y152,y153,y154,y155,y156,y157,y158,y159,y160,y161,y162,y163,y164,y165,y166],defers:=[] }∧Hid (Blk W g 29 #[.slice (some ⟨gb,0,none⟩) L L,v1,v2]∧Blk W gb 54 (rows54 (behs54 L))∧Ch w0 W (fun k=>k=gb))) { tmps:=#[(.pointer (some ⟨g,0,none⟩)),y1,y2,y3,y4,y5,y6,y7,y8,y9,y10,y11,y12,y13,y14,y15,y16,y17,y18,y19,y20,y21,y22,y23,y24,y25,y26,y27,y28,y29,y30,y31,y32,y33,y34,y35,y36,y37,y38,y39,y40,y41,y42,y43,y44,y45,y46,y47,y48,y49,y50,y51,y52,y53,y54,y55,y56,y57,y58,y59,y60,y61,y62,y63,y64,y65,y66,y67,y68,y69,y70,y71,y72,y73,y74,y75,y76,y77,y78,y79,y80,y81,y82,y83,y84,y85,y86,y87,y88,y89,y90,y91,y92,y93,y94,y95,y96,y97,y98,y99,y100,y101,y102,y103,y104,y105,y106,y107,y108,y109,y110,y111,y112,y113,y114,y115,y116,y117,y118,y119,y120,y121,y122,y123,y124,y125,y126,y127,y128,y129,y130,y131,y132,y133,y134,y135,y136,y137,y138,y139,y140,y141,y142,y143,y144,y145,y146,y147,y148,y149,y150,y151,y152,y153,y154,y155,y156,y157,y158,y159,y160,y161,y162,y163,y164,y165,y166],defers:=[] } w0:=by
 have HG:=Lib.hid hg
 have HB:=Lib.hid hb
 have HY:=Lib.hid hy
 have HN:=Lib.hid hne
 clear hg hb hy hne
 unfold Try.f21
 dsimp only [Option.getD,postC,left]
 go_wp2
 go_loopw [5] (fun iv wr=>∃ (k:Nat) (zs:List S54),k≤L∧iv=.int .i64 (k:Int)∧Hid (zs.length=L)∧Hid (Blk wr g 29 #[.slice (some ⟨gb,0,none⟩) L L,v1,v2])∧Hid (Blk wr gb 54 (rows54 zs))∧Hid (zs.take k=(behs54 L).take k)∧Hid (Ch w0 wr (fun k=>k=gb))) (fun iv _=>L - (RowKit.intOf iv).toNat)
 case atStart=>exact ⟨0,ys,Nat.zero_le _,rfl,HY,HG,HB,Lib.hid rfl,Lib.hid (Ch.refl _ _)⟩
 case round =>
  obtain ⟨k,zs,hk,rfl,hZ,hG,hB,hT,hC⟩:=hrel
  clear HG HB HY
  have gl:=hG.out.cell 0
  simp only [List.getElem?_toArray,List.getElem?_cons_zero,List.getElem?_cons_succ] at gl
  by_cases hlt:k<L
  ·have hkl:k<zs.length:=by rw [hZ.out];exact hlt
   have HKL:=Lib.hid hkl
   clear hkl
   obtain ⟨x0,x1,x2,x3,x4⟩:=hB.out.at54 k HKL.out
   have z0:=hB.out.frozen (k*5)
   have z1:=hB.out.frozen (k*5+1)
   have z2:=hB.out.frozen (k*5+2)
   have z3:=hB.out.frozen (k*5+3)
   have z4:=hB.out.frozen (k*5+4)
   go_wp2
   go_roundw
   case rel=>exact ⟨k+1,zs.set k (beh54 k),by omega,by go_num,Lib.hid (by rw [List.length_set];exact hZ.out),Lib.hid (((((hG.out.far (p:=⟨gb,k*5,none⟩) (fun e=>HN.out e.symm) _).far (p:=⟨gb,k*5+1,none⟩) (fun e=>HN.out e.symm) _).far (p:=⟨gb,k*5+2,none⟩) (fun e=>HN.out e.symm) _).far (p:=⟨gb,k*5+3,none⟩) (fun e=>HN.out e.symm) _).far (p:=⟨gb,k*5+4,none⟩) (fun e=>HN.out e.symm) _),Lib.hid (hB.out.put54 k (beh54 k)),Lib.hid (take_set zs (behs54 L) k _ HKL.out hT.out (behs54_at L k hlt)),Lib.hid (((((hC.out.set_ ⟨gb,k*5,none⟩ _ (.inl rfl)).set_ ⟨gb,k*5+1,none⟩ _ (.inl rfl)).set_ ⟨gb,k*5+2,none⟩ _ (.inl rfl)).set_ ⟨gb,k*5+3,none⟩ _ (.inl rfl)).set_ ⟨gb,k*5+4,none⟩ _ (.inl rfl))⟩
   case measure=>simp [RowKit.intOf];omega
  ·obtain rfl:k=L:=by omega
   have hzb:zs=behs54 k:=by
    have h:=hT.out
    rw [List.take_of_length_le (by rw [hZ.out];omega),List.take_of_length_le (by rw [behs54_length];omega)] at h
    exact h
   go_wp2
   refine Norm.mk ?_
   exact ⟨_,_,_,_,_,_,_,_,_,_,_,_,_,_,_,_,_,_, rfl,Lib.hid ⟨hG.out,by rw [← hzb];exact hB.out,hC.out⟩⟩
def beh68 (i:Int):S68:=⟨⟨#[98,101,104,105,110,100]⟩,0,i,0⟩
def behs68 (n:Nat):List S68:=(List.range n).map fun (i:Nat)=>beh68 (i:Int)
theorem behs68_length (n:Nat):(behs68 n).length=n:=by simp [behs68]
theorem behs68_at (n i:Nat) (h:i<n):(behs68 n)[i]?=some (beh68 i):=by simp [behs68,h]
theorem L68 (w0:World) (g gb L:Nat) (v0 v2:Value) (ys:List S68) (hg:Blk w0 g 29 #[v0,.slice (some ⟨gb,0,none⟩) L L,v2]) (hb:Blk w0 gb 68 (rows68 ys)) (hy:ys.length=L) (hl:L≤1000000000) (hne:g≠gb) {y1 y2 y3 y4 y5 y6 y7 y8 y9 y10 y11 y12 y13 y14 y15 y16 y17 y18 y19 y20 y21 y22 y23 y24 y25 y26 y27 y28 y29 y30 y31 y32 y33 y34 y35 y36 y37 y38 y39 y40 y41 y42 y43 y44 y45 y46 y47 y48 y49 y50 y51 y52 y53 y54 y55 y56 y57 y58 y59 y60 y61 y62 y63 y64 y65 y66 y67 y68 y69 y70 y71 y72 y73 y74 y75 y76 y77 y78 y79 y80 y81 y82 y83 y84 y85 y86 y87 y88 y89 y90 y91 y92 y93 y94 y95 y96 y97 y98 y99 y100 y101 y102 y103 y104 y105 y106 y107 y108 y109 y110 y111 y112 y113 y114 y115 y116 y117 y118 y119 y120 y121 y122 y123 y124 y125 y126 y127 y128 y129 y130 y131 y132 y133 y134 y135 y136 y137 y138 y139 y140 y141 y142 y143 y144 y145 y146 y147 y148 y149 y150 y151 y152 y153 y154 y155 y156 y157 y158 y159 y160 y161 y162 y163 y164 y165 y166:Value} :
  Code.wp Try.prog (left (postC 5 (Try.f21.body.getD .skip))) (Norm fun a' W=>∃ (e6 e85 e86 e87 e88 e89 e90 e91 e92 e93 e94 e95 e96 e97 e98 e99 e100 e101:Value),a'={ tmps:=#[(.pointer (some ⟨g,0,none⟩)),y1,y2,y3,y4,y5,e6,y7,y8,y9,y10,y11,y12,y13,y14,y15,y16,y17,y18,y19,y20,y21,y22,y23,y24,y25,y26,y27,y28,y29,y30,y31,y32,y33,y34,y35,y36,y37,y38,y39,y40,y41,y42,y43,y44,y45,y46,y47,y48,y49,y50,y51,y52,y53,y54,y55,y56,y57,y58,y59,y60,y61,y62,y63,y64,y65,y66,y67,y68,y69,y70,y71,y72,y73,y74,y75,y76,y77,y78,y79,y80,y81,y82,y83,y84,e85,e86,e87,e88,e89,e90,e91,e92,e93,e94,e95,e96,e97,e98,e99,e100,e101,y102,y103,y104,y105,y106,y107,y108,y109,y110,y111,y112,y113,y114,y115,y116,y117,y118,y119,y120,y121,y122,y123,y124,y125,y126,y127,y128,y129,y130,y131,y132,y133,y134,y135,y136,y137,y138,y139,y140,y141,y142,y143,y144,y145,y146,y147,y148,y149,y150,y151,y152,y153,y154,y155,y156,y157,y158,y159,y160,y161,y162,y163,y164,y165,y166],defers:=[] }∧Hid (Blk W g 29 #[v0,.slice (some ⟨gb,0,none⟩) L L,v2]∧Blk W gb 68 (rows68 (behs68 L))∧Ch w0 W (fun k=>k=gb))) { tmps:=#[(.pointer (some ⟨g,0,none⟩)),y1,y2,y3,y4,y5,y6,y7,y8,y9,y10,y11,y12,y13,y14,y15,y16,y17,y18,y19,y20,y21,y22,y23,y24,y25,y26,y27,y28,y29,y30,y31,y32,y33,y34,y35,y36,y37,y38,y39,y40,y41,y42,y43,y44,y45,y46,y47,y48,y49,y50,y51,y52,y53,y54,y55,y56,y57,y58,y59,y60,y61,y62,y63,y64,y65,y66,y67,y68,y69,y70,y71,y72,y73,y74,y75,y76,y77,y78,y79,y80,y81,y82,y83,y84,y85,y86,y87,y88,y89,y90,y91,y92,y93,y94,y95,y96,y97,y98,y99,y100,y101,y102,y103,y104,y105,y106,y107,y108,y109,y110,y111,y112,y113,y114,y115,y116,y117,y118,y119,y120,y121,y122,y123,y124,y125,y126,y127,y128,y129,y130,y131,y132,y133,y134,y135,y136,y137,y138,y139,y140,y141,y142,y143,y144,y145,y146,y147,y148,y149,y150,y151,y152,y153,y154,y155,y156,y157,y158,y159,y160,y161,y162,y163,y164,y165,y166],defers:=[] } w0:=by
 have HG:=Lib.hid hg
 have HB:=Lib.hid hb
 have HY:=Lib.hid hy
 have HN:=Lib.hid hne
 clear hg hb hy hne
 unfold Try.f21
 dsimp only [Option.getD,postC,left]
 go_wp2
 go_loopw [6] (fun iv wr=>∃ (k:Nat) (zs:List S68),k≤L∧iv=.int .i64 (k:Int)∧Hid (zs.length=L)∧Hid (Blk wr g 29 #[v0,.slice (some ⟨gb,0,none⟩) L L,v2])∧Hid (Blk wr gb 68 (rows68 zs))∧Hid (zs.take k=(behs68 L).take k)∧Hid (Ch w0 wr (fun k=>k=gb))) (fun iv _=>L - (RowKit.intOf iv).toNat)
 case atStart=>exact ⟨0,ys,Nat.zero_le _,rfl,HY,HG,HB,Lib.hid rfl,Lib.hid (Ch.refl _ _)⟩
 case round =>
  obtain ⟨k,zs,hk,rfl,hZ,hG,hB,hT,hC⟩:=hrel
  clear HG HB HY
  have gl:=hG.out.cell 1
  simp only [List.getElem?_toArray,List.getElem?_cons_zero,List.getElem?_cons_succ] at gl
  by_cases hlt:k<L
  ·have hkl:k<zs.length:=by rw [hZ.out];exact hlt
   have HKL:=Lib.hid hkl
   clear hkl
   obtain ⟨x0,x1,x2,x3⟩:=hB.out.at68 k HKL.out
   have z0:=hB.out.frozen (k*4)
   have z1:=hB.out.frozen (k*4+1)
   have z2:=hB.out.frozen (k*4+2)
   have z3:=hB.out.frozen (k*4+3)
   go_wp2
   go_roundw
   case rel=>exact ⟨k+1,zs.set k (beh68 k),by omega,by go_num,Lib.hid (by rw [List.length_set];exact hZ.out),Lib.hid ((((hG.out.far (p:=⟨gb,k*4,none⟩) (fun e=>HN.out e.symm) _).far (p:=⟨gb,k*4+1,none⟩) (fun e=>HN.out e.symm) _).far (p:=⟨gb,k*4+2,none⟩) (fun e=>HN.out e.symm) _).far (p:=⟨gb,k*4+3,none⟩) (fun e=>HN.out e.symm) _),Lib.hid (hB.out.put68 k (beh68 k)),Lib.hid (take_set zs (behs68 L) k _ HKL.out hT.out (behs68_at L k hlt)),Lib.hid ((((hC.out.set_ ⟨gb,k*4,none⟩ _ (.inl rfl)).set_ ⟨gb,k*4+1,none⟩ _ (.inl rfl)).set_ ⟨gb,k*4+2,none⟩ _ (.inl rfl)).set_ ⟨gb,k*4+3,none⟩ _ (.inl rfl))⟩
   case measure=>simp [RowKit.intOf];omega
  ·obtain rfl:k=L:=by omega
   have hzb:zs=behs68 k:=by
    have h:=hT.out
    rw [List.take_of_length_le (by rw [hZ.out];omega),List.take_of_length_le (by rw [behs68_length];omega)] at h
    exact h
   go_wp2
   refine Norm.mk ?_
   exact ⟨_,_,_,_,_,_,_,_,_,_,_,_,_,_,_,_,_,_, rfl,Lib.hid ⟨hG.out,by rw [← hzb];exact hB.out,hC.out⟩⟩
def beh56 (i:Int):S56:=⟨⟨#[98,101,104,105,110,100]⟩,0,i,0,0⟩
def behs56 (n:Nat):List S56:=(List.range n).map fun (i:Nat)=>beh56 (i:Int)
theorem behs56_length (n:Nat):(behs56 n).length=n:=by simp [behs56]
theorem behs56_at (n i:Nat) (h:i<n):(behs56 n)[i]?=some (beh56 i):=by simp [behs56,h]
theorem L56 (w0:World) (g gb L:Nat) (v0 v1:Value) (ys:List S56) (hg:Blk w0 g 29 #[v0,v1,.slice (some ⟨gb,0,none⟩) L L]) (hb:Blk w0 gb 56 (rows56 ys)) (hy:ys.length=L) (hl:L≤1000000000) (hne:g≠gb) {y1 y2 y3 y4 y5 y6 y7 y8 y9 y10 y11 y12 y13 y14 y15 y16 y17 y18 y19 y20 y21 y22 y23 y24 y25 y26 y27 y28 y29 y30 y31 y32 y33 y34 y35 y36 y37 y38 y39 y40 y41 y42 y43 y44 y45 y46 y47 y48 y49 y50 y51 y52 y53 y54 y55 y56 y57 y58 y59 y60 y61 y62 y63 y64 y65 y66 y67 y68 y69 y70 y71 y72 y73 y74 y75 y76 y77 y78 y79 y80 y81 y82 y83 y84 y85 y86 y87 y88 y89 y90 y91 y92 y93 y94 y95 y96 y97 y98 y99 y100 y101 y102 y103 y104 y105 y106 y107 y108 y109 y110 y111 y112 y113 y114 y115 y116 y117 y118 y119 y120 y121 y122 y123 y124 y125 y126 y127 y128 y129 y130 y131 y132 y133 y134 y135 y136 y137 y138 y139 y140 y141 y142 y143 y144 y145 y146 y147 y148 y149 y150 y151 y152 y153 y154 y155 y156 y157 y158 y159 y160 y161 y162 y163 y164 y165 y166:Value} :
  Code.wp Try.prog (left (postC 6 (Try.f21.body.getD .skip))) (Norm fun a' W=>∃ (e7 e102 e103 e104 e105 e106 e107 e108 e109 e110 e111 e112 e113 e114 e115 e116 e117 e118:Value),a'={ tmps:=#[(.pointer (some ⟨g,0,none⟩)),y1,y2,y3,y4,y5,y6,e7,y8,y9,y10,y11,y12,y13,y14,y15,y16,y17,y18,y19,y20,y21,y22,y23,y24,y25,y26,y27,y28,y29,y30,y31,y32,y33,y34,y35,y36,y37,y38,y39,y40,y41,y42,y43,y44,y45,y46,y47,y48,y49,y50,y51,y52,y53,y54,y55,y56,y57,y58,y59,y60,y61,y62,y63,y64,y65,y66,y67,y68,y69,y70,y71,y72,y73,y74,y75,y76,y77,y78,y79,y80,y81,y82,y83,y84,y85,y86,y87,y88,y89,y90,y91,y92,y93,y94,y95,y96,y97,y98,y99,y100,y101,e102,e103,e104,e105,e106,e107,e108,e109,e110,e111,e112,e113,e114,e115,e116,e117,e118,y119,y120,y121,y122,y123,y124,y125,y126,y127,y128,y129,y130,y131,y132,y133,y134,y135,y136,y137,y138,y139,y140,y141,y142,y143,y144,y145,y146,y147,y148,y149,y150,y151,y152,y153,y154,y155,y156,y157,y158,y159,y160,y161,y162,y163,y164,y165,y166],defers:=[] }∧Hid (Blk W g 29 #[v0,v1,.slice (some ⟨gb,0,none⟩) L L]∧Blk W gb 56 (rows56 (behs56 L))∧Ch w0 W (fun k=>k=gb))) { tmps:=#[(.pointer (some ⟨g,0,none⟩)),y1,y2,y3,y4,y5,y6,y7,y8,y9,y10,y11,y12,y13,y14,y15,y16,y17,y18,y19,y20,y21,y22,y23,y24,y25,y26,y27,y28,y29,y30,y31,y32,y33,y34,y35,y36,y37,y38,y39,y40,y41,y42,y43,y44,y45,y46,y47,y48,y49,y50,y51,y52,y53,y54,y55,y56,y57,y58,y59,y60,y61,y62,y63,y64,y65,y66,y67,y68,y69,y70,y71,y72,y73,y74,y75,y76,y77,y78,y79,y80,y81,y82,y83,y84,y85,y86,y87,y88,y89,y90,y91,y92,y93,y94,y95,y96,y97,y98,y99,y100,y101,y102,y103,y104,y105,y106,y107,y108,y109,y110,y111,y112,y113,y114,y115,y116,y117,y118,y119,y120,y121,y122,y123,y124,y125,y126,y127,y128,y129,y130,y131,y132,y133,y134,y135,y136,y137,y138,y139,y140,y141,y142,y143,y144,y145,y146,y147,y148,y149,y150,y151,y152,y153,y154,y155,y156,y157,y158,y159,y160,y161,y162,y163,y164,y165,y166],defers:=[] } w0:=by
 have HG:=Lib.hid hg
 have HB:=Lib.hid hb
 have HY:=Lib.hid hy
 have HN:=Lib.hid hne
 clear hg hb hy hne
 unfold Try.f21
 dsimp only [Option.getD,postC,left]
 go_wp2
 go_loopw [7] (fun iv wr=>∃ (k:Nat) (zs:List S56),k≤L∧iv=.int .i64 (k:Int)∧Hid (zs.length=L)∧Hid (Blk wr g 29 #[v0,v1,.slice (some ⟨gb,0,none⟩) L L])∧Hid (Blk wr gb 56 (rows56 zs))∧Hid (zs.take k=(behs56 L).take k)∧Hid (Ch w0 wr (fun k=>k=gb))) (fun iv _=>L - (RowKit.intOf iv).toNat)
 case atStart=>exact ⟨0,ys,Nat.zero_le _,rfl,HY,HG,HB,Lib.hid rfl,Lib.hid (Ch.refl _ _)⟩
 case round =>
  obtain ⟨k,zs,hk,rfl,hZ,hG,hB,hT,hC⟩:=hrel
  clear HG HB HY
  have gl:=hG.out.cell 2
  simp only [List.getElem?_toArray,List.getElem?_cons_zero,List.getElem?_cons_succ] at gl
  by_cases hlt:k<L
  ·have hkl:k<zs.length:=by rw [hZ.out];exact hlt
   have HKL:=Lib.hid hkl
   clear hkl
   obtain ⟨x0,x1,x2,x3,x4⟩:=hB.out.at56 k HKL.out
   have z0:=hB.out.frozen (k*5)
   have z1:=hB.out.frozen (k*5+1)
   have z2:=hB.out.frozen (k*5+2)
   have z3:=hB.out.frozen (k*5+3)
   have z4:=hB.out.frozen (k*5+4)
   go_wp2
   go_roundw
   case rel=>exact ⟨k+1,zs.set k (beh56 k),by omega,by go_num,Lib.hid (by rw [List.length_set];exact hZ.out),Lib.hid (((((hG.out.far (p:=⟨gb,k*5,none⟩) (fun e=>HN.out e.symm) _).far (p:=⟨gb,k*5+1,none⟩) (fun e=>HN.out e.symm) _).far (p:=⟨gb,k*5+2,none⟩) (fun e=>HN.out e.symm) _).far (p:=⟨gb,k*5+3,none⟩) (fun e=>HN.out e.symm) _).far (p:=⟨gb,k*5+4,none⟩) (fun e=>HN.out e.symm) _),Lib.hid (hB.out.put56 k (beh56 k)),Lib.hid (take_set zs (behs56 L) k _ HKL.out hT.out (behs56_at L k hlt)),Lib.hid (((((hC.out.set_ ⟨gb,k*5,none⟩ _ (.inl rfl)).set_ ⟨gb,k*5+1,none⟩ _ (.inl rfl)).set_ ⟨gb,k*5+2,none⟩ _ (.inl rfl)).set_ ⟨gb,k*5+3,none⟩ _ (.inl rfl)).set_ ⟨gb,k*5+4,none⟩ _ (.inl rfl))⟩
   case measure=>simp [RowKit.intOf];omega
  ·obtain rfl:k=L:=by omega
   have hzb:zs=behs56 k:=by
    have h:=hT.out
    rw [List.take_of_length_le (by rw [hZ.out];omega),List.take_of_length_le (by rw [behs56_length];omega)] at h
    exact h
   go_wp2
   refine Norm.mk ?_
   exact ⟨_,_,_,_,_,_,_,_,_,_,_,_,_,_,_,_,_,_, rfl,Lib.hid ⟨hG.out,by rw [← hzb];exact hB.out,hC.out⟩⟩
end Go.Proofs.Ytbeikcckcjadbaa.Ln
end
section
namespace Go.Proofs.Ytbeikcckcjadbaa.Ln
open Go.RowKit Go.Proofs.YtbeikcckcjadbaaW.PrintWords Go.Proofs.Ytbeikcckcjadbaa.PI Go.Proofs.Ytbeikcckcjadbaa.Im
attribute [local go_sem] isSome_setCell
def TR54 (L:Nat) (rs:List S54):List S54:=rs ++ (behs54 L).drop rs.length
theorem TR54_length (L:Nat) (rs:List S54) (h:rs.length≤L):(TR54 L rs).length=L:=by simp [TR54,behs54_length];omega
theorem copied54 (w:World) (gb L c m:Nat) (A:Option Addr) (rs:List S54) (hm:m=rs.length) (hL:m≤L) (hb:Blk w gb 54 (rows54 (behs54 L))) (hc:Kd.C k54 w A m rs) :
  ∃ w2,(Builtin.copy_ #[22,22] 3 #[.slice (some ⟨gb,0,none⟩) L L,.slice A m c]).run Try.prog w=.ok (.int .i64 m) w2∧Blk w2 gb 54 (rows54 (TR54 L rs))∧Ch w w2 (fun k=>k=gb):=by
 have hs:(Try.prog.info? 54).map (·.size)=some 5:=by kernel_rfl
 have hmin:m=Nat.min m L:=by simp only [Nat.min_def];split <;> omega
 have fin:∀ (w2:World),w2=w.setCells gb 0 (flat54 rs)→Blk w2 gb 54 (rows54 (TR54 L rs))∧Ch w w2 (fun k=>k=gb):=by
  rintro w2 rfl
  obtain ⟨cur',h1,h2,h3⟩:=setCells_row (flat54 rs) 0 w (rows54 (behs54 L)) hb (by simp [rows54,flat54_length,behs54_length];omega)
  obtain ⟨s1,s2,s3,s4⟩:=setCells_same gb (flat54 rs) 0 w
  refine ⟨?_,⟨s1,s2,s3,by rw [s4];exact Nat.le_refl _,fun i hi h=>setCells_far (flat54 rs) 0 i h⟩⟩
  have e:cur'=rows54 (TR54 L rs):=by
   apply Array.ext'
   rw [h3]
   simp only [rows54,TR54,List.take_zero,List.nil_append,Nat.zero_add,flat54_length,flat54_append,flat54_drop]
  rw [← e];exact h1
 by_cases h0:m=0
 ·have hrs:rs=[]:=List.eq_nil_of_length_eq_zero (by omega)
  subst hrs
  subst h0
  refine ⟨w,?_,fin w rfl⟩
  cases hq:Try.prog.info? 54 with
  | none=>simp [hq] at hs
  | some i =>
   have hl:∀ (x:Addr),(loadCells x 0).run Try.prog w=.ok #[] w:=fun x=>by simpa using run_loadCells_list (P:=Try.prog) w x [] (by simp)
   cases A <;> simp [Builtin.copy_,run_underlying Try.underlying22,Builtin.lenOf,Builtin.firstCells,sizeOf,typeInfo,hq,storeCells,hl,goInt]
 ·obtain ⟨ad,e,_⟩:=hc.2.2 (by omega)
  subst e
  refine ⟨_,run_copy_sized (P:=Try.prog) w 22 22 3 54 gb 0 L L 5 m ad m c (flat54 rs) Try.underlying22 hs hmin (by rw [flat54_length,Nat.mul_comm];omega) (C_flat54 (by omega) hc) ?_ (fun j _=>by rw [Nat.zero_add];exact hb.frozen j) (flat54_one rs),fin _ rfl⟩
  intro j hj
  rw [flat54_length] at hj
  rw [hb.cell,Nat.zero_add]
  have hlen:j<(flat54 (behs54 L)).length:=by rw [flat54_length,behs54_length];omega
  simp [rows54,hlen]
theorem C54 (w0:World) (g q gb L m c n1 c1 n2 c2:Nat) (A A1 A2:Option Addr) (en:Int) (v1 v2:Value) (rs:List S54) (hm:m=rs.length) (hL:m≤L) (hg:Blk w0 g 29 #[.slice (some ⟨gb,0,none⟩) L L,v1,v2]) (hq:Blk w0 q 26 #[.slice A m c,.slice A1 n1 c1,.slice A2 n2 c2,.int .i64 en]) (hb:Blk w0 gb 54 (rows54 (behs54 L))) (hc:Kd.C k54 w0 A m rs) {y1 y2 y4 y5 y6 y7 y8 y9 y10 y11 y12 y13 y14 y15 y16 y17 y18 y19 y20 y21 y22 y23 y24 y25 y26 y27 y28 y29 y30 y31 y32 y33 y34 y35 y36 y37 y38 y39 y40 y41 y42 y43 y44 y45 y46 y47 y48 y49 y50 y51 y52 y53 y54 y55 y56 y57 y58 y59 y60 y61 y62 y63 y64 y65 y66 y67 y68 y69 y70 y71 y72 y73 y74 y75 y76 y77 y78 y79 y80 y81 y82 y83 y84 y85 y86 y87 y88 y89 y90 y91 y92 y93 y94 y95 y96 y97 y98 y99 y100 y101 y102 y103 y104 y105 y106 y107 y108 y109 y110 y111 y112 y113 y114 y115 y116 y117 y118 y119 y120 y121 y122 y123 y124 y125 y126 y127 y128 y129 y130 y131 y132 y133 y134 y135 y136 y137 y138 y139 y140 y141 y142 y143 y144 y145 y146 y147 y148 y149 y150 y151 y152 y153 y154 y155 y156 y157 y158 y159 y160 y161 y162 y163 y164 y165 y166:Value} :
  Code.wp Try.prog (left (postC 7 (Try.f21.body.getD .skip))) (Norm fun a' W=>∃ (e119 e120 e121 e122 e123 e124 e125:Value),a'={ tmps:=#[(.pointer (some ⟨g,0,none⟩)),y1,y2,(.pointer (some ⟨q,0,none⟩)),y4,y5,y6,y7,y8,y9,y10,y11,y12,y13,y14,y15,y16,y17,y18,y19,y20,y21,y22,y23,y24,y25,y26,y27,y28,y29,y30,y31,y32,y33,y34,y35,y36,y37,y38,y39,y40,y41,y42,y43,y44,y45,y46,y47,y48,y49,y50,y51,y52,y53,y54,y55,y56,y57,y58,y59,y60,y61,y62,y63,y64,y65,y66,y67,y68,y69,y70,y71,y72,y73,y74,y75,y76,y77,y78,y79,y80,y81,y82,y83,y84,y85,y86,y87,y88,y89,y90,y91,y92,y93,y94,y95,y96,y97,y98,y99,y100,y101,y102,y103,y104,y105,y106,y107,y108,y109,y110,y111,y112,y113,y114,y115,y116,y117,y118,e119,e120,e121,e122,e123,e124,e125,y126,y127,y128,y129,y130,y131,y132,y133,y134,y135,y136,y137,y138,y139,y140,y141,y142,y143,y144,y145,y146,y147,y148,y149,y150,y151,y152,y153,y154,y155,y156,y157,y158,y159,y160,y161,y162,y163,y164,y165,y166],defers:=[] }∧Hid (Blk W gb 54 (rows54 (TR54 L rs))∧Ch w0 W (fun k=>k=gb))) { tmps:=#[(.pointer (some ⟨g,0,none⟩)),y1,y2,(.pointer (some ⟨q,0,none⟩)),y4,y5,y6,y7,y8,y9,y10,y11,y12,y13,y14,y15,y16,y17,y18,y19,y20,y21,y22,y23,y24,y25,y26,y27,y28,y29,y30,y31,y32,y33,y34,y35,y36,y37,y38,y39,y40,y41,y42,y43,y44,y45,y46,y47,y48,y49,y50,y51,y52,y53,y54,y55,y56,y57,y58,y59,y60,y61,y62,y63,y64,y65,y66,y67,y68,y69,y70,y71,y72,y73,y74,y75,y76,y77,y78,y79,y80,y81,y82,y83,y84,y85,y86,y87,y88,y89,y90,y91,y92,y93,y94,y95,y96,y97,y98,y99,y100,y101,y102,y103,y104,y105,y106,y107,y108,y109,y110,y111,y112,y113,y114,y115,y116,y117,y118,y119,y120,y121,y122,y123,y124,y125,y126,y127,y128,y129,y130,y131,y132,y133,y134,y135,y136,y137,y138,y139,y140,y141,y142,y143,y144,y145,y146,y147,y148,y149,y150,y151,y152,y153,y154,y155,y156,y157,y158,y159,y160,y161,y162,y163,y164,y165,y166],defers:=[] } w0:=by
 obtain ⟨w2,hcp,q1,q2⟩:=copied54 w0.drew gb L c m A rs hm hL hb (Kd.C_drew hc)
 have gl:=hg.cell 0
 have ql:=hq.cell 0
 simp only [List.getElem?_toArray,List.getElem?_cons_zero,List.getElem?_cons_succ] at gl ql
 have HF:=Lib.hid (show Blk w2 gb 54 (rows54 (TR54 L rs))∧Ch w0 w2 (fun k=>k=gb) from ⟨q1,(Ch.refl w0 _).drew.trans q2 fun _ _ h=>h⟩)
 clear q1 q2 hg hq hb hc hm
 unfold Try.f21
 dsimp only [Option.getD,postC,left]
 go_region
 all_goals
  refine Norm.mk ?_
  exact ⟨_,_,_,_,_,_,_, rfl,HF⟩
def TR68 (L:Nat) (rs:List S68):List S68:=rs ++ (behs68 L).drop rs.length
theorem TR68_length (L:Nat) (rs:List S68) (h:rs.length≤L):(TR68 L rs).length=L:=by simp [TR68,behs68_length];omega
theorem copied68 (w:World) (gb L c m:Nat) (A:Option Addr) (rs:List S68) (hm:m=rs.length) (hL:m≤L) (hb:Blk w gb 68 (rows68 (behs68 L))) (hc:Kd.C k68 w A m rs) :
  ∃ w2,(Builtin.copy_ #[23,23] 3 #[.slice (some ⟨gb,0,none⟩) L L,.slice A m c]).run Try.prog w=.ok (.int .i64 m) w2∧Blk w2 gb 68 (rows68 (TR68 L rs))∧Ch w w2 (fun k=>k=gb):=by
 have hs:(Try.prog.info? 68).map (·.size)=some 4:=by kernel_rfl
 have hmin:m=Nat.min m L:=by simp only [Nat.min_def];split <;> omega
 have fin:∀ (w2:World),w2=w.setCells gb 0 (flat68 rs)→Blk w2 gb 68 (rows68 (TR68 L rs))∧Ch w w2 (fun k=>k=gb):=by
  rintro w2 rfl
  obtain ⟨cur',h1,h2,h3⟩:=setCells_row (flat68 rs) 0 w (rows68 (behs68 L)) hb (by simp [rows68,flat68_length,behs68_length];omega)
  obtain ⟨s1,s2,s3,s4⟩:=setCells_same gb (flat68 rs) 0 w
  refine ⟨?_,⟨s1,s2,s3,by rw [s4];exact Nat.le_refl _,fun i hi h=>setCells_far (flat68 rs) 0 i h⟩⟩
  have e:cur'=rows68 (TR68 L rs):=by
   apply Array.ext'
   rw [h3]
   simp only [rows68,TR68,List.take_zero,List.nil_append,Nat.zero_add,flat68_length,flat68_append,flat68_drop]
  rw [← e];exact h1
 by_cases h0:m=0
 ·have hrs:rs=[]:=List.eq_nil_of_length_eq_zero (by omega)
  subst hrs
  subst h0
  refine ⟨w,?_,fin w rfl⟩
  cases hq:Try.prog.info? 68 with
  | none=>simp [hq] at hs
  | some i =>
   have hl:∀ (x:Addr),(loadCells x 0).run Try.prog w=.ok #[] w:=fun x=>by simpa using run_loadCells_list (P:=Try.prog) w x [] (by simp)
   cases A <;> simp [Builtin.copy_,run_underlying Try.underlying23,Builtin.lenOf,Builtin.firstCells,sizeOf,typeInfo,hq,storeCells,hl,goInt]
 ·obtain ⟨ad,e,_⟩:=hc.2.2 (by omega)
  subst e
  refine ⟨_,run_copy_sized (P:=Try.prog) w 23 23 3 68 gb 0 L L 4 m ad m c (flat68 rs) Try.underlying23 hs hmin (by rw [flat68_length,Nat.mul_comm];omega) (C_flat68 (by omega) hc) ?_ (fun j _=>by rw [Nat.zero_add];exact hb.frozen j) (flat68_one rs),fin _ rfl⟩
  intro j hj
  rw [flat68_length] at hj
  rw [hb.cell,Nat.zero_add]
  have hlen:j<(flat68 (behs68 L)).length:=by rw [flat68_length,behs68_length];omega
  simp [rows68,hlen]
theorem C68 (w0:World) (g q gb L m c n0 c0 n2 c2:Nat) (A A0 A2:Option Addr) (en:Int) (v0 v2:Value) (rs:List S68) (hm:m=rs.length) (hL:m≤L) (hg:Blk w0 g 29 #[v0,.slice (some ⟨gb,0,none⟩) L L,v2]) (hq:Blk w0 q 26 #[.slice A0 n0 c0,.slice A m c,.slice A2 n2 c2,.int .i64 en]) (hb:Blk w0 gb 68 (rows68 (behs68 L))) (hc:Kd.C k68 w0 A m rs) {y1 y2 y4 y5 y6 y7 y8 y9 y10 y11 y12 y13 y14 y15 y16 y17 y18 y19 y20 y21 y22 y23 y24 y25 y26 y27 y28 y29 y30 y31 y32 y33 y34 y35 y36 y37 y38 y39 y40 y41 y42 y43 y44 y45 y46 y47 y48 y49 y50 y51 y52 y53 y54 y55 y56 y57 y58 y59 y60 y61 y62 y63 y64 y65 y66 y67 y68 y69 y70 y71 y72 y73 y74 y75 y76 y77 y78 y79 y80 y81 y82 y83 y84 y85 y86 y87 y88 y89 y90 y91 y92 y93 y94 y95 y96 y97 y98 y99 y100 y101 y102 y103 y104 y105 y106 y107 y108 y109 y110 y111 y112 y113 y114 y115 y116 y117 y118 y119 y120 y121 y122 y123 y124 y125 y126 y127 y128 y129 y130 y131 y132 y133 y134 y135 y136 y137 y138 y139 y140 y141 y142 y143 y144 y145 y146 y147 y148 y149 y150 y151 y152 y153 y154 y155 y156 y157 y158 y159 y160 y161 y162 y163 y164 y165 y166:Value} :
  Code.wp Try.prog (left (postC 8 (Try.f21.body.getD .skip))) (Norm fun a' W=>∃ (e126 e127 e128 e129 e130 e131 e132:Value),a'={ tmps:=#[(.pointer (some ⟨g,0,none⟩)),y1,y2,(.pointer (some ⟨q,0,none⟩)),y4,y5,y6,y7,y8,y9,y10,y11,y12,y13,y14,y15,y16,y17,y18,y19,y20,y21,y22,y23,y24,y25,y26,y27,y28,y29,y30,y31,y32,y33,y34,y35,y36,y37,y38,y39,y40,y41,y42,y43,y44,y45,y46,y47,y48,y49,y50,y51,y52,y53,y54,y55,y56,y57,y58,y59,y60,y61,y62,y63,y64,y65,y66,y67,y68,y69,y70,y71,y72,y73,y74,y75,y76,y77,y78,y79,y80,y81,y82,y83,y84,y85,y86,y87,y88,y89,y90,y91,y92,y93,y94,y95,y96,y97,y98,y99,y100,y101,y102,y103,y104,y105,y106,y107,y108,y109,y110,y111,y112,y113,y114,y115,y116,y117,y118,y119,y120,y121,y122,y123,y124,y125,e126,e127,e128,e129,e130,e131,e132,y133,y134,y135,y136,y137,y138,y139,y140,y141,y142,y143,y144,y145,y146,y147,y148,y149,y150,y151,y152,y153,y154,y155,y156,y157,y158,y159,y160,y161,y162,y163,y164,y165,y166],defers:=[] }∧Hid (Blk W gb 68 (rows68 (TR68 L rs))∧Ch w0 W (fun k=>k=gb))) { tmps:=#[(.pointer (some ⟨g,0,none⟩)),y1,y2,(.pointer (some ⟨q,0,none⟩)),y4,y5,y6,y7,y8,y9,y10,y11,y12,y13,y14,y15,y16,y17,y18,y19,y20,y21,y22,y23,y24,y25,y26,y27,y28,y29,y30,y31,y32,y33,y34,y35,y36,y37,y38,y39,y40,y41,y42,y43,y44,y45,y46,y47,y48,y49,y50,y51,y52,y53,y54,y55,y56,y57,y58,y59,y60,y61,y62,y63,y64,y65,y66,y67,y68,y69,y70,y71,y72,y73,y74,y75,y76,y77,y78,y79,y80,y81,y82,y83,y84,y85,y86,y87,y88,y89,y90,y91,y92,y93,y94,y95,y96,y97,y98,y99,y100,y101,y102,y103,y104,y105,y106,y107,y108,y109,y110,y111,y112,y113,y114,y115,y116,y117,y118,y119,y120,y121,y122,y123,y124,y125,y126,y127,y128,y129,y130,y131,y132,y133,y134,y135,y136,y137,y138,y139,y140,y141,y142,y143,y144,y145,y146,y147,y148,y149,y150,y151,y152,y153,y154,y155,y156,y157,y158,y159,y160,y161,y162,y163,y164,y165,y166],defers:=[] } w0:=by
 obtain ⟨w2,hcp,q1,q2⟩:=copied68 w0.drew gb L c m A rs hm hL hb (Kd.C_drew hc)
 have gl:=hg.cell 1
 have ql:=hq.cell 1
 simp only [List.getElem?_toArray,List.getElem?_cons_zero,List.getElem?_cons_succ] at gl ql
 have HF:=Lib.hid (show Blk w2 gb 68 (rows68 (TR68 L rs))∧Ch w0 w2 (fun k=>k=gb) from ⟨q1,(Ch.refl w0 _).drew.trans q2 fun _ _ h=>h⟩)
 clear q1 q2 hg hq hb hc hm
 unfold Try.f21
 dsimp only [Option.getD,postC,left]
 go_region
 all_goals
  refine Norm.mk ?_
  exact ⟨_,_,_,_,_,_,_, rfl,HF⟩
def TR56 (L:Nat) (rs:List S56):List S56:=rs ++ (behs56 L).drop rs.length
theorem TR56_length (L:Nat) (rs:List S56) (h:rs.length≤L):(TR56 L rs).length=L:=by simp [TR56,behs56_length];omega
theorem copied56 (w:World) (gb L c m:Nat) (A:Option Addr) (rs:List S56) (hm:m=rs.length) (hL:m≤L) (hb:Blk w gb 56 (rows56 (behs56 L))) (hc:Kd.C k56 w A m rs) :
  ∃ w2,(Builtin.copy_ #[24,24] 3 #[.slice (some ⟨gb,0,none⟩) L L,.slice A m c]).run Try.prog w=.ok (.int .i64 m) w2∧Blk w2 gb 56 (rows56 (TR56 L rs))∧Ch w w2 (fun k=>k=gb):=by
 have hs:(Try.prog.info? 56).map (·.size)=some 5:=by kernel_rfl
 have hmin:m=Nat.min m L:=by simp only [Nat.min_def];split <;> omega
 have fin:∀ (w2:World),w2=w.setCells gb 0 (flat56 rs)→Blk w2 gb 56 (rows56 (TR56 L rs))∧Ch w w2 (fun k=>k=gb):=by
  rintro w2 rfl
  obtain ⟨cur',h1,h2,h3⟩:=setCells_row (flat56 rs) 0 w (rows56 (behs56 L)) hb (by simp [rows56,flat56_length,behs56_length];omega)
  obtain ⟨s1,s2,s3,s4⟩:=setCells_same gb (flat56 rs) 0 w
  refine ⟨?_,⟨s1,s2,s3,by rw [s4];exact Nat.le_refl _,fun i hi h=>setCells_far (flat56 rs) 0 i h⟩⟩
  have e:cur'=rows56 (TR56 L rs):=by
   apply Array.ext'
   rw [h3]
   simp only [rows56,TR56,List.take_zero,List.nil_append,Nat.zero_add,flat56_length,flat56_append,flat56_drop]
  rw [← e];exact h1
 by_cases h0:m=0
 ·have hrs:rs=[]:=List.eq_nil_of_length_eq_zero (by omega)
  subst hrs
  subst h0
  refine ⟨w,?_,fin w rfl⟩
  cases hq:Try.prog.info? 56 with
  | none=>simp [hq] at hs
  | some i =>
   have hl:∀ (x:Addr),(loadCells x 0).run Try.prog w=.ok #[] w:=fun x=>by simpa using run_loadCells_list (P:=Try.prog) w x [] (by simp)
   cases A <;> simp [Builtin.copy_,run_underlying Try.underlying24,Builtin.lenOf,Builtin.firstCells,sizeOf,typeInfo,hq,storeCells,hl,goInt]
 ·obtain ⟨ad,e,_⟩:=hc.2.2 (by omega)
  subst e
  refine ⟨_,run_copy_sized (P:=Try.prog) w 24 24 3 56 gb 0 L L 5 m ad m c (flat56 rs) Try.underlying24 hs hmin (by rw [flat56_length,Nat.mul_comm];omega) (C_flat56 (by omega) hc) ?_ (fun j _=>by rw [Nat.zero_add];exact hb.frozen j) (flat56_one rs),fin _ rfl⟩
  intro j hj
  rw [flat56_length] at hj
  rw [hb.cell,Nat.zero_add]
  have hlen:j<(flat56 (behs56 L)).length:=by rw [flat56_length,behs56_length];omega
  simp [rows56,hlen]
theorem C56 (w0:World) (g q gb L m c n0 c0 n1 c1:Nat) (A A0 A1:Option Addr) (en:Int) (v0 v1:Value) (rs:List S56) (hm:m=rs.length) (hL:m≤L) (hg:Blk w0 g 29 #[v0,v1,.slice (some ⟨gb,0,none⟩) L L]) (hq:Blk w0 q 26 #[.slice A0 n0 c0,.slice A1 n1 c1,.slice A m c,.int .i64 en]) (hb:Blk w0 gb 56 (rows56 (behs56 L))) (hc:Kd.C k56 w0 A m rs) {y1 y2 y4 y5 y6 y7 y8 y9 y10 y11 y12 y13 y14 y15 y16 y17 y18 y19 y20 y21 y22 y23 y24 y25 y26 y27 y28 y29 y30 y31 y32 y33 y34 y35 y36 y37 y38 y39 y40 y41 y42 y43 y44 y45 y46 y47 y48 y49 y50 y51 y52 y53 y54 y55 y56 y57 y58 y59 y60 y61 y62 y63 y64 y65 y66 y67 y68 y69 y70 y71 y72 y73 y74 y75 y76 y77 y78 y79 y80 y81 y82 y83 y84 y85 y86 y87 y88 y89 y90 y91 y92 y93 y94 y95 y96 y97 y98 y99 y100 y101 y102 y103 y104 y105 y106 y107 y108 y109 y110 y111 y112 y113 y114 y115 y116 y117 y118 y119 y120 y121 y122 y123 y124 y125 y126 y127 y128 y129 y130 y131 y132 y133 y134 y135 y136 y137 y138 y139 y140 y141 y142 y143 y144 y145 y146 y147 y148 y149 y150 y151 y152 y153 y154 y155 y156 y157 y158 y159 y160 y161 y162 y163 y164 y165 y166:Value} :
  Code.wp Try.prog (left (postC 9 (Try.f21.body.getD .skip))) (Norm fun a' W=>∃ (e133 e134 e135 e136 e137 e138 e139:Value),a'={ tmps:=#[(.pointer (some ⟨g,0,none⟩)),y1,y2,(.pointer (some ⟨q,0,none⟩)),y4,y5,y6,y7,y8,y9,y10,y11,y12,y13,y14,y15,y16,y17,y18,y19,y20,y21,y22,y23,y24,y25,y26,y27,y28,y29,y30,y31,y32,y33,y34,y35,y36,y37,y38,y39,y40,y41,y42,y43,y44,y45,y46,y47,y48,y49,y50,y51,y52,y53,y54,y55,y56,y57,y58,y59,y60,y61,y62,y63,y64,y65,y66,y67,y68,y69,y70,y71,y72,y73,y74,y75,y76,y77,y78,y79,y80,y81,y82,y83,y84,y85,y86,y87,y88,y89,y90,y91,y92,y93,y94,y95,y96,y97,y98,y99,y100,y101,y102,y103,y104,y105,y106,y107,y108,y109,y110,y111,y112,y113,y114,y115,y116,y117,y118,y119,y120,y121,y122,y123,y124,y125,y126,y127,y128,y129,y130,y131,y132,e133,e134,e135,e136,e137,e138,e139,y140,y141,y142,y143,y144,y145,y146,y147,y148,y149,y150,y151,y152,y153,y154,y155,y156,y157,y158,y159,y160,y161,y162,y163,y164,y165,y166],defers:=[] }∧Hid (Blk W gb 56 (rows56 (TR56 L rs))∧Ch w0 W (fun k=>k=gb))) { tmps:=#[(.pointer (some ⟨g,0,none⟩)),y1,y2,(.pointer (some ⟨q,0,none⟩)),y4,y5,y6,y7,y8,y9,y10,y11,y12,y13,y14,y15,y16,y17,y18,y19,y20,y21,y22,y23,y24,y25,y26,y27,y28,y29,y30,y31,y32,y33,y34,y35,y36,y37,y38,y39,y40,y41,y42,y43,y44,y45,y46,y47,y48,y49,y50,y51,y52,y53,y54,y55,y56,y57,y58,y59,y60,y61,y62,y63,y64,y65,y66,y67,y68,y69,y70,y71,y72,y73,y74,y75,y76,y77,y78,y79,y80,y81,y82,y83,y84,y85,y86,y87,y88,y89,y90,y91,y92,y93,y94,y95,y96,y97,y98,y99,y100,y101,y102,y103,y104,y105,y106,y107,y108,y109,y110,y111,y112,y113,y114,y115,y116,y117,y118,y119,y120,y121,y122,y123,y124,y125,y126,y127,y128,y129,y130,y131,y132,y133,y134,y135,y136,y137,y138,y139,y140,y141,y142,y143,y144,y145,y146,y147,y148,y149,y150,y151,y152,y153,y154,y155,y156,y157,y158,y159,y160,y161,y162,y163,y164,y165,y166],defers:=[] } w0:=by
 obtain ⟨w2,hcp,q1,q2⟩:=copied56 w0.drew gb L c m A rs hm hL hb (Kd.C_drew hc)
 have gl:=hg.cell 2
 have ql:=hq.cell 2
 simp only [List.getElem?_toArray,List.getElem?_cons_zero,List.getElem?_cons_succ] at gl ql
 have HF:=Lib.hid (show Blk w2 gb 56 (rows56 (TR56 L rs))∧Ch w0 w2 (fun k=>k=gb) from ⟨q1,(Ch.refl w0 _).drew.trans q2 fun _ _ h=>h⟩)
 clear q1 q2 hg hq hb hc hm
 unfold Try.f21
 dsimp only [Option.getD,postC,left]
 go_region
 all_goals
  refine Norm.mk ?_
  exact ⟨_,_,_,_,_,_,_, rfl,HF⟩
end Go.Proofs.Ytbeikcckcjadbaa.Ln
end
section
namespace Go.Proofs.Ytbeikcckcjadbaa.Ln
open Go.RowKit Go.Proofs.YtbeikcckcjadbaaW.PrintWords Go.Proofs.Ytbeikcckcjadbaa.PI Go.Proofs.Ytbeikcckcjadbaa.Im
attribute [local go_sem] isSome_setCell
theorem R22 (w0:World) (g q r b0 b1 b2 L0 L1 L2 n0 n1 n2 c0 c1 c2:Nat) (A0 A1 A2:Option Addr) (en:Int) (z0 z1 z2 z3:Value) (hg:Blk w0 g 29 #[.slice (some ⟨b0,0,none⟩) L0 L0,.slice (some ⟨b1,0,none⟩) L1 L1,.slice (some ⟨b2,0,none⟩) L2 L2]) (hq:Blk w0 q 26 #[.slice A0 n0 c0,.slice A1 n1 c1,.slice A2 n2 c2,.int .i64 en]) (hr:Blk w0 r 26 #[z0,z1,z2,z3]) (h0:n0≤L0) (h1:n1≤L1) (h2:n2≤L2) {y1 y2 y5 y6 y7 y8 y9 y10 y11 y12 y13 y14 y15 y16 y17 y18 y19 y20 y21 y22 y23 y24 y25 y26 y27 y28 y29 y30 y31 y32 y33 y34 y35 y36 y37 y38 y39 y40 y41 y42 y43 y44 y45 y46 y47 y48 y49 y50 y51 y52 y53 y54 y55 y56 y57 y58 y59 y60 y61 y62 y63 y64 y65 y66 y67 y68 y69 y70 y71 y72 y73 y74 y75 y76 y77 y78 y79 y80 y81 y82 y83 y84 y85 y86 y87 y88 y89 y90 y91 y92 y93 y94 y95 y96 y97 y98 y99 y100 y101 y102 y103 y104 y105 y106 y107 y108 y109 y110 y111 y112 y113 y114 y115 y116 y117 y118 y119 y120 y121 y122 y123 y124 y125 y126 y127 y128 y129 y130 y131 y132 y133 y134 y135 y136 y137 y138 y139 y140 y141 y142 y143 y144 y145 y146 y147 y148 y149 y150 y151 y152 y153 y154 y155 y156 y157 y158 y159 y160 y161 y162 y163 y164 y165 y166:Value} :
  Code.wp Try.prog (left (postC 10 (Try.f21.body.getD .skip))) (Norm fun a' W=>∃ (e140 e141 e142 e143 e144 e145 e146 e147 e148 e149 e150 e151 e152 e153 e154 e155 e156 e157 e158 e159 e160 e161 e162 e163 e164 e165 e166:Value),a'={ tmps:=#[(.pointer (some ⟨g,0,none⟩)),y1,y2,(.pointer (some ⟨q,0,none⟩)),(.pointer (some ⟨r,0,none⟩)),y5,y6,y7,y8,y9,y10,y11,y12,y13,y14,y15,y16,y17,y18,y19,y20,y21,y22,y23,y24,y25,y26,y27,y28,y29,y30,y31,y32,y33,y34,y35,y36,y37,y38,y39,y40,y41,y42,y43,y44,y45,y46,y47,y48,y49,y50,y51,y52,y53,y54,y55,y56,y57,y58,y59,y60,y61,y62,y63,y64,y65,y66,y67,y68,y69,y70,y71,y72,y73,y74,y75,y76,y77,y78,y79,y80,y81,y82,y83,y84,y85,y86,y87,y88,y89,y90,y91,y92,y93,y94,y95,y96,y97,y98,y99,y100,y101,y102,y103,y104,y105,y106,y107,y108,y109,y110,y111,y112,y113,y114,y115,y116,y117,y118,y119,y120,y121,y122,y123,y124,y125,y126,y127,y128,y129,y130,y131,y132,y133,y134,y135,y136,y137,y138,y139,e140,e141,e142,e143,e144,e145,e146,e147,e148,e149,e150,e151,e152,e153,e154,e155,e156,e157,e158,e159,e160,e161,e162,e163,e164,e165,e166],defers:=[] }∧Hid (Blk W r 26 #[.slice (some ⟨b0,0,none⟩) n0 L0,.slice (some ⟨b1,0,none⟩) n1 L1,.slice (some ⟨b2,0,none⟩) n2 L2,.int .i64 en]∧Ch w0 W (fun k=>k=r))) { tmps:=#[(.pointer (some ⟨g,0,none⟩)),y1,y2,(.pointer (some ⟨q,0,none⟩)),(.pointer (some ⟨r,0,none⟩)),y5,y6,y7,y8,y9,y10,y11,y12,y13,y14,y15,y16,y17,y18,y19,y20,y21,y22,y23,y24,y25,y26,y27,y28,y29,y30,y31,y32,y33,y34,y35,y36,y37,y38,y39,y40,y41,y42,y43,y44,y45,y46,y47,y48,y49,y50,y51,y52,y53,y54,y55,y56,y57,y58,y59,y60,y61,y62,y63,y64,y65,y66,y67,y68,y69,y70,y71,y72,y73,y74,y75,y76,y77,y78,y79,y80,y81,y82,y83,y84,y85,y86,y87,y88,y89,y90,y91,y92,y93,y94,y95,y96,y97,y98,y99,y100,y101,y102,y103,y104,y105,y106,y107,y108,y109,y110,y111,y112,y113,y114,y115,y116,y117,y118,y119,y120,y121,y122,y123,y124,y125,y126,y127,y128,y129,y130,y131,y132,y133,y134,y135,y136,y137,y138,y139,y140,y141,y142,y143,y144,y145,y146,y147,y148,y149,y150,y151,y152,y153,y154,y155,y156,y157,y158,y159,y160,y161,y162,y163,y164,y165,y166],defers:=[] } w0:=by
 have g0:=hg.cell 0
 have g1:=hg.cell 1
 have g2:=hg.cell 2
 have q0:=hq.cell 0
 have q1:=hq.cell 1
 have q2:=hq.cell 2
 have q3:=hq.cell 3
 have r0:=hr.cell 0
 have r1:=hr.cell 1
 have r2:=hr.cell 2
 have r3:=hr.cell 3
 have s0:=hr.frozen 0
 have s1:=hr.frozen 1
 have s2:=hr.frozen 2
 have s3:=hr.frozen 3
 simp only [List.getElem?_toArray,List.getElem?_cons_zero,List.getElem?_cons_succ] at g0 g1 g2 q0 q1 q2 q3 r0 r1 r2 r3
 have HR:=Lib.hid hr
 clear hg hq hr
 unfold Try.f21
 dsimp only [Option.getD,postC,left]
 go_still_tail 27,(by kernel_rfl)
 change wpList _ _ _ _ _ w0.drew
 go_wp2
 all_goals
  refine Norm.mk ?_
  exact ⟨_,_,_,_,_,_,_,_,_,_,_,_,_,_,_,_,_,_,_,_,_,_,_,_,_,_,_, rfl,Lib.hid ⟨(((HR.out.set_ 0 _).set_ 1 _).set_ 2 _).set_ 3 _,(((((Ch.refl w0 (fun k=>k=r)).set_ ⟨r,0,none⟩ _ (.inl rfl)).set_ ⟨r,1,none⟩ _ (.inl rfl)).set_ ⟨r,2,none⟩ _ (.inl rfl)).set_ ⟨r,3,none⟩ _ (.inl rfl)).drew⟩⟩
end Go.Proofs.Ytbeikcckcjadbaa.Ln
end
section
namespace Go.Proofs.Ytbeikcckcjadbaa.Ln
open Go.RowKit Go.Proofs.YtbeikcckcjadbaaW.PrintWords Go.Proofs.Ytbeikcckcjadbaa.PI Go.Proofs.Ytbeikcckcjadbaa.Im
attribute [local go_sem] isSome_setCell
theorem Blk.ne {w:World} {a b:Nat} {t u:TypeId} {cs ds:Array Value} (h:Blk w a t cs) (k:Blk w b u ds) (ht:t≠u):a≠b:=blk_ne h k ht
theorem Pl54.far {w:World} {v:Value} {ys:List S54} {a:Nat} {t:TypeId} {cs:Array Value} (h:Pl54 w v ys) (hb:Blk w a t cs) (ht:t≠54):∀ k,v.ownBlock=some k→¬ k=a:=by
 rcases h with ⟨rfl,_⟩|⟨gb,rfl,hg⟩
 ·intro k hk;cases hk
 ·intro k hk
  obtain rfl:gb=k:=Option.some.inj hk
  exact hg.ne hb (Ne.symm ht)
theorem Pl54.blk {w:World} {v:Value} {ys:List S54} (h:Pl54 w v ys) (hn:0<ys.length):∃ gb,v=.slice (some ⟨gb,0,none⟩) ys.length ys.length∧Blk w gb 54 (rows54 ys):=by
 rcases h with ⟨_,rfl⟩|h
 ·exact absurd hn (by simp)
 ·exact h
theorem Pl68.far {w:World} {v:Value} {ys:List S68} {a:Nat} {t:TypeId} {cs:Array Value} (h:Pl68 w v ys) (hb:Blk w a t cs) (ht:t≠68):∀ k,v.ownBlock=some k→¬ k=a:=by
 rcases h with ⟨rfl,_⟩|⟨gb,rfl,hg⟩
 ·intro k hk;cases hk
 ·intro k hk
  obtain rfl:gb=k:=Option.some.inj hk
  exact hg.ne hb (Ne.symm ht)
theorem Pl68.blk {w:World} {v:Value} {ys:List S68} (h:Pl68 w v ys) (hn:0<ys.length):∃ gb,v=.slice (some ⟨gb,0,none⟩) ys.length ys.length∧Blk w gb 68 (rows68 ys):=by
 rcases h with ⟨_,rfl⟩|h
 ·exact absurd hn (by simp)
 ·exact h
theorem Pl56.far {w:World} {v:Value} {ys:List S56} {a:Nat} {t:TypeId} {cs:Array Value} (h:Pl56 w v ys) (hb:Blk w a t cs) (ht:t≠56):∀ k,v.ownBlock=some k→¬ k=a:=by
 rcases h with ⟨rfl,_⟩|⟨gb,rfl,hg⟩
 ·intro k hk;cases hk
 ·intro k hk
  obtain rfl:gb=k:=Option.some.inj hk
  exact hg.ne hb (Ne.symm ht)
theorem Pl56.blk {w:World} {v:Value} {ys:List S56} (h:Pl56 w v ys) (hn:0<ys.length):∃ gb,v=.slice (some ⟨gb,0,none⟩) ys.length ys.length∧Blk w gb 56 (rows56 ys):=by
 rcases h with ⟨_,rfl⟩|h
 ·exact absurd hn (by simp)
 ·exact h
theorem results_c1 {P:Program} {fn:Func} {p:Tmp} {ty:TypeId} (h:fn.results=#[.cell p ty]) (tmps:Array Value) (w:World) (g:Nat) (t:TypeId) (cs:Array Value) (fr:Nat × Nat) (d:TypeDesc)
  (hp:tmps.getD p undef=.pointer (some ⟨g,0,none⟩)) (hg:w.heap[g]?=some (.cells cs t fr))
  (hu:P.underlying ty=some d) (hd:(match d with|.struct _|.array _ _=>true|_=>false)=true) (hi:(P.info? ty).map (·.size)=some cs.size) :
  (results fn tmps).run P w=.ok (.agg cs) w:=by
 have hp':tmps[p]?.getD undef=.pointer (some ⟨g,0,none⟩):=by simpa using hp
 simp [results,h,hp',asAddr,run_loadVar_row w g t ty cs fr d hg hu hd hi]
def Own (g:Nat) (v0 v1 v2:Value) (k:Nat):Prop:=k=g∨v0.ownBlock=some k∨v1.ownBlock=some k∨v2.ownBlock=some k
structure LS (w W:World) (g q r:Nat) (im zr:Array Value) (v0 v1 v2 u0 u1 u2:Value) (a0:List S54) (a1:List S68) (a2:List S56):Prop where
 hd:Blk W g 29 #[u0,u1,u2]
 hq:Blk W q 26 im
 hr:Blk W r 26 zr
 p0:Pl54 W u0 a0
 p1:Pl68 W u1 a1
 p2:Pl56 W u2 a2
 ch:Ch w W (Own g v0 v1 v2)
 n0:∀ k,u0.ownBlock=some k→v0.ownBlock=some k∨w.heap.size≤k
 n1:∀ k,u1.ownBlock=some k→v1.ownBlock=some k∨w.heap.size≤k
 n2:∀ k,u2.ownBlock=some k→v2.ownBlock=some k∨w.heap.size≤k
section
variable {w W W2:World} {g q r:Nat} {im zr:Array Value} {v0 v1 v2 u0 u1 u2:Value} {a0:List S54} {a1:List S68} {a2:List S56}
theorem LS.p54 (h:LS w W g q r im zr v0 v1 v2 u0 u1 u2 a0 a1 a2) {v:Value} {zs:List S54} (hg:Blk W2 g 29 #[v,u1,u2]) (hp:Pl54 W2 v zs) (hc:Ch W W2 (fun k=>k=g)) (hn:∀ k,v.ownBlock=some k→u0.ownBlock=some k∨W.heap.size≤k):LS w W2 g q r im zr v0 v1 v2 v u1 u2 zs a1 a2:=
 ⟨hg,hc.blk h.hq (h.hq.ne h.hd (by decide)),hc.blk h.hr (h.hr.ne h.hd (by decide)),hp,h.p1.ch hc (h.p1.far h.hd (by decide)),h.p2.ch hc (h.p2.far h.hd (by decide)),h.ch.trans hc (fun k _ e=>.inl e),fun k hk=>(hn k hk).elim (h.n0 k) (fun e=>.inr (Nat.le_trans h.ch.size e)),h.n1,h.n2⟩
theorem LS.s54 {b L:Nat} (h:LS w W g q r im zr v0 v1 v2 (.slice (some ⟨b,0,none⟩) L L) u1 u2 a0 a1 a2) {zs ys:List S54} (hb0:Blk W b 54 (rows54 ys)) (hb:Blk W2 b 54 (rows54 zs)) (hl:zs.length=L) (hc:Ch W W2 (fun k=>k=b)):LS w W2 g q r im zr v0 v1 v2 (.slice (some ⟨b,0,none⟩) L L) u1 u2 zs a1 a2:=
 ⟨hc.blk h.hd (h.hd.ne hb0 (by decide)),hc.blk h.hq (h.hq.ne hb0 (by decide)),hc.blk h.hr (h.hr.ne hb0 (by decide)),.inr ⟨b,by rw [hl],hb⟩,h.p1.ch hc (h.p1.far hb0 (by decide)),h.p2.ch hc (h.p2.far hb0 (by decide)),h.ch.trans hc (fun k hk e=>by
  subst e
  exact .inr (.inl ((h.n0 k rfl).elim id fun e=>absurd e (by omega)))),h.n0,h.n1,h.n2⟩
theorem LS.p68 (h:LS w W g q r im zr v0 v1 v2 u0 u1 u2 a0 a1 a2) {v:Value} {zs:List S68} (hg:Blk W2 g 29 #[u0,v,u2]) (hp:Pl68 W2 v zs) (hc:Ch W W2 (fun k=>k=g)) (hn:∀ k,v.ownBlock=some k→u1.ownBlock=some k∨W.heap.size≤k):LS w W2 g q r im zr v0 v1 v2 u0 v u2 a0 zs a2:=
 ⟨hg,hc.blk h.hq (h.hq.ne h.hd (by decide)),hc.blk h.hr (h.hr.ne h.hd (by decide)),h.p0.ch hc (h.p0.far h.hd (by decide)),hp,h.p2.ch hc (h.p2.far h.hd (by decide)),h.ch.trans hc (fun k _ e=>.inl e),h.n0,fun k hk=>(hn k hk).elim (h.n1 k) (fun e=>.inr (Nat.le_trans h.ch.size e)),h.n2⟩
theorem LS.s68 {b L:Nat} (h:LS w W g q r im zr v0 v1 v2 u0 (.slice (some ⟨b,0,none⟩) L L) u2 a0 a1 a2) {zs ys:List S68} (hb0:Blk W b 68 (rows68 ys)) (hb:Blk W2 b 68 (rows68 zs)) (hl:zs.length=L) (hc:Ch W W2 (fun k=>k=b)):LS w W2 g q r im zr v0 v1 v2 u0 (.slice (some ⟨b,0,none⟩) L L) u2 a0 zs a2:=
 ⟨hc.blk h.hd (h.hd.ne hb0 (by decide)),hc.blk h.hq (h.hq.ne hb0 (by decide)),hc.blk h.hr (h.hr.ne hb0 (by decide)),h.p0.ch hc (h.p0.far hb0 (by decide)),.inr ⟨b,by rw [hl],hb⟩,h.p2.ch hc (h.p2.far hb0 (by decide)),h.ch.trans hc (fun k hk e=>by
  subst e
  exact .inr (.inr <| .inl ((h.n1 k rfl).elim id fun e=>absurd e (by omega)))),h.n0,h.n1,h.n2⟩
theorem LS.p56 (h:LS w W g q r im zr v0 v1 v2 u0 u1 u2 a0 a1 a2) {v:Value} {zs:List S56} (hg:Blk W2 g 29 #[u0,u1,v]) (hp:Pl56 W2 v zs) (hc:Ch W W2 (fun k=>k=g)) (hn:∀ k,v.ownBlock=some k→u2.ownBlock=some k∨W.heap.size≤k):LS w W2 g q r im zr v0 v1 v2 u0 u1 v a0 a1 zs:=
 ⟨hg,hc.blk h.hq (h.hq.ne h.hd (by decide)),hc.blk h.hr (h.hr.ne h.hd (by decide)),h.p0.ch hc (h.p0.far h.hd (by decide)),h.p1.ch hc (h.p1.far h.hd (by decide)),hp,h.ch.trans hc (fun k _ e=>.inl e),h.n0,h.n1,fun k hk=>(hn k hk).elim (h.n2 k) (fun e=>.inr (Nat.le_trans h.ch.size e))⟩
theorem LS.s56 {b L:Nat} (h:LS w W g q r im zr v0 v1 v2 u0 u1 (.slice (some ⟨b,0,none⟩) L L) a0 a1 a2) {zs ys:List S56} (hb0:Blk W b 56 (rows56 ys)) (hb:Blk W2 b 56 (rows56 zs)) (hl:zs.length=L) (hc:Ch W W2 (fun k=>k=b)):LS w W2 g q r im zr v0 v1 v2 u0 u1 (.slice (some ⟨b,0,none⟩) L L) a0 a1 zs:=
 ⟨hc.blk h.hd (h.hd.ne hb0 (by decide)),hc.blk h.hq (h.hq.ne hb0 (by decide)),hc.blk h.hr (h.hr.ne hb0 (by decide)),h.p0.ch hc (h.p0.far hb0 (by decide)),h.p1.ch hc (h.p1.far hb0 (by decide)),.inr ⟨b,by rw [hl],hb⟩,h.ch.trans hc (fun k hk e=>by
  subst e
  exact .inr (.inr <| .inr ((h.n2 k rfl).elim id fun e=>absurd e (by omega)))),h.n0,h.n1,h.n2⟩
end
def Laid (w:World) (g:Nat) (v0 v1 v2:Value) (xs:List S54) (fs:List S68) (ts:List S56) (en:Int) (e:Ending) (w':World):Prop:=
 ∃ b0 b1 b2 L0 L1 L2:Nat,e=.returned (.agg #[.slice (some ⟨b0,0,none⟩) xs.length L0,.slice (some ⟨b1,0,none⟩) fs.length L1,.slice (some ⟨b2,0,none⟩) ts.length L2,.int .i64 en]) ∧
  Blk w' g 29 #[.slice (some ⟨b0,0,none⟩) L0 L0,.slice (some ⟨b1,0,none⟩) L1 L1,.slice (some ⟨b2,0,none⟩) L2 L2]∧Blk w' b0 54 (rows54 (TR54 L0 xs))∧Blk w' b1 68 (rows68 (TR68 L1 fs))∧Blk w' b2 56 (rows56 (TR56 L2 ts)) ∧
  (2*xs.length+70≤L0∧L0≤1000000000)∧(2*fs.length+70≤L1∧L1≤1000000000)∧(2*ts.length+70≤L2∧L2≤1000000000) ∧
  Ch w w' (Own g v0 v1 v2)∧((v0.ownBlock=some b0∨w.heap.size≤b0)∧(v1.ownBlock=some b1∨w.heap.size≤b1)∧(v2.ownBlock=some b2∨w.heap.size≤b2))
theorem lay_ (w:World) (g n0 n1 n2 c0 c1 c2:Nat) (A0 A1 A2:Option Addr) (en:Int) (v0 v1 v2:Value) (ys0:List S54) (ys1:List S68) (ys2:List S56) (xs:List S54) (fs:List S68) (ts:List S56) (e0:n0=xs.length) (e1:n1=fs.length) (e2:n2=ts.length)
  (hg:Blk w g 29 #[v0,v1,v2]) (p0:Pl54 w v0 ys0) (p1:Pl68 w v1 ys1) (p2:Pl56 w v2 ys2) (m0:ys0.length≤1000000000) (m1:ys1.length≤1000000000) (m2:ys2.length≤1000000000)
  (h0:Kd.C k54 w A0 n0 xs) (h1:Kd.C k68 w A1 n1 fs) (h2:Kd.C k56 w A2 n2 ts) (f0:Far A0 n0 (Own g v0 v1 v2)) (f1:Far A1 n1 (Own g v0 v1 v2)) (f2:Far A2 n2 (Own g v0 v1 v2)) (k0:n0≤2000000) (k1:n1≤2000000) (k2:n2≤2000000) :
  Calls Try.prog 21 #[.pointer (some ⟨g,0,none⟩),.agg #[.slice A0 n0 c0,.slice A1 n1 c1,.slice A2 n2 c2,.int .i64 en]] w (Laid w g v0 v1 v2 xs fs ts en):=by
 have HE0:=Lib.hid e0
 have HE1:=Lib.hid e1
 have HE2:=Lib.hid e2
 have HG:=Lib.hid hg
 have HP0:=Lib.hid p0
 have HP1:=Lib.hid p1
 have HP2:=Lib.hid p2
 have HC0:=Lib.hid h0
 have HC1:=Lib.hid h1
 have HC2:=Lib.hid h2
 have HF0:=Lib.hid f0
 have HF1:=Lib.hid f1
 have HF2:=Lib.hid f2
 clear e0 e1 e2 hg p0 p1 p2 h0 h1 h2 f0 f1 f2
 go_enter Try.func21,Try.ntmps21
 refine wp_seq_k (fun K hK=>?_)
 have HK:=Lib.hid hK
 clear hK
 go_wp2
 refine HK.out _ _ ?_
 clear HK
 have HS:=Lib.hid (show LS w ((w.alloc (.cells #[.slice A0 n0 c0,.slice A1 n1 c1,.slice A2 n2 c2,.int .i64 en] 26)).alloc (.cells #[.slice none 0 0,.slice none 0 0,.slice none 0 0,.int .i64 0] 26)) g w.heap.size (w.heap.size+1) #[.slice A0 n0 c0,.slice A1 n1 c1,.slice A2 n2 c2,.int .i64 en] #[.slice none 0 0,.slice none 0 0,.slice none 0 0,.int .i64 0] v0 v1 v2 v0 v1 v2 ys0 ys1 ys2 from by
  have hs:(w.alloc (.cells #[.slice A0 n0 c0,.slice A1 n1 c1,.slice A2 n2 c2,.int .i64 en] 26)).heap.size=w.heap.size+1:=World.size_alloc w _
  have hc:Ch w ((w.alloc (.cells #[.slice A0 n0 c0,.slice A1 n1 c1,.slice A2 n2 c2,.int .i64 en] 26)).alloc (.cells #[.slice none 0 0,.slice none 0 0,.slice none 0 0,.int .i64 0] 26)) (fun _=>False):=((Ch.refl w _).alloc _).alloc _
  refine ⟨hc.blk HG.out (fun h=>h),(Blk.new w 26 _).alloc _,?_,HP0.out.ch hc (fun _ _ h=>h),HP1.out.ch hc (fun _ _ h=>h),HP2.out.ch hc (fun _ _ h=>h),hc.mono (fun _ h=>h.elim),fun k hk=>.inl hk,fun k hk=>.inl hk,fun k hk=>.inl hk⟩
  have:=Blk.new (w.alloc (.cells #[.slice A0 n0 c0,.slice A1 n1 c1,.slice A2 n2 c2,.int .i64 en] 26)) 26 #[.slice none 0 0,.slice none 0 0,.slice none 0 0,.int .i64 0]
  rwa [hs] at this)
 refine wp_seq_k (fun K hK=>?_)
 have HK:=Lib.hid hK
 clear hK
 refine Code.wp_mono (Norm.elim ?_) (P54 _ g w.heap.size n0 n1 n2 c0 c1 c2 A0 A1 A2 en _ _ _ _ HS.out.hd HS.out.hq HS.out.p0 k0 m0)
 rintro a' W ⟨e8,e9,e10,e11,e12,e13,e14,e15,e16,e17,e18,e19,e20,e21,e22,e23,e24,e25,e26,e27,rfl,hY⟩
 refine HK.out _ _ ?_
 clear HK
 obtain ⟨x0,zs0,y1,y2,y3,y4,y5,y6⟩:=hY.out
 have HS2:=Lib.hid (HS.out.p54 y1 y2 y5 y6)
 have HL0:=Lib.hid (And.intro y3 y4)
 clear HS hY y1 y2 y3 y4 y5 y6
 have HS:=HS2
 clear HS2
 refine wp_seq_k (fun K hK=>?_)
 have HK:=Lib.hid hK
 clear hK
 refine Code.wp_mono (Norm.elim ?_) (P68 _ g w.heap.size n0 n1 n2 c0 c1 c2 A0 A1 A2 en _ _ _ _ HS.out.hd HS.out.hq HS.out.p1 k1 m1)
 rintro a' W ⟨e28,e29,e30,e31,e32,e33,e34,e35,e36,e37,e38,e39,e40,e41,e42,e43,e44,e45,e46,e47,rfl,hY⟩
 refine HK.out _ _ ?_
 clear HK
 obtain ⟨x1,zs1,y1,y2,y3,y4,y5,y6⟩:=hY.out
 have HS2:=Lib.hid (HS.out.p68 y1 y2 y5 y6)
 have HL1:=Lib.hid (And.intro y3 y4)
 clear HS hY y1 y2 y3 y4 y5 y6
 have HS:=HS2
 clear HS2
 refine wp_seq_k (fun K hK=>?_)
 have HK:=Lib.hid hK
 clear hK
 refine Code.wp_mono (Norm.elim ?_) (P56 _ g w.heap.size n0 n1 n2 c0 c1 c2 A0 A1 A2 en _ _ _ _ HS.out.hd HS.out.hq HS.out.p2 k2 m2)
 rintro a' W ⟨e48,e49,e50,e51,e52,e53,e54,e55,e56,e57,e58,e59,e60,e61,e62,e63,e64,e65,e66,e67,rfl,hY⟩
 refine HK.out _ _ ?_
 clear HK
 obtain ⟨x2,zs2,y1,y2,y3,y4,y5,y6⟩:=hY.out
 have HS2:=Lib.hid (HS.out.p56 y1 y2 y5 y6)
 have HL2:=Lib.hid (And.intro y3 y4)
 clear HS hY y1 y2 y3 y4 y5 y6
 have HS:=HS2
 clear HS2
 obtain ⟨b0,hb0,hbb0⟩:=HS.out.p0.blk (by have:=HL0.out.1;omega)
 obtain ⟨b1,hb1,hbb1⟩:=HS.out.p1.blk (by have:=HL1.out.1;omega)
 obtain ⟨b2,hb2,hbb2⟩:=HS.out.p2.blk (by have:=HL2.out.1;omega)
 obtain ⟨L0,hL0⟩:∃ L,L=zs0.length:=⟨_,rfl⟩
 obtain ⟨L1,hL1⟩:∃ L,L=zs1.length:=⟨_,rfl⟩
 obtain ⟨L2,hL2⟩:∃ L,L=zs2.length:=⟨_,rfl⟩
 rw [← hL0] at hb0
 rw [← hL1] at hb1
 rw [← hL2] at hb2
 subst hb0
 subst hb1
 subst hb2
 have HB0:=Lib.hid hbb0
 have HB1:=Lib.hid hbb1
 have HB2:=Lib.hid hbb2
 have HZ0:=Lib.hid hL0
 have HZ1:=Lib.hid hL1
 have HZ2:=Lib.hid hL2
 have b0l:2*n0+70≤L0∧L0≤1000000000:=by rw [hL0];exact HL0.out
 have b1l:2*n1+70≤L1∧L1≤1000000000:=by rw [hL1];exact HL1.out
 have b2l:2*n2+70≤L2∧L2≤1000000000:=by rw [hL2];exact HL2.out
 clear hbb0 hbb1 hbb2 hL0 hL1 hL2 HL0 HL1 HL2
 refine wp_seq_k (fun K hK=>?_)
 have HK:=Lib.hid hK
 clear hK
 refine Code.wp_mono (Norm.elim ?_) (L54 _ g b0 L0 _ _ _ HS.out.hd HB0.out HZ0.out.symm b0l.2 (HS.out.hd.ne HB0.out (by decide)))
 rintro a' W ⟨e5,e68,e69,e70,e71,e72,e73,e74,e75,e76,e77,e78,e79,e80,e81,e82,e83,e84,rfl,hY⟩
 refine HK.out _ _ ?_
 clear HK
 have HS2:=Lib.hid (HS.out.s54 HB0.out hY.out.2.1 (behs54_length _) hY.out.2.2)
 have HB:=Lib.hid hY.out.2.1
 have HBn1:=Lib.hid (hY.out.2.2.blk HB1.out (HB1.out.ne HB0.out (by decide)))
 have HBn2:=Lib.hid (hY.out.2.2.blk HB2.out (HB2.out.ne HB0.out (by decide)))
 clear HS HB0 hY
 have HS:=HS2
 have HB0:=HB
 clear HS2 HB HB1
 have HB1:=HBn1
 clear HBn1 HB2
 have HB2:=HBn2
 clear HBn2
 refine wp_seq_k (fun K hK=>?_)
 have HK:=Lib.hid hK
 clear hK
 refine Code.wp_mono (Norm.elim ?_) (L68 _ g b1 L1 _ _ _ HS.out.hd HB1.out HZ1.out.symm b1l.2 (HS.out.hd.ne HB1.out (by decide)))
 rintro a' W ⟨e6,e85,e86,e87,e88,e89,e90,e91,e92,e93,e94,e95,e96,e97,e98,e99,e100,e101,rfl,hY⟩
 refine HK.out _ _ ?_
 clear HK
 have HS2:=Lib.hid (HS.out.s68 HB1.out hY.out.2.1 (behs68_length _) hY.out.2.2)
 have HB:=Lib.hid hY.out.2.1
 have HBn0:=Lib.hid (hY.out.2.2.blk HB0.out (HB0.out.ne HB1.out (by decide)))
 have HBn2:=Lib.hid (hY.out.2.2.blk HB2.out (HB2.out.ne HB1.out (by decide)))
 clear HS HB1 hY
 have HS:=HS2
 have HB1:=HB
 clear HS2 HB HB0
 have HB0:=HBn0
 clear HBn0 HB2
 have HB2:=HBn2
 clear HBn2
 refine wp_seq_k (fun K hK=>?_)
 have HK:=Lib.hid hK
 clear hK
 refine Code.wp_mono (Norm.elim ?_) (L56 _ g b2 L2 _ _ _ HS.out.hd HB2.out HZ2.out.symm b2l.2 (HS.out.hd.ne HB2.out (by decide)))
 rintro a' W ⟨e7,e102,e103,e104,e105,e106,e107,e108,e109,e110,e111,e112,e113,e114,e115,e116,e117,e118,rfl,hY⟩
 refine HK.out _ _ ?_
 clear HK
 have HS2:=Lib.hid (HS.out.s56 HB2.out hY.out.2.1 (behs56_length _) hY.out.2.2)
 have HB:=Lib.hid hY.out.2.1
 have HBn0:=Lib.hid (hY.out.2.2.blk HB0.out (HB0.out.ne HB2.out (by decide)))
 have HBn1:=Lib.hid (hY.out.2.2.blk HB1.out (HB1.out.ne HB2.out (by decide)))
 clear HS HB2 hY
 have HS:=HS2
 have HB2:=HB
 clear HS2 HB HB0
 have HB0:=HBn0
 clear HBn0 HB1
 have HB1:=HBn1
 clear HBn1
 refine wp_seq_k (fun K hK=>?_)
 have HK:=Lib.hid hK
 clear hK
 refine Code.wp_mono (Norm.elim ?_) (C54 _ g w.heap.size b0 L0 n0 c0 n1 c1 n2 c2 A0 A1 A2 en _ _ xs HE0.out (by omega) HS.out.hd HS.out.hq HB0.out (C_ch54 HC0.out HS.out.ch HF0.out))
 rintro a' W ⟨e119,e120,e121,e122,e123,e124,e125,rfl,hY⟩
 refine HK.out _ _ ?_
 clear HK
 have HS2:=Lib.hid (HS.out.s54 HB0.out hY.out.1 (TR54_length L0 xs (by have:=HE0.out;omega)) hY.out.2)
 have HB:=Lib.hid hY.out.1
 have HBn1:=Lib.hid (hY.out.2.blk HB1.out (HB1.out.ne HB0.out (by decide)))
 have HBn2:=Lib.hid (hY.out.2.blk HB2.out (HB2.out.ne HB0.out (by decide)))
 clear HS HB0 hY
 have HS:=HS2
 have HB0:=HB
 clear HS2 HB HB1
 have HB1:=HBn1
 clear HBn1 HB2
 have HB2:=HBn2
 clear HBn2
 refine wp_seq_k (fun K hK=>?_)
 have HK:=Lib.hid hK
 clear hK
 refine Code.wp_mono (Norm.elim ?_) (C68 _ g w.heap.size b1 L1 n1 c1 n0 c0 n2 c2 A1 A0 A2 en _ _ fs HE1.out (by omega) HS.out.hd HS.out.hq HB1.out (C_ch68 HC1.out HS.out.ch HF1.out))
 rintro a' W ⟨e126,e127,e128,e129,e130,e131,e132,rfl,hY⟩
 refine HK.out _ _ ?_
 clear HK
 have HS2:=Lib.hid (HS.out.s68 HB1.out hY.out.1 (TR68_length L1 fs (by have:=HE1.out;omega)) hY.out.2)
 have HB:=Lib.hid hY.out.1
 have HBn0:=Lib.hid (hY.out.2.blk HB0.out (HB0.out.ne HB1.out (by decide)))
 have HBn2:=Lib.hid (hY.out.2.blk HB2.out (HB2.out.ne HB1.out (by decide)))
 clear HS HB1 hY
 have HS:=HS2
 have HB1:=HB
 clear HS2 HB HB0
 have HB0:=HBn0
 clear HBn0 HB2
 have HB2:=HBn2
 clear HBn2
 refine wp_seq_k (fun K hK=>?_)
 have HK:=Lib.hid hK
 clear hK
 refine Code.wp_mono (Norm.elim ?_) (C56 _ g w.heap.size b2 L2 n2 c2 n0 c0 n1 c1 A2 A0 A1 en _ _ ts HE2.out (by omega) HS.out.hd HS.out.hq HB2.out (C_ch56 HC2.out HS.out.ch HF2.out))
 rintro a' W ⟨e133,e134,e135,e136,e137,e138,e139,rfl,hY⟩
 refine HK.out _ _ ?_
 clear HK
 have HS2:=Lib.hid (HS.out.s56 HB2.out hY.out.1 (TR56_length L2 ts (by have:=HE2.out;omega)) hY.out.2)
 have HB:=Lib.hid hY.out.1
 have HBn0:=Lib.hid (hY.out.2.blk HB0.out (HB0.out.ne HB2.out (by decide)))
 have HBn1:=Lib.hid (hY.out.2.blk HB1.out (HB1.out.ne HB2.out (by decide)))
 clear HS HB2 hY
 have HS:=HS2
 have HB2:=HB
 clear HS2 HB HB0
 have HB0:=HBn0
 clear HBn0 HB1
 have HB1:=HBn1
 clear HBn1
 refine wp_seq_k (fun K hK=>?_)
 have HK:=Lib.hid hK
 clear hK
 refine Code.wp_mono (Norm.elim ?_) (R22 _ g w.heap.size (w.heap.size+1) b0 b1 b2 L0 L1 L2 n0 n1 n2 c0 c1 c2 A0 A1 A2 en _ _ _ _ HS.out.hd HS.out.hq HS.out.hr (by omega) (by omega) (by omega))
 rintro a' W ⟨e140,e141,e142,e143,e144,e145,e146,e147,e148,e149,e150,e151,e152,e153,e154,e155,e156,e157,e158,e159,e160,e161,e162,e163,e164,e165,e166,rfl,hY⟩
 refine HK.out _ _ ?_
 clear HK
 have hch:Ch w W (Own g v0 v1 v2):=HS.out.ch.trans hY.out.2 (fun k hk e=>by subst e;exact absurd hk (by omega))
 have HCH:=Lib.hid hch
 have hgW:=hY.out.2.blk HS.out.hd (fun e=>by have e2:g=w.heap.size+1:=e;have:=HG.out.lt;omega)
 have tr:∀ {t:TypeId} {cs:Array Value} {b:Nat},(W=W)→t≠26→Blk _ b t cs→Blk W b t cs:=fun _ ht hb=>hY.out.2.blk hb (fun e=>by have e2:_=w.heap.size+1:=e;exact absurd e2 (hb.ne HS.out.hr ht))
 have h0W:=tr rfl (by decide) HB0.out
 have h1W:=tr rfl (by decide) HB1.out
 have h2W:=tr rfl (by decide) HB2.out
 go_wp2
 refine bodyPost_ret (results_c1 rfl _ _ (w.heap.size+1) 26 #[.slice (some ⟨b0,0,none⟩) n0 L0,.slice (some ⟨b1,0,none⟩) n1 L1,.slice (some ⟨b2,0,none⟩) n2 L2,.int .i64 en] (0,0) _ rfl hY.out.1 Try.underlying26 rfl (by kernel_rfl)) rfl ?_
 have e0:=HE0.out
 have e1:=HE1.out
 have e2:=HE2.out
 subst e0
 subst e1
 subst e2
 exact ⟨b0,b1,b2,L0,L1,L2,rfl,hgW,h0W,h1W,h2W,b0l,b1l,b2l,HCH.out,HS.out.n0 b0 rfl,HS.out.n1 b1 rfl,HS.out.n2 b2 rfl⟩
end Go.Proofs.Ytbeikcckcjadbaa.Ln
end
section
namespace Go.Proofs.Ytbeikcckcjadbaa.Ln
open Go.RowKit Go.Proofs.YtbeikcckcjadbaaW.PrintWords Go.Proofs.Ytbeikcckcjadbaa.PI Go.Proofs.Ytbeikcckcjadbaa.Im
attribute [local go_sem] isSome_setCell
theorem behind54 {w:World} {gb L:Nat} {rs:List S54} (hb:Blk w gb 54 (rows54 (TR54 L rs))) (hL:rs.length≤L) (k:Nat) (h0:rs.length≤k) (h1:k<L):w.cell? ⟨gb,k*5,none⟩=some (.int .i64 (-7))∧w.cell? ⟨gb,k*5+1,none⟩=some (.int .i64 0)∧w.cell? ⟨gb,k*5+2,none⟩=some (.int .i64 0)∧w.cell? ⟨gb,k*5+3,none⟩=some (.int .i64 0)∧w.cell? ⟨gb,k*5+4,none⟩=some (.int .i64 (k:Int)):=by
 have hl:k<(TR54 L rs).length:=by rw [TR54_length L rs hL];exact h1
 have hx:(TR54 L rs)[k]=beh54 (k:Int):=by
  apply Option.some.inj
  rw [← List.getElem?_eq_getElem hl]
  unfold TR54
  rw [List.getElem?_append_right h0,List.getElem?_drop,show rs.length+(k - rs.length)=k by omega]
  exact behs54_at L k h1
 have:=hb.at54 k hl
 rw [hx] at this
 exact this
theorem D54 (w0:World) (g q gb L m c n1 c1 n2 c2:Nat) (A A1 A2:Option Addr) (en:Int) (v1 v2:Value) (rs:List S54) (hm:m=rs.length) (hL:m≤L) (hl:L≤1000000000) (hg:Blk w0 g 29 #[.slice (some ⟨gb,0,none⟩) L L,v1,v2]) (hq:Blk w0 q 26 #[.slice A m c,.slice A1 n1 c1,.slice A2 n2 c2,.int .i64 en]) (hb:Blk w0 gb 54 (rows54 (TR54 L rs))) {y1 y2 y4 y6 y7 y8 y9 y10 y11 y12 y13 y14 y15 y16 y17 y18 y19 y20 y21 y22 y23 y24 y25 y26 y27 y28 y29 y30 y31 y32 y33 y34 y35 y36 y37 y38 y39 y40 y41 y42 y43 y44 y45 y46 y47 y48 y49 y50 y51 y52 y53 y54 y55 y56 y57 y58 y59 y60 y61 y62 y63 y64 y65 y66 y67 y68 y69 y70 y71 y72 y73 y74 y75 y76 y77 y78 y79 y80 y81 y82 y83 y84 y85 y86 y87 y88 y89 y90 y91 y92 y93 y94 y95 y96 y97 y98 y99 y100 y101 y102 y103 y104 y105 y106 y107 y108 y109 y110 y111 y112 y113 y114 y115 y116 y117 y118 y119 y120 y121 y122 y123 y124 y125 y126 y127 y128 y129 y130 y131 y132 y133 y134 y135 y136 y137 y138 y139 y140 y141 y142 y143 y144 y145 y146 y147 y148 y149 y150 y151 y152 y153 y154 y155 y156 y157 y158 y159 y160 y161 y162 y163 y164 y165 y166:Value} :
  Code.wp Try.prog (left (postC 2 (Try.f22.body.getD .skip))) (Norm fun a' W=>∃ (e6 e49 e50 e51 e52 e53 e54 e55 e56 e57 e58 e59 e60 e61 e62 e63 e64 e65 e66 e67 e68 e69 e70 e71 e72 e73:Value),a'={ tmps:=#[(.pointer (some ⟨g,0,none⟩)),y1,y2,(.pointer (some ⟨q,0,none⟩)),y4,(.bool true),e6,y7,y8,y9,y10,y11,y12,y13,y14,y15,y16,y17,y18,y19,y20,y21,y22,y23,y24,y25,y26,y27,y28,y29,y30,y31,y32,y33,y34,y35,y36,y37,y38,y39,y40,y41,y42,y43,y44,y45,y46,y47,y48,e49,e50,e51,e52,e53,e54,e55,e56,e57,e58,e59,e60,e61,e62,e63,e64,e65,e66,e67,e68,e69,e70,e71,e72,e73,y74,y75,y76,y77,y78,y79,y80,y81,y82,y83,y84,y85,y86,y87,y88,y89,y90,y91,y92,y93,y94,y95,y96,y97,y98,y99,y100,y101,y102,y103,y104,y105,y106,y107,y108,y109,y110,y111,y112,y113,y114,y115,y116,y117,y118,y119,y120,y121,y122,y123,y124,y125,y126,y127,y128,y129,y130,y131,y132,y133,y134,y135,y136,y137,y138,y139,y140,y141,y142,y143,y144,y145,y146,y147,y148,y149,y150,y151,y152,y153,y154,y155,y156,y157,y158,y159,y160,y161,y162,y163,y164,y165,y166],defers:=[] }∧Hid (Ch w0 W (fun _=>False))) { tmps:=#[(.pointer (some ⟨g,0,none⟩)),y1,y2,(.pointer (some ⟨q,0,none⟩)),y4,(.bool true),y6,y7,y8,y9,y10,y11,y12,y13,y14,y15,y16,y17,y18,y19,y20,y21,y22,y23,y24,y25,y26,y27,y28,y29,y30,y31,y32,y33,y34,y35,y36,y37,y38,y39,y40,y41,y42,y43,y44,y45,y46,y47,y48,y49,y50,y51,y52,y53,y54,y55,y56,y57,y58,y59,y60,y61,y62,y63,y64,y65,y66,y67,y68,y69,y70,y71,y72,y73,y74,y75,y76,y77,y78,y79,y80,y81,y82,y83,y84,y85,y86,y87,y88,y89,y90,y91,y92,y93,y94,y95,y96,y97,y98,y99,y100,y101,y102,y103,y104,y105,y106,y107,y108,y109,y110,y111,y112,y113,y114,y115,y116,y117,y118,y119,y120,y121,y122,y123,y124,y125,y126,y127,y128,y129,y130,y131,y132,y133,y134,y135,y136,y137,y138,y139,y140,y141,y142,y143,y144,y145,y146,y147,y148,y149,y150,y151,y152,y153,y154,y155,y156,y157,y158,y159,y160,y161,y162,y163,y164,y165,y166],defers:=[] } w0:=by
 have HG:=Lib.hid hg
 have HB:=Lib.hid hb
 have HM:=Lib.hid hm
 have ql:=hq.cell 0
 simp only [List.getElem?_toArray,List.getElem?_cons_zero,List.getElem?_cons_succ] at ql
 clear hg hb hm hq
 unfold Try.f22
 dsimp only [Option.getD,postC,left]
 go_wp2
 clear ql
 go_loopw [5,6] (fun bv iv wr=>∃ (k:Nat),m≤k∧k≤L∧bv=.bool true∧iv=.int .i64 (k:Int)∧Hid (Ch w0 wr (fun _=>False))) (fun _ iv _=>L - (RowKit.intOf iv).toNat)
 case atStart=>exact ⟨m,Nat.le_refl _,hL,rfl,rfl,Lib.hid (Ch.refl _ _)⟩
 case round =>
  obtain ⟨k,hk0,hk,rfl,rfl,hC⟩:=hrel
  have gl:=(hC.out.blk HG.out (fun h=>h)).cell 0
  simp only [List.getElem?_toArray,List.getElem?_cons_zero,List.getElem?_cons_succ] at gl
  by_cases hlt:k<L
  ·obtain ⟨x0,x1,x2,x3,x4⟩:=behind54 (hC.out.blk HB.out (fun h=>h)) (by rw [← HM.out];exact hL) k (by rw [← HM.out];exact hk0) hlt
   go_wp2
   go_roundw
   case rel=>exact ⟨k+1,by omega,by omega,by first|rfl|(simp;done),by go_num,hC⟩
   case measure=>simp [RowKit.intOf];omega
  ·obtain rfl:k=L:=by omega
   go_wp2
   refine Norm.mk ?_
   exact ⟨_,_,_,_,_,_,_,_,_,_,_,_,_,_,_,_,_,_,_,_,_,_,_,_,_,_, rfl,hC⟩
theorem behind68 {w:World} {gb L:Nat} {rs:List S68} (hb:Blk w gb 68 (rows68 (TR68 L rs))) (hL:rs.length≤L) (k:Nat) (h0:rs.length≤k) (h1:k<L):w.cell? ⟨gb,k*4,none⟩=some (.string ⟨#[98,101,104,105,110,100]⟩)∧w.cell? ⟨gb,k*4+1,none⟩=some (.int .i64 0)∧w.cell? ⟨gb,k*4+2,none⟩=some (.int .i64 (k:Int))∧w.cell? ⟨gb,k*4+3,none⟩=some (.int .i64 0):=by
 have hl:k<(TR68 L rs).length:=by rw [TR68_length L rs hL];exact h1
 have hx:(TR68 L rs)[k]=beh68 (k:Int):=by
  apply Option.some.inj
  rw [← List.getElem?_eq_getElem hl]
  unfold TR68
  rw [List.getElem?_append_right h0,List.getElem?_drop,show rs.length+(k - rs.length)=k by omega]
  exact behs68_at L k h1
 have:=hb.at68 k hl
 rw [hx] at this
 exact this
theorem D68 (w0:World) (g q gb L m c n0 c0 n2 c2:Nat) (A A0 A2:Option Addr) (en:Int) (v0 v2:Value) (rs:List S68) (hm:m=rs.length) (hL:m≤L) (hl:L≤1000000000) (hg:Blk w0 g 29 #[v0,.slice (some ⟨gb,0,none⟩) L L,v2]) (hq:Blk w0 q 26 #[.slice A0 n0 c0,.slice A m c,.slice A2 n2 c2,.int .i64 en]) (hb:Blk w0 gb 68 (rows68 (TR68 L rs))) {y1 y2 y4 y6 y7 y8 y9 y10 y11 y12 y13 y14 y15 y16 y17 y18 y19 y20 y21 y22 y23 y24 y25 y26 y27 y28 y29 y30 y31 y32 y33 y34 y35 y36 y37 y38 y39 y40 y41 y42 y43 y44 y45 y46 y47 y48 y49 y50 y51 y52 y53 y54 y55 y56 y57 y58 y59 y60 y61 y62 y63 y64 y65 y66 y67 y68 y69 y70 y71 y72 y73 y74 y75 y76 y77 y78 y79 y80 y81 y82 y83 y84 y85 y86 y87 y88 y89 y90 y91 y92 y93 y94 y95 y96 y97 y98 y99 y100 y101 y102 y103 y104 y105 y106 y107 y108 y109 y110 y111 y112 y113 y114 y115 y116 y117 y118 y119 y120 y121 y122 y123 y124 y125 y126 y127 y128 y129 y130 y131 y132 y133 y134 y135 y136 y137 y138 y139 y140 y141 y142 y143 y144 y145 y146 y147 y148 y149 y150 y151 y152 y153 y154 y155 y156 y157 y158 y159 y160 y161 y162 y163 y164 y165 y166:Value} :
  Code.wp Try.prog (left (postC 3 (Try.f22.body.getD .skip))) (Norm fun a' W=>∃ (e7 e74 e75 e76 e77 e78 e79 e80 e81 e82 e83 e84 e85 e86 e87 e88 e89 e90 e91 e92 e93 e94 e95 e96 e97 e98:Value),a'={ tmps:=#[(.pointer (some ⟨g,0,none⟩)),y1,y2,(.pointer (some ⟨q,0,none⟩)),y4,(.bool true),y6,e7,y8,y9,y10,y11,y12,y13,y14,y15,y16,y17,y18,y19,y20,y21,y22,y23,y24,y25,y26,y27,y28,y29,y30,y31,y32,y33,y34,y35,y36,y37,y38,y39,y40,y41,y42,y43,y44,y45,y46,y47,y48,y49,y50,y51,y52,y53,y54,y55,y56,y57,y58,y59,y60,y61,y62,y63,y64,y65,y66,y67,y68,y69,y70,y71,y72,y73,e74,e75,e76,e77,e78,e79,e80,e81,e82,e83,e84,e85,e86,e87,e88,e89,e90,e91,e92,e93,e94,e95,e96,e97,e98,y99,y100,y101,y102,y103,y104,y105,y106,y107,y108,y109,y110,y111,y112,y113,y114,y115,y116,y117,y118,y119,y120,y121,y122,y123,y124,y125,y126,y127,y128,y129,y130,y131,y132,y133,y134,y135,y136,y137,y138,y139,y140,y141,y142,y143,y144,y145,y146,y147,y148,y149,y150,y151,y152,y153,y154,y155,y156,y157,y158,y159,y160,y161,y162,y163,y164,y165,y166],defers:=[] }∧Hid (Ch w0 W (fun _=>False))) { tmps:=#[(.pointer (some ⟨g,0,none⟩)),y1,y2,(.pointer (some ⟨q,0,none⟩)),y4,(.bool true),y6,y7,y8,y9,y10,y11,y12,y13,y14,y15,y16,y17,y18,y19,y20,y21,y22,y23,y24,y25,y26,y27,y28,y29,y30,y31,y32,y33,y34,y35,y36,y37,y38,y39,y40,y41,y42,y43,y44,y45,y46,y47,y48,y49,y50,y51,y52,y53,y54,y55,y56,y57,y58,y59,y60,y61,y62,y63,y64,y65,y66,y67,y68,y69,y70,y71,y72,y73,y74,y75,y76,y77,y78,y79,y80,y81,y82,y83,y84,y85,y86,y87,y88,y89,y90,y91,y92,y93,y94,y95,y96,y97,y98,y99,y100,y101,y102,y103,y104,y105,y106,y107,y108,y109,y110,y111,y112,y113,y114,y115,y116,y117,y118,y119,y120,y121,y122,y123,y124,y125,y126,y127,y128,y129,y130,y131,y132,y133,y134,y135,y136,y137,y138,y139,y140,y141,y142,y143,y144,y145,y146,y147,y148,y149,y150,y151,y152,y153,y154,y155,y156,y157,y158,y159,y160,y161,y162,y163,y164,y165,y166],defers:=[] } w0:=by
 have HG:=Lib.hid hg
 have HB:=Lib.hid hb
 have HM:=Lib.hid hm
 have ql:=hq.cell 1
 simp only [List.getElem?_toArray,List.getElem?_cons_zero,List.getElem?_cons_succ] at ql
 clear hg hb hm hq
 unfold Try.f22
 dsimp only [Option.getD,postC,left]
 go_wp2
 clear ql
 go_loopw [5,7] (fun bv iv wr=>∃ (k:Nat),m≤k∧k≤L∧bv=.bool true∧iv=.int .i64 (k:Int)∧Hid (Ch w0 wr (fun _=>False))) (fun _ iv _=>L - (RowKit.intOf iv).toNat)
 case atStart=>exact ⟨m,Nat.le_refl _,hL,rfl,rfl,Lib.hid (Ch.refl _ _)⟩
 case round =>
  obtain ⟨k,hk0,hk,rfl,rfl,hC⟩:=hrel
  have gl:=(hC.out.blk HG.out (fun h=>h)).cell 1
  simp only [List.getElem?_toArray,List.getElem?_cons_zero,List.getElem?_cons_succ] at gl
  by_cases hlt:k<L
  ·obtain ⟨x0,x1,x2,x3⟩:=behind68 (hC.out.blk HB.out (fun h=>h)) (by rw [← HM.out];exact hL) k (by rw [← HM.out];exact hk0) hlt
   go_wp2
   go_roundw
   case rel=>exact ⟨k+1,by omega,by omega,by first|rfl|(simp;done),by go_num,hC⟩
   case measure=>simp [RowKit.intOf];omega
  ·obtain rfl:k=L:=by omega
   go_wp2
   refine Norm.mk ?_
   exact ⟨_,_,_,_,_,_,_,_,_,_,_,_,_,_,_,_,_,_,_,_,_,_,_,_,_,_, rfl,hC⟩
theorem behind56 {w:World} {gb L:Nat} {rs:List S56} (hb:Blk w gb 56 (rows56 (TR56 L rs))) (hL:rs.length≤L) (k:Nat) (h0:rs.length≤k) (h1:k<L):w.cell? ⟨gb,k*5,none⟩=some (.string ⟨#[98,101,104,105,110,100]⟩)∧w.cell? ⟨gb,k*5+1,none⟩=some (.int .i64 0)∧w.cell? ⟨gb,k*5+2,none⟩=some (.int .i64 (k:Int))∧w.cell? ⟨gb,k*5+3,none⟩=some (.int .i64 0)∧w.cell? ⟨gb,k*5+4,none⟩=some (.int .i64 0):=by
 have hl:k<(TR56 L rs).length:=by rw [TR56_length L rs hL];exact h1
 have hx:(TR56 L rs)[k]=beh56 (k:Int):=by
  apply Option.some.inj
  rw [← List.getElem?_eq_getElem hl]
  unfold TR56
  rw [List.getElem?_append_right h0,List.getElem?_drop,show rs.length+(k - rs.length)=k by omega]
  exact behs56_at L k h1
 have:=hb.at56 k hl
 rw [hx] at this
 exact this
theorem D56 (w0:World) (g q gb L m c n0 c0 n1 c1:Nat) (A A0 A1:Option Addr) (en:Int) (v0 v1:Value) (rs:List S56) (hm:m=rs.length) (hL:m≤L) (hl:L≤1000000000) (hg:Blk w0 g 29 #[v0,v1,.slice (some ⟨gb,0,none⟩) L L]) (hq:Blk w0 q 26 #[.slice A0 n0 c0,.slice A1 n1 c1,.slice A m c,.int .i64 en]) (hb:Blk w0 gb 56 (rows56 (TR56 L rs))) {y1 y2 y4 y6 y7 y8 y9 y10 y11 y12 y13 y14 y15 y16 y17 y18 y19 y20 y21 y22 y23 y24 y25 y26 y27 y28 y29 y30 y31 y32 y33 y34 y35 y36 y37 y38 y39 y40 y41 y42 y43 y44 y45 y46 y47 y48 y49 y50 y51 y52 y53 y54 y55 y56 y57 y58 y59 y60 y61 y62 y63 y64 y65 y66 y67 y68 y69 y70 y71 y72 y73 y74 y75 y76 y77 y78 y79 y80 y81 y82 y83 y84 y85 y86 y87 y88 y89 y90 y91 y92 y93 y94 y95 y96 y97 y98 y99 y100 y101 y102 y103 y104 y105 y106 y107 y108 y109 y110 y111 y112 y113 y114 y115 y116 y117 y118 y119 y120 y121 y122 y123 y124 y125 y126 y127 y128 y129 y130 y131 y132 y133 y134 y135 y136 y137 y138 y139 y140 y141 y142 y143 y144 y145 y146 y147 y148 y149 y150 y151 y152 y153 y154 y155 y156 y157 y158 y159 y160 y161 y162 y163 y164 y165 y166:Value} :
  Code.wp Try.prog (left (postC 4 (Try.f22.body.getD .skip))) (Norm fun a' W=>∃ (e8 e99 e100 e101 e102 e103 e104 e105 e106 e107 e108 e109 e110 e111 e112 e113 e114 e115 e116 e117 e118 e119 e120 e121 e122 e123:Value),a'={ tmps:=#[(.pointer (some ⟨g,0,none⟩)),y1,y2,(.pointer (some ⟨q,0,none⟩)),y4,(.bool true),y6,y7,e8,y9,y10,y11,y12,y13,y14,y15,y16,y17,y18,y19,y20,y21,y22,y23,y24,y25,y26,y27,y28,y29,y30,y31,y32,y33,y34,y35,y36,y37,y38,y39,y40,y41,y42,y43,y44,y45,y46,y47,y48,y49,y50,y51,y52,y53,y54,y55,y56,y57,y58,y59,y60,y61,y62,y63,y64,y65,y66,y67,y68,y69,y70,y71,y72,y73,y74,y75,y76,y77,y78,y79,y80,y81,y82,y83,y84,y85,y86,y87,y88,y89,y90,y91,y92,y93,y94,y95,y96,y97,y98,e99,e100,e101,e102,e103,e104,e105,e106,e107,e108,e109,e110,e111,e112,e113,e114,e115,e116,e117,e118,e119,e120,e121,e122,e123,y124,y125,y126,y127,y128,y129,y130,y131,y132,y133,y134,y135,y136,y137,y138,y139,y140,y141,y142,y143,y144,y145,y146,y147,y148,y149,y150,y151,y152,y153,y154,y155,y156,y157,y158,y159,y160,y161,y162,y163,y164,y165,y166],defers:=[] }∧Hid (Ch w0 W (fun _=>False))) { tmps:=#[(.pointer (some ⟨g,0,none⟩)),y1,y2,(.pointer (some ⟨q,0,none⟩)),y4,(.bool true),y6,y7,y8,y9,y10,y11,y12,y13,y14,y15,y16,y17,y18,y19,y20,y21,y22,y23,y24,y25,y26,y27,y28,y29,y30,y31,y32,y33,y34,y35,y36,y37,y38,y39,y40,y41,y42,y43,y44,y45,y46,y47,y48,y49,y50,y51,y52,y53,y54,y55,y56,y57,y58,y59,y60,y61,y62,y63,y64,y65,y66,y67,y68,y69,y70,y71,y72,y73,y74,y75,y76,y77,y78,y79,y80,y81,y82,y83,y84,y85,y86,y87,y88,y89,y90,y91,y92,y93,y94,y95,y96,y97,y98,y99,y100,y101,y102,y103,y104,y105,y106,y107,y108,y109,y110,y111,y112,y113,y114,y115,y116,y117,y118,y119,y120,y121,y122,y123,y124,y125,y126,y127,y128,y129,y130,y131,y132,y133,y134,y135,y136,y137,y138,y139,y140,y141,y142,y143,y144,y145,y146,y147,y148,y149,y150,y151,y152,y153,y154,y155,y156,y157,y158,y159,y160,y161,y162,y163,y164,y165,y166],defers:=[] } w0:=by
 have HG:=Lib.hid hg
 have HB:=Lib.hid hb
 have HM:=Lib.hid hm
 have ql:=hq.cell 2
 simp only [List.getElem?_toArray,List.getElem?_cons_zero,List.getElem?_cons_succ] at ql
 clear hg hb hm hq
 unfold Try.f22
 dsimp only [Option.getD,postC,left]
 go_wp2
 clear ql
 go_loopw [5,8] (fun bv iv wr=>∃ (k:Nat),m≤k∧k≤L∧bv=.bool true∧iv=.int .i64 (k:Int)∧Hid (Ch w0 wr (fun _=>False))) (fun _ iv _=>L - (RowKit.intOf iv).toNat)
 case atStart=>exact ⟨m,Nat.le_refl _,hL,rfl,rfl,Lib.hid (Ch.refl _ _)⟩
 case round =>
  obtain ⟨k,hk0,hk,rfl,rfl,hC⟩:=hrel
  have gl:=(hC.out.blk HG.out (fun h=>h)).cell 2
  simp only [List.getElem?_toArray,List.getElem?_cons_zero,List.getElem?_cons_succ] at gl
  by_cases hlt:k<L
  ·obtain ⟨x0,x1,x2,x3,x4⟩:=behind56 (hC.out.blk HB.out (fun h=>h)) (by rw [← HM.out];exact hL) k (by rw [← HM.out];exact hk0) hlt
   go_wp2
   go_roundw
   case rel=>exact ⟨k+1,by omega,by omega,by first|rfl|(simp;done),by go_num,hC⟩
   case measure=>simp [RowKit.intOf];omega
  ·obtain rfl:k=L:=by omega
   go_wp2
   refine Norm.mk ?_
   exact ⟨_,_,_,_,_,_,_,_,_,_,_,_,_,_,_,_,_,_,_,_,_,_,_,_,_,_, rfl,hC⟩
theorem W54 (w0:World) (g q gb L m c n1 c1 n2 c2:Nat) (A A1 A2:Option Addr) (en:Int) (v1 v2:Value) (ys:List S54) (hy:ys.length=L) (hL:m≤L) (hl:L≤1000000000) (hg:Blk w0 g 29 #[.slice (some ⟨gb,0,none⟩) L L,v1,v2]) (hq:Blk w0 q 26 #[.slice A m c,.slice A1 n1 c1,.slice A2 n2 c2,.int .i64 en]) (hb:Blk w0 gb 54 (rows54 ys)) {y1 y2 y4 y5 y6 y7 y8 y9 y10 y11 y12 y13 y14 y15 y16 y17 y18 y19 y20 y21 y22 y23 y24 y25 y26 y27 y28 y29 y30 y31 y32 y33 y34 y35 y36 y37 y38 y39 y40 y41 y42 y43 y44 y45 y46 y47 y48 y49 y50 y51 y52 y53 y54 y55 y56 y57 y58 y59 y60 y61 y62 y63 y64 y65 y66 y67 y68 y69 y70 y71 y72 y73 y74 y75 y76 y77 y78 y79 y80 y81 y82 y83 y84 y85 y86 y87 y88 y89 y90 y91 y92 y93 y94 y95 y96 y97 y98 y99 y100 y101 y102 y103 y104 y105 y106 y107 y108 y109 y110 y111 y112 y113 y114 y115 y116 y117 y118 y119 y120 y121 y122 y123 y124 y125 y126 y127 y128 y129 y130 y131 y132 y133 y134 y135 y136 y137 y138 y139 y140 y141 y142 y143 y144 y145 y146 y147 y148 y149 y150 y151 y152 y153 y154 y155 y156 y157 y158 y159 y160 y161 y162 y163 y164 y165 y166:Value} :
  Code.wp Try.prog (left (postC 5 (Try.f22.body.getD .skip))) (Norm fun a' W=>∃ (e9 e124 e125 e126 e127 e128 e129 e130 e131 e132 e133 e134 e135 e136 e137:Value),a'={ tmps:=#[(.pointer (some ⟨g,0,none⟩)),y1,y2,(.pointer (some ⟨q,0,none⟩)),y4,y5,y6,y7,y8,e9,y10,y11,y12,y13,y14,y15,y16,y17,y18,y19,y20,y21,y22,y23,y24,y25,y26,y27,y28,y29,y30,y31,y32,y33,y34,y35,y36,y37,y38,y39,y40,y41,y42,y43,y44,y45,y46,y47,y48,y49,y50,y51,y52,y53,y54,y55,y56,y57,y58,y59,y60,y61,y62,y63,y64,y65,y66,y67,y68,y69,y70,y71,y72,y73,y74,y75,y76,y77,y78,y79,y80,y81,y82,y83,y84,y85,y86,y87,y88,y89,y90,y91,y92,y93,y94,y95,y96,y97,y98,y99,y100,y101,y102,y103,y104,y105,y106,y107,y108,y109,y110,y111,y112,y113,y114,y115,y116,y117,y118,y119,y120,y121,y122,y123,e124,e125,e126,e127,e128,e129,e130,e131,e132,e133,e134,e135,e136,e137,y138,y139,y140,y141,y142,y143,y144,y145,y146,y147,y148,y149,y150,y151,y152,y153,y154,y155,y156,y157,y158,y159,y160,y161,y162,y163,y164,y165,y166],defers:=[] }∧Hid ((∃ zs:List S54,zs.length=L∧Blk W gb 54 (rows54 zs))∧Ch w0 W (fun k=>k=gb))) { tmps:=#[(.pointer (some ⟨g,0,none⟩)),y1,y2,(.pointer (some ⟨q,0,none⟩)),y4,y5,y6,y7,y8,y9,y10,y11,y12,y13,y14,y15,y16,y17,y18,y19,y20,y21,y22,y23,y24,y25,y26,y27,y28,y29,y30,y31,y32,y33,y34,y35,y36,y37,y38,y39,y40,y41,y42,y43,y44,y45,y46,y47,y48,y49,y50,y51,y52,y53,y54,y55,y56,y57,y58,y59,y60,y61,y62,y63,y64,y65,y66,y67,y68,y69,y70,y71,y72,y73,y74,y75,y76,y77,y78,y79,y80,y81,y82,y83,y84,y85,y86,y87,y88,y89,y90,y91,y92,y93,y94,y95,y96,y97,y98,y99,y100,y101,y102,y103,y104,y105,y106,y107,y108,y109,y110,y111,y112,y113,y114,y115,y116,y117,y118,y119,y120,y121,y122,y123,y124,y125,y126,y127,y128,y129,y130,y131,y132,y133,y134,y135,y136,y137,y138,y139,y140,y141,y142,y143,y144,y145,y146,y147,y148,y149,y150,y151,y152,y153,y154,y155,y156,y157,y158,y159,y160,y161,y162,y163,y164,y165,y166],defers:=[] } w0:=by
 have HN:=Lib.hid (Blk.ne hg hb (by decide))
 have HNQ:=Lib.hid (Blk.ne hq hb (by decide))
 have HG:=Lib.hid hg
 have HQ:=Lib.hid hq
 have HB:=Lib.hid hb
 have HY:=Lib.hid hy
 clear hg hb hy hq
 unfold Try.f22
 dsimp only [Option.getD,postC,left]
 go_wp2
 go_loopw [9] (fun iv wr=>∃ (k:Nat) (zs:List S54),k≤m∧iv=.int .i64 (k:Int)∧Hid (zs.length=L)∧Hid (Blk wr g 29 #[.slice (some ⟨gb,0,none⟩) L L,v1,v2])∧Hid (Blk wr q 26 #[.slice A m c,.slice A1 n1 c1,.slice A2 n2 c2,.int .i64 en])∧Hid (Blk wr gb 54 (rows54 zs))∧Hid (Ch w0 wr (fun k=>k=gb))) (fun iv _=>m - (RowKit.intOf iv).toNat)
 case atStart=>exact ⟨0,ys,Nat.zero_le _,rfl,HY,HG,HQ,HB,Lib.hid (Ch.refl _ _)⟩
 case round =>
  obtain ⟨k,zs,hk,rfl,hZ,hG,hQ,hB,hC⟩:=hrel
  clear HG HB HY HQ
  have gl:=hG.out.cell 0
  have ql:=hQ.out.cell 0
  simp only [List.getElem?_toArray,List.getElem?_cons_zero,List.getElem?_cons_succ] at gl ql
  by_cases hlt:k<m
  ·have hkL:k<L:=by omega
   have hkl:k<zs.length:=by rw [hZ.out];exact hkL
   have HKL:=Lib.hid hkl
   clear hkl
   obtain ⟨x0,x1,x2,x3,x4⟩:=hB.out.at54 k HKL.out
   have z0:=hB.out.frozen (k*5)
   have z1:=hB.out.frozen (k*5+1)
   have z2:=hB.out.frozen (k*5+2)
   have z3:=hB.out.frozen (k*5+3)
   have z4:=hB.out.frozen (k*5+4)
   go_wp2
   go_roundw
   case rel=>exact ⟨k+1,zs.set k ⟨-8,0,0,0,0⟩,by omega,by go_num,Lib.hid (by rw [List.length_set];exact hZ.out),Lib.hid (((((hG.out.far (p:=⟨gb,k*5,none⟩) (fun e=>HN.out e.symm) _).far (p:=⟨gb,k*5+1,none⟩) (fun e=>HN.out e.symm) _).far (p:=⟨gb,k*5+2,none⟩) (fun e=>HN.out e.symm) _).far (p:=⟨gb,k*5+3,none⟩) (fun e=>HN.out e.symm) _).far (p:=⟨gb,k*5+4,none⟩) (fun e=>HN.out e.symm) _),Lib.hid (((((hQ.out.far (p:=⟨gb,k*5,none⟩) (fun e=>HNQ.out e.symm) _).far (p:=⟨gb,k*5+1,none⟩) (fun e=>HNQ.out e.symm) _).far (p:=⟨gb,k*5+2,none⟩) (fun e=>HNQ.out e.symm) _).far (p:=⟨gb,k*5+3,none⟩) (fun e=>HNQ.out e.symm) _).far (p:=⟨gb,k*5+4,none⟩) (fun e=>HNQ.out e.symm) _),Lib.hid (hB.out.put54 k ⟨-8,0,0,0,0⟩),Lib.hid (((((hC.out.set_ ⟨gb,k*5,none⟩ _ (.inl rfl)).set_ ⟨gb,k*5+1,none⟩ _ (.inl rfl)).set_ ⟨gb,k*5+2,none⟩ _ (.inl rfl)).set_ ⟨gb,k*5+3,none⟩ _ (.inl rfl)).set_ ⟨gb,k*5+4,none⟩ _ (.inl rfl))⟩
   case measure=>simp [RowKit.intOf];omega
  ·obtain rfl:k=m:=by omega
   go_wp2
   refine Norm.mk ?_
   exact ⟨_,_,_,_,_,_,_,_,_,_,_,_,_,_,_, rfl,Lib.hid ⟨⟨zs,hZ.out,hB.out⟩,hC.out⟩⟩
theorem W68 (w0:World) (g q gb L m c n0 c0 n2 c2:Nat) (A A0 A2:Option Addr) (en:Int) (v0 v2:Value) (ys:List S68) (hy:ys.length=L) (hL:m≤L) (hl:L≤1000000000) (hg:Blk w0 g 29 #[v0,.slice (some ⟨gb,0,none⟩) L L,v2]) (hq:Blk w0 q 26 #[.slice A0 n0 c0,.slice A m c,.slice A2 n2 c2,.int .i64 en]) (hb:Blk w0 gb 68 (rows68 ys)) {y1 y2 y4 y5 y6 y7 y8 y9 y10 y11 y12 y13 y14 y15 y16 y17 y18 y19 y20 y21 y22 y23 y24 y25 y26 y27 y28 y29 y30 y31 y32 y33 y34 y35 y36 y37 y38 y39 y40 y41 y42 y43 y44 y45 y46 y47 y48 y49 y50 y51 y52 y53 y54 y55 y56 y57 y58 y59 y60 y61 y62 y63 y64 y65 y66 y67 y68 y69 y70 y71 y72 y73 y74 y75 y76 y77 y78 y79 y80 y81 y82 y83 y84 y85 y86 y87 y88 y89 y90 y91 y92 y93 y94 y95 y96 y97 y98 y99 y100 y101 y102 y103 y104 y105 y106 y107 y108 y109 y110 y111 y112 y113 y114 y115 y116 y117 y118 y119 y120 y121 y122 y123 y124 y125 y126 y127 y128 y129 y130 y131 y132 y133 y134 y135 y136 y137 y138 y139 y140 y141 y142 y143 y144 y145 y146 y147 y148 y149 y150 y151 y152 y153 y154 y155 y156 y157 y158 y159 y160 y161 y162 y163 y164 y165 y166:Value} :
  Code.wp Try.prog (left (postC 6 (Try.f22.body.getD .skip))) (Norm fun a' W=>∃ (e10 e138 e139 e140 e141 e142 e143 e144 e145 e146 e147 e148 e149 e150 e151:Value),a'={ tmps:=#[(.pointer (some ⟨g,0,none⟩)),y1,y2,(.pointer (some ⟨q,0,none⟩)),y4,y5,y6,y7,y8,y9,e10,y11,y12,y13,y14,y15,y16,y17,y18,y19,y20,y21,y22,y23,y24,y25,y26,y27,y28,y29,y30,y31,y32,y33,y34,y35,y36,y37,y38,y39,y40,y41,y42,y43,y44,y45,y46,y47,y48,y49,y50,y51,y52,y53,y54,y55,y56,y57,y58,y59,y60,y61,y62,y63,y64,y65,y66,y67,y68,y69,y70,y71,y72,y73,y74,y75,y76,y77,y78,y79,y80,y81,y82,y83,y84,y85,y86,y87,y88,y89,y90,y91,y92,y93,y94,y95,y96,y97,y98,y99,y100,y101,y102,y103,y104,y105,y106,y107,y108,y109,y110,y111,y112,y113,y114,y115,y116,y117,y118,y119,y120,y121,y122,y123,y124,y125,y126,y127,y128,y129,y130,y131,y132,y133,y134,y135,y136,y137,e138,e139,e140,e141,e142,e143,e144,e145,e146,e147,e148,e149,e150,e151,y152,y153,y154,y155,y156,y157,y158,y159,y160,y161,y162,y163,y164,y165,y166],defers:=[] }∧Hid ((∃ zs:List S68,zs.length=L∧Blk W gb 68 (rows68 zs))∧Ch w0 W (fun k=>k=gb))) { tmps:=#[(.pointer (some ⟨g,0,none⟩)),y1,y2,(.pointer (some ⟨q,0,none⟩)),y4,y5,y6,y7,y8,y9,y10,y11,y12,y13,y14,y15,y16,y17,y18,y19,y20,y21,y22,y23,y24,y25,y26,y27,y28,y29,y30,y31,y32,y33,y34,y35,y36,y37,y38,y39,y40,y41,y42,y43,y44,y45,y46,y47,y48,y49,y50,y51,y52,y53,y54,y55,y56,y57,y58,y59,y60,y61,y62,y63,y64,y65,y66,y67,y68,y69,y70,y71,y72,y73,y74,y75,y76,y77,y78,y79,y80,y81,y82,y83,y84,y85,y86,y87,y88,y89,y90,y91,y92,y93,y94,y95,y96,y97,y98,y99,y100,y101,y102,y103,y104,y105,y106,y107,y108,y109,y110,y111,y112,y113,y114,y115,y116,y117,y118,y119,y120,y121,y122,y123,y124,y125,y126,y127,y128,y129,y130,y131,y132,y133,y134,y135,y136,y137,y138,y139,y140,y141,y142,y143,y144,y145,y146,y147,y148,y149,y150,y151,y152,y153,y154,y155,y156,y157,y158,y159,y160,y161,y162,y163,y164,y165,y166],defers:=[] } w0:=by
 have HN:=Lib.hid (Blk.ne hg hb (by decide))
 have HNQ:=Lib.hid (Blk.ne hq hb (by decide))
 have HG:=Lib.hid hg
 have HQ:=Lib.hid hq
 have HB:=Lib.hid hb
 have HY:=Lib.hid hy
 clear hg hb hy hq
 unfold Try.f22
 dsimp only [Option.getD,postC,left]
 go_wp2
 go_loopw [10] (fun iv wr=>∃ (k:Nat) (zs:List S68),k≤m∧iv=.int .i64 (k:Int)∧Hid (zs.length=L)∧Hid (Blk wr g 29 #[v0,.slice (some ⟨gb,0,none⟩) L L,v2])∧Hid (Blk wr q 26 #[.slice A0 n0 c0,.slice A m c,.slice A2 n2 c2,.int .i64 en])∧Hid (Blk wr gb 68 (rows68 zs))∧Hid (Ch w0 wr (fun k=>k=gb))) (fun iv _=>m - (RowKit.intOf iv).toNat)
 case atStart=>exact ⟨0,ys,Nat.zero_le _,rfl,HY,HG,HQ,HB,Lib.hid (Ch.refl _ _)⟩
 case round =>
  obtain ⟨k,zs,hk,rfl,hZ,hG,hQ,hB,hC⟩:=hrel
  clear HG HB HY HQ
  have gl:=hG.out.cell 1
  have ql:=hQ.out.cell 1
  simp only [List.getElem?_toArray,List.getElem?_cons_zero,List.getElem?_cons_succ] at gl ql
  by_cases hlt:k<m
  ·have hkL:k<L:=by omega
   have hkl:k<zs.length:=by rw [hZ.out];exact hkL
   have HKL:=Lib.hid hkl
   clear hkl
   obtain ⟨x0,x1,x2,x3⟩:=hB.out.at68 k HKL.out
   have z0:=hB.out.frozen (k*4)
   have z1:=hB.out.frozen (k*4+1)
   have z2:=hB.out.frozen (k*4+2)
   have z3:=hB.out.frozen (k*4+3)
   go_wp2
   go_roundw
   case rel=>exact ⟨k+1,zs.set k ⟨⟨#[109,105,110,101]⟩,0,0,0⟩,by omega,by go_num,Lib.hid (by rw [List.length_set];exact hZ.out),Lib.hid ((((hG.out.far (p:=⟨gb,k*4,none⟩) (fun e=>HN.out e.symm) _).far (p:=⟨gb,k*4+1,none⟩) (fun e=>HN.out e.symm) _).far (p:=⟨gb,k*4+2,none⟩) (fun e=>HN.out e.symm) _).far (p:=⟨gb,k*4+3,none⟩) (fun e=>HN.out e.symm) _),Lib.hid ((((hQ.out.far (p:=⟨gb,k*4,none⟩) (fun e=>HNQ.out e.symm) _).far (p:=⟨gb,k*4+1,none⟩) (fun e=>HNQ.out e.symm) _).far (p:=⟨gb,k*4+2,none⟩) (fun e=>HNQ.out e.symm) _).far (p:=⟨gb,k*4+3,none⟩) (fun e=>HNQ.out e.symm) _),Lib.hid (hB.out.put68 k ⟨⟨#[109,105,110,101]⟩,0,0,0⟩),Lib.hid ((((hC.out.set_ ⟨gb,k*4,none⟩ _ (.inl rfl)).set_ ⟨gb,k*4+1,none⟩ _ (.inl rfl)).set_ ⟨gb,k*4+2,none⟩ _ (.inl rfl)).set_ ⟨gb,k*4+3,none⟩ _ (.inl rfl))⟩
   case measure=>simp [RowKit.intOf];omega
  ·obtain rfl:k=m:=by omega
   go_wp2
   refine Norm.mk ?_
   exact ⟨_,_,_,_,_,_,_,_,_,_,_,_,_,_,_, rfl,Lib.hid ⟨⟨zs,hZ.out,hB.out⟩,hC.out⟩⟩
theorem W56 (w0:World) (g q gb L m c n0 c0 n1 c1:Nat) (A A0 A1:Option Addr) (en:Int) (v0 v1:Value) (ys:List S56) (hy:ys.length=L) (hL:m≤L) (hl:L≤1000000000) (hg:Blk w0 g 29 #[v0,v1,.slice (some ⟨gb,0,none⟩) L L]) (hq:Blk w0 q 26 #[.slice A0 n0 c0,.slice A1 n1 c1,.slice A m c,.int .i64 en]) (hb:Blk w0 gb 56 (rows56 ys)) {y1 y2 y4 y5 y6 y7 y8 y9 y10 y11 y12 y13 y14 y15 y16 y17 y18 y19 y20 y21 y22 y23 y24 y25 y26 y27 y28 y29 y30 y31 y32 y33 y34 y35 y36 y37 y38 y39 y40 y41 y42 y43 y44 y45 y46 y47 y48 y49 y50 y51 y52 y53 y54 y55 y56 y57 y58 y59 y60 y61 y62 y63 y64 y65 y66 y67 y68 y69 y70 y71 y72 y73 y74 y75 y76 y77 y78 y79 y80 y81 y82 y83 y84 y85 y86 y87 y88 y89 y90 y91 y92 y93 y94 y95 y96 y97 y98 y99 y100 y101 y102 y103 y104 y105 y106 y107 y108 y109 y110 y111 y112 y113 y114 y115 y116 y117 y118 y119 y120 y121 y122 y123 y124 y125 y126 y127 y128 y129 y130 y131 y132 y133 y134 y135 y136 y137 y138 y139 y140 y141 y142 y143 y144 y145 y146 y147 y148 y149 y150 y151 y152 y153 y154 y155 y156 y157 y158 y159 y160 y161 y162 y163 y164 y165 y166:Value} :
  Code.wp Try.prog (left (postC 7 (Try.f22.body.getD .skip))) (Norm fun a' W=>∃ (e11 e152 e153 e154 e155 e156 e157 e158 e159 e160 e161 e162 e163 e164 e165:Value),a'={ tmps:=#[(.pointer (some ⟨g,0,none⟩)),y1,y2,(.pointer (some ⟨q,0,none⟩)),y4,y5,y6,y7,y8,y9,y10,e11,y12,y13,y14,y15,y16,y17,y18,y19,y20,y21,y22,y23,y24,y25,y26,y27,y28,y29,y30,y31,y32,y33,y34,y35,y36,y37,y38,y39,y40,y41,y42,y43,y44,y45,y46,y47,y48,y49,y50,y51,y52,y53,y54,y55,y56,y57,y58,y59,y60,y61,y62,y63,y64,y65,y66,y67,y68,y69,y70,y71,y72,y73,y74,y75,y76,y77,y78,y79,y80,y81,y82,y83,y84,y85,y86,y87,y88,y89,y90,y91,y92,y93,y94,y95,y96,y97,y98,y99,y100,y101,y102,y103,y104,y105,y106,y107,y108,y109,y110,y111,y112,y113,y114,y115,y116,y117,y118,y119,y120,y121,y122,y123,y124,y125,y126,y127,y128,y129,y130,y131,y132,y133,y134,y135,y136,y137,y138,y139,y140,y141,y142,y143,y144,y145,y146,y147,y148,y149,y150,y151,e152,e153,e154,e155,e156,e157,e158,e159,e160,e161,e162,e163,e164,e165,y166],defers:=[] }∧Hid ((∃ zs:List S56,zs.length=L∧Blk W gb 56 (rows56 zs))∧Ch w0 W (fun k=>k=gb))) { tmps:=#[(.pointer (some ⟨g,0,none⟩)),y1,y2,(.pointer (some ⟨q,0,none⟩)),y4,y5,y6,y7,y8,y9,y10,y11,y12,y13,y14,y15,y16,y17,y18,y19,y20,y21,y22,y23,y24,y25,y26,y27,y28,y29,y30,y31,y32,y33,y34,y35,y36,y37,y38,y39,y40,y41,y42,y43,y44,y45,y46,y47,y48,y49,y50,y51,y52,y53,y54,y55,y56,y57,y58,y59,y60,y61,y62,y63,y64,y65,y66,y67,y68,y69,y70,y71,y72,y73,y74,y75,y76,y77,y78,y79,y80,y81,y82,y83,y84,y85,y86,y87,y88,y89,y90,y91,y92,y93,y94,y95,y96,y97,y98,y99,y100,y101,y102,y103,y104,y105,y106,y107,y108,y109,y110,y111,y112,y113,y114,y115,y116,y117,y118,y119,y120,y121,y122,y123,y124,y125,y126,y127,y128,y129,y130,y131,y132,y133,y134,y135,y136,y137,y138,y139,y140,y141,y142,y143,y144,y145,y146,y147,y148,y149,y150,y151,y152,y153,y154,y155,y156,y157,y158,y159,y160,y161,y162,y163,y164,y165,y166],defers:=[] } w0:=by
 have HN:=Lib.hid (Blk.ne hg hb (by decide))
 have HNQ:=Lib.hid (Blk.ne hq hb (by decide))
 have HG:=Lib.hid hg
 have HQ:=Lib.hid hq
 have HB:=Lib.hid hb
 have HY:=Lib.hid hy
 clear hg hb hy hq
 unfold Try.f22
 dsimp only [Option.getD,postC,left]
 go_wp2
 go_loopw [11] (fun iv wr=>∃ (k:Nat) (zs:List S56),k≤m∧iv=.int .i64 (k:Int)∧Hid (zs.length=L)∧Hid (Blk wr g 29 #[v0,v1,.slice (some ⟨gb,0,none⟩) L L])∧Hid (Blk wr q 26 #[.slice A0 n0 c0,.slice A1 n1 c1,.slice A m c,.int .i64 en])∧Hid (Blk wr gb 56 (rows56 zs))∧Hid (Ch w0 wr (fun k=>k=gb))) (fun iv _=>m - (RowKit.intOf iv).toNat)
 case atStart=>exact ⟨0,ys,Nat.zero_le _,rfl,HY,HG,HQ,HB,Lib.hid (Ch.refl _ _)⟩
 case round =>
  obtain ⟨k,zs,hk,rfl,hZ,hG,hQ,hB,hC⟩:=hrel
  clear HG HB HY HQ
  have gl:=hG.out.cell 2
  have ql:=hQ.out.cell 2
  simp only [List.getElem?_toArray,List.getElem?_cons_zero,List.getElem?_cons_succ] at gl ql
  by_cases hlt:k<m
  ·have hkL:k<L:=by omega
   have hkl:k<zs.length:=by rw [hZ.out];exact hkL
   have HKL:=Lib.hid hkl
   clear hkl
   obtain ⟨x0,x1,x2,x3,x4⟩:=hB.out.at56 k HKL.out
   have z0:=hB.out.frozen (k*5)
   have z1:=hB.out.frozen (k*5+1)
   have z2:=hB.out.frozen (k*5+2)
   have z3:=hB.out.frozen (k*5+3)
   have z4:=hB.out.frozen (k*5+4)
   go_wp2
   go_roundw
   case rel=>exact ⟨k+1,zs.set k ⟨⟨#[109,105,110,101]⟩,0,0,0,0⟩,by omega,by go_num,Lib.hid (by rw [List.length_set];exact hZ.out),Lib.hid (((((hG.out.far (p:=⟨gb,k*5,none⟩) (fun e=>HN.out e.symm) _).far (p:=⟨gb,k*5+1,none⟩) (fun e=>HN.out e.symm) _).far (p:=⟨gb,k*5+2,none⟩) (fun e=>HN.out e.symm) _).far (p:=⟨gb,k*5+3,none⟩) (fun e=>HN.out e.symm) _).far (p:=⟨gb,k*5+4,none⟩) (fun e=>HN.out e.symm) _),Lib.hid (((((hQ.out.far (p:=⟨gb,k*5,none⟩) (fun e=>HNQ.out e.symm) _).far (p:=⟨gb,k*5+1,none⟩) (fun e=>HNQ.out e.symm) _).far (p:=⟨gb,k*5+2,none⟩) (fun e=>HNQ.out e.symm) _).far (p:=⟨gb,k*5+3,none⟩) (fun e=>HNQ.out e.symm) _).far (p:=⟨gb,k*5+4,none⟩) (fun e=>HNQ.out e.symm) _),Lib.hid (hB.out.put56 k ⟨⟨#[109,105,110,101]⟩,0,0,0,0⟩),Lib.hid (((((hC.out.set_ ⟨gb,k*5,none⟩ _ (.inl rfl)).set_ ⟨gb,k*5+1,none⟩ _ (.inl rfl)).set_ ⟨gb,k*5+2,none⟩ _ (.inl rfl)).set_ ⟨gb,k*5+3,none⟩ _ (.inl rfl)).set_ ⟨gb,k*5+4,none⟩ _ (.inl rfl))⟩
   case measure=>simp [RowKit.intOf];omega
  ·obtain rfl:k=m:=by omega
   go_wp2
   refine Norm.mk ?_
   exact ⟨_,_,_,_,_,_,_,_,_,_,_,_,_,_,_, rfl,Lib.hid ⟨⟨zs,hZ.out,hB.out⟩,hC.out⟩⟩
end Go.Proofs.Ytbeikcckcjadbaa.Ln
end
section
namespace Go.Proofs.Ytbeikcckcjadbaa.Ln
open Go.RowKit Go.Proofs.YtbeikcckcjadbaaW.PrintWords Go.Proofs.Ytbeikcckcjadbaa.PI Go.Proofs.Ytbeikcckcjadbaa.Im
attribute [local go_sem] isSome_setCell
theorem w64s (i:Nat) (h:i<4611686018427387904):wrap64 ((i:Int)+1)=((i+1:Nat):Int):=by unfold wrap64;omega
theorem same54_l (l:List S54) (hl:l.length≤4611686018427387904):∀ (d i k:Nat),i+d=l.length→d<k→spindlelaw0_SameInsns.l0 k l l (i:Int)=some true
 | 0,i,k+1,h,hk=>by
  unfold spindlelaw0_SameInsns.l0
  rw [if_neg (by omega)]
 | d+1,i,k+1,h,hk=>by
  unfold spindlelaw0_SameInsns.l0
  rw [if_pos (by omega),if_pos (by omega),if_pos (by omega),w64s i (by omega)]
  rw [if_neg (by simp)]
  exact same54_l l hl d (i+1) k (by omega) (by omega)
theorem same54_ (l:List S54) (hl:l.length≤4611686018427387904):spindlelaw0_SameInsns.f (l.length+1) l l=some true:=by
 unfold spindlelaw0_SameInsns.f
 rw [if_pos rfl]
 exact same54_l l hl l.length 0 _ (by omega) (by omega)
theorem taken54 {w:World} {gb L:Nat} {rs:List S54} (hb:Blk w gb 54 (rows54 (TR54 L rs))) (hL:rs.length≤L) (hl:L≤1000000000):Kd.C k54 w (some ⟨gb,0,none⟩) rs.length rs:=by
 have h:=C_rows54 hb rs.length (by rw [TR54_length L rs hL];exact hL) (by rw [TR54_length L rs hL];omega)
 have e:(TR54 L rs).take rs.length=rs:=by unfold TR54;rw [List.take_append_of_le_length (Nat.le_refl _),List.take_length]
 rwa [e] at h
theorem eq54 (w:World) (gb L c:Nat) (A:Option Addr) (rs:List S54) (hb:Blk w gb 54 (rows54 (TR54 L rs))) (hL:rs.length≤L) (hl:L≤1000000000) (hc:Kd.C k54 w A rs.length rs) (hcc:rs.length≤c) (nq:Nat) :
  Calls Try.prog 46 #[.slice (some ⟨gb,0,none⟩) rs.length L,.slice A rs.length c] (w.drewN nq) fun e w'=>e=.returned (.bool true)∧Drawn0 (w.drewN nq) w':=
 spindlelaw0_SameInsns.calls (rs.length+1) (some ⟨gb,0,none⟩) L rs A c rs true (w.drewN nq) (Kd.C_drewN (taken54 hb hL hl) nq) hL (Kd.C_drewN hc nq) hcc (same54_ rs (by omega))
theorem same68_l (l:List S68) (hl:l.length≤4611686018427387904):∀ (d i k:Nat),i+d=l.length→d<k→spindlelaw0_SameImgFuncs.l0 k l l (i:Int)=some true
 | 0,i,k+1,h,hk=>by
  unfold spindlelaw0_SameImgFuncs.l0
  rw [if_neg (by omega)]
 | d+1,i,k+1,h,hk=>by
  unfold spindlelaw0_SameImgFuncs.l0
  rw [if_pos (by omega),if_pos (by omega),if_pos (by omega),w64s i (by omega)]
  rw [if_neg (by simp)]
  exact same68_l l hl d (i+1) k (by omega) (by omega)
theorem same68_ (l:List S68) (hl:l.length≤4611686018427387904):spindlelaw0_SameImgFuncs.f (l.length+1) l l=some true:=by
 unfold spindlelaw0_SameImgFuncs.f
 rw [if_pos rfl]
 exact same68_l l hl l.length 0 _ (by omega) (by omega)
theorem taken68 {w:World} {gb L:Nat} {rs:List S68} (hb:Blk w gb 68 (rows68 (TR68 L rs))) (hL:rs.length≤L) (hl:L≤1000000000):Kd.C k68 w (some ⟨gb,0,none⟩) rs.length rs:=by
 have h:=C_rows68 hb rs.length (by rw [TR68_length L rs hL];exact hL) (by rw [TR68_length L rs hL];omega)
 have e:(TR68 L rs).take rs.length=rs:=by unfold TR68;rw [List.take_append_of_le_length (Nat.le_refl _),List.take_length]
 rwa [e] at h
theorem eq68 (w:World) (gb L c:Nat) (A:Option Addr) (rs:List S68) (hb:Blk w gb 68 (rows68 (TR68 L rs))) (hL:rs.length≤L) (hl:L≤1000000000) (hc:Kd.C k68 w A rs.length rs) (hcc:rs.length≤c) (nq:Nat) :
  Calls Try.prog 47 #[.slice (some ⟨gb,0,none⟩) rs.length L,.slice A rs.length c] (w.drewN nq) fun e w'=>e=.returned (.bool true)∧Drawn0 (w.drewN nq) w':=
 spindlelaw0_SameImgFuncs.calls (rs.length+1) (some ⟨gb,0,none⟩) L rs A c rs true (w.drewN nq) (Kd.C_drewN (taken68 hb hL hl) nq) hL (Kd.C_drewN hc nq) hcc (same68_ rs (by omega))
theorem same56_l (l:List S56) (hl:l.length≤4611686018427387904):∀ (d i k:Nat),i+d=l.length→d<k→spindlelaw0_SameTables.l0 k l l (i:Int)=some true
 | 0,i,k+1,h,hk=>by
  unfold spindlelaw0_SameTables.l0
  rw [if_neg (by omega)]
 | d+1,i,k+1,h,hk=>by
  unfold spindlelaw0_SameTables.l0
  rw [if_pos (by omega),if_pos (by omega),if_pos (by omega),w64s i (by omega)]
  rw [if_neg (by simp)]
  exact same56_l l hl d (i+1) k (by omega) (by omega)
theorem same56_ (l:List S56) (hl:l.length≤4611686018427387904):spindlelaw0_SameTables.f (l.length+1) l l=some true:=by
 unfold spindlelaw0_SameTables.f
 rw [if_pos rfl]
 exact same56_l l hl l.length 0 _ (by omega) (by omega)
theorem taken56 {w:World} {gb L:Nat} {rs:List S56} (hb:Blk w gb 56 (rows56 (TR56 L rs))) (hL:rs.length≤L) (hl:L≤1000000000):Kd.C k56 w (some ⟨gb,0,none⟩) rs.length rs:=by
 have h:=C_rows56 hb rs.length (by rw [TR56_length L rs hL];exact hL) (by rw [TR56_length L rs hL];omega)
 have e:(TR56 L rs).take rs.length=rs:=by unfold TR56;rw [List.take_append_of_le_length (Nat.le_refl _),List.take_length]
 rwa [e] at h
theorem eq56 (w:World) (gb L c:Nat) (A:Option Addr) (rs:List S56) (hb:Blk w gb 56 (rows56 (TR56 L rs))) (hL:rs.length≤L) (hl:L≤1000000000) (hc:Kd.C k56 w A rs.length rs) (hcc:rs.length≤c) (nq:Nat) :
  Calls Try.prog 48 #[.slice (some ⟨gb,0,none⟩) rs.length L,.slice A rs.length c] (w.drewN nq) fun e w'=>e=.returned (.bool true)∧Drawn0 (w.drewN nq) w':=
 spindlelaw0_SameTables.calls (rs.length+1) (some ⟨gb,0,none⟩) L rs A c rs true (w.drewN nq) (Kd.C_drewN (taken56 hb hL hl) nq) hL (Kd.C_drewN hc nq) hcc (same56_ rs (by omega))
theorem RB (w0:World) (g q b0 b1 b2 L0 L1 L2 n0 n1 n2 c0 c1 c2:Nat) (A0 A1 A2:Option Addr) (en:Int) (xs:List S54) (fs:List S68) (ts:List S56) (e0:n0=xs.length) (e1:n1=fs.length) (e2:n2=ts.length)
  (hg:Blk w0 g 29 #[.slice (some ⟨b0,0,none⟩) L0 L0,.slice (some ⟨b1,0,none⟩) L1 L1,.slice (some ⟨b2,0,none⟩) L2 L2]) (hq:Blk w0 q 26 #[.slice A0 n0 c0,.slice A1 n1 c1,.slice A2 n2 c2,.int .i64 en])
  (hb0:Blk w0 b0 54 (rows54 (TR54 L0 xs))) (hb1:Blk w0 b1 68 (rows68 (TR68 L1 fs))) (hb2:Blk w0 b2 56 (rows56 (TR56 L2 ts))) (h0:Kd.C k54 w0 A0 n0 xs) (h1:Kd.C k68 w0 A1 n1 fs) (h2:Kd.C k56 w0 A2 n2 ts)
  (l0:n0≤L0) (l1:n1≤L1) (l2:n2≤L2) (m0:L0≤1000000000) (m1:L1≤1000000000) (m2:L2≤1000000000) (k0:n0≤c0) (k1:n1≤c1) (k2:n2≤c2) {y1 y2 y4 y6 y7 y8 y9 y10 y11 y12 y13 y14 y15 y16 y17 y18 y19 y20 y21 y22 y23 y24 y25 y26 y27 y28 y29 y30 y31 y32 y33 y34 y35 y36 y37 y38 y39 y40 y41 y42 y43 y44 y45 y46 y47 y48 y49 y50 y51 y52 y53 y54 y55 y56 y57 y58 y59 y60 y61 y62 y63 y64 y65 y66 y67 y68 y69 y70 y71 y72 y73 y74 y75 y76 y77 y78 y79 y80 y81 y82 y83 y84 y85 y86 y87 y88 y89 y90 y91 y92 y93 y94 y95 y96 y97 y98 y99 y100 y101 y102 y103 y104 y105 y106 y107 y108 y109 y110 y111 y112 y113 y114 y115 y116 y117 y118 y119 y120 y121 y122 y123 y124 y125 y126 y127 y128 y129 y130 y131 y132 y133 y134 y135 y136 y137 y138 y139 y140 y141 y142 y143 y144 y145 y146 y147 y148 y149 y150 y151 y152 y153 y154 y155 y156 y157 y158 y159 y160 y161 y162 y163 y164 y165 y166 y5:Value} :
  Code.wp Try.prog (left (postC 1 (Try.f22.body.getD .skip))) (Norm fun a' W=>∃ (e12 e13 e14 e15 e16 e17 e18 e19 e20 e21 e22 e23 e24 e25 e26 e27 e28 e29 e30 e31 e32 e33 e34 e35 e36 e37 e38 e39 e40 e41 e42 e43 e44 e45 e46 e47 e48:Value),a'={ tmps:=#[(.pointer (some ⟨g,0,none⟩)),y1,y2,(.pointer (some ⟨q,0,none⟩)),y4,(.bool true),y6,y7,y8,y9,y10,y11,e12,e13,e14,e15,e16,e17,e18,e19,e20,e21,e22,e23,e24,e25,e26,e27,e28,e29,e30,e31,e32,e33,e34,e35,e36,e37,e38,e39,e40,e41,e42,e43,e44,e45,e46,e47,e48,y49,y50,y51,y52,y53,y54,y55,y56,y57,y58,y59,y60,y61,y62,y63,y64,y65,y66,y67,y68,y69,y70,y71,y72,y73,y74,y75,y76,y77,y78,y79,y80,y81,y82,y83,y84,y85,y86,y87,y88,y89,y90,y91,y92,y93,y94,y95,y96,y97,y98,y99,y100,y101,y102,y103,y104,y105,y106,y107,y108,y109,y110,y111,y112,y113,y114,y115,y116,y117,y118,y119,y120,y121,y122,y123,y124,y125,y126,y127,y128,y129,y130,y131,y132,y133,y134,y135,y136,y137,y138,y139,y140,y141,y142,y143,y144,y145,y146,y147,y148,y149,y150,y151,y152,y153,y154,y155,y156,y157,y158,y159,y160,y161,y162,y163,y164,y165,y166],defers:=[] }∧Hid (Ch w0 W (fun _=>False))) { tmps:=#[(.pointer (some ⟨g,0,none⟩)),y1,y2,(.pointer (some ⟨q,0,none⟩)),y4,y5,y6,y7,y8,y9,y10,y11,y12,y13,y14,y15,y16,y17,y18,y19,y20,y21,y22,y23,y24,y25,y26,y27,y28,y29,y30,y31,y32,y33,y34,y35,y36,y37,y38,y39,y40,y41,y42,y43,y44,y45,y46,y47,y48,y49,y50,y51,y52,y53,y54,y55,y56,y57,y58,y59,y60,y61,y62,y63,y64,y65,y66,y67,y68,y69,y70,y71,y72,y73,y74,y75,y76,y77,y78,y79,y80,y81,y82,y83,y84,y85,y86,y87,y88,y89,y90,y91,y92,y93,y94,y95,y96,y97,y98,y99,y100,y101,y102,y103,y104,y105,y106,y107,y108,y109,y110,y111,y112,y113,y114,y115,y116,y117,y118,y119,y120,y121,y122,y123,y124,y125,y126,y127,y128,y129,y130,y131,y132,y133,y134,y135,y136,y137,y138,y139,y140,y141,y142,y143,y144,y145,y146,y147,y148,y149,y150,y151,y152,y153,y154,y155,y156,y157,y158,y159,y160,y161,y162,y163,y164,y165,y166],defers:=[] } w0:=by
 have HQ0:=Lib.hid (show ∀ nq,Calls Try.prog 46 #[.slice (some ⟨b0,0,none⟩) n0 L0,.slice A0 n0 c0] (w0.drewN nq) fun e w'=>e=.returned (.bool true)∧Drawn0 (w0.drewN nq) w' from fun nq=>by subst e0;exact eq54 w0 b0 L0 c0 A0 xs hb0 l0 m0 h0 k0 nq)
 have HQ1:=Lib.hid (show ∀ nq,Calls Try.prog 47 #[.slice (some ⟨b1,0,none⟩) n1 L1,.slice A1 n1 c1] (w0.drewN nq) fun e w'=>e=.returned (.bool true)∧Drawn0 (w0.drewN nq) w' from fun nq=>by subst e1;exact eq68 w0 b1 L1 c1 A1 fs hb1 l1 m1 h1 k1 nq)
 have HQ2:=Lib.hid (show ∀ nq,Calls Try.prog 48 #[.slice (some ⟨b2,0,none⟩) n2 L2,.slice A2 n2 c2] (w0.drewN nq) fun e w'=>e=.returned (.bool true)∧Drawn0 (w0.drewN nq) w' from fun nq=>by subst e2;exact eq56 w0 b2 L2 c2 A2 ts hb2 l2 m2 h2 k2 nq)
 have g0:=hg.cell 0
 have g1:=hg.cell 1
 have g2:=hg.cell 2
 have q0:=hq.cell 0
 have q1:=hq.cell 1
 have q2:=hq.cell 2
 simp only [List.getElem?_toArray,List.getElem?_cons_zero,List.getElem?_cons_succ] at g0 g1 g2 q0 q1 q2
 have i0:(0:Int)≤(n0:Int):=Int.natCast_nonneg _
 have i1:(0:Int)≤(n1:Int):=Int.natCast_nonneg _
 have i2:(0:Int)≤(n2:Int):=Int.natCast_nonneg _
 have j0:(n0:Int)≤(L0:Int):=by omega
 have j1:(n1:Int)≤(L1:Int):=by omega
 have j2:(n2:Int)≤(L2:Int):=by omega
 clear hg hq hb0 hb1 hb2 h0 h1 h2 k0 k1 k2 m0 m1 m2 e0 e1 e2
 unfold Try.f22
 dsimp only [Option.getD,postC,left]
 go_quiet (first|(go_at_call 46;refine (HQ0.out _).mono ?_;rintro e w2 ⟨rfl,⟨nd,rfl⟩⟩;(try first|exact ⟨rfl,_,World.drewN_drewN _ _ _⟩|exact ⟨rfl,_,Eq.trans (World.drewN_drewN _ _ _) (congrArg (World.drewN _) (Nat.add_assoc _ _ _))⟩))|(go_at_call 47;refine (HQ1.out _).mono ?_;rintro e w2 ⟨rfl,⟨nd,rfl⟩⟩;(try first|exact ⟨rfl,_,World.drewN_drewN _ _ _⟩|exact ⟨rfl,_,Eq.trans (World.drewN_drewN _ _ _) (congrArg (World.drewN _) (Nat.add_assoc _ _ _))⟩))|(go_at_call 48;refine (HQ2.out _).mono ?_;rintro e w2 ⟨rfl,⟨nd,rfl⟩⟩;(try first|exact ⟨rfl,_,World.drewN_drewN _ _ _⟩|exact ⟨rfl,_,Eq.trans (World.drewN_drewN _ _ _) (congrArg (World.drewN _) (Nat.add_assoc _ _ _))⟩)))
 refine Norm.mk ?_
 exact ⟨_,_,_,_,_,_,_,_,_,_,_,_,_,_,_,_,_,_,_,_,_,_,_,_,_,_,_,_,_,_,_,_,_,_,_,_,_, rfl,Lib.hid ((Ch.refl w0 _).drewN _)⟩
end Go.Proofs.Ytbeikcckcjadbaa.Ln
end
section
namespace Go.Proofs.Ytbeikcckcjadbaa.Ln
open Go.RowKit Go.Proofs.YtbeikcckcjadbaaW.PrintWords Go.Proofs.Ytbeikcckcjadbaa.PI Go.Proofs.Ytbeikcckcjadbaa.Im
attribute [local go_sem] isSome_setCell
def Gone (w:World) (g b0 b1 b2 L0 L1 L2:Nat) (e:Ending) (w':World):Prop:=
 e=.returned (.bool true)∧Blk w' g 29 #[.slice (some ⟨b0,0,none⟩) L0 L0,.slice (some ⟨b1,0,none⟩) L1 L1,.slice (some ⟨b2,0,none⟩) L2 L2]∧(∃ zs:List S54,zs.length=L0∧Blk w' b0 54 (rows54 zs))∧(∃ zs:List S68,zs.length=L1∧Blk w' b1 68 (rows68 zs))∧(∃ zs:List S56,zs.length=L2∧Blk w' b2 56 (rows56 zs))∧Ch w w' (fun k=>k=b0∨k=b1∨k=b2)
theorem back_ (w:World) (g b0 b1 b2 L0 L1 L2 n0 n1 n2 c0 c1 c2:Nat) (A0 A1 A2:Option Addr) (en:Int) (xs:List S54) (fs:List S68) (ts:List S56) (e0:n0=xs.length) (e1:n1=fs.length) (e2:n2=ts.length)
  (hg:Blk w g 29 #[.slice (some ⟨b0,0,none⟩) L0 L0,.slice (some ⟨b1,0,none⟩) L1 L1,.slice (some ⟨b2,0,none⟩) L2 L2]) (hb0:Blk w b0 54 (rows54 (TR54 L0 xs))) (hb1:Blk w b1 68 (rows68 (TR68 L1 fs))) (hb2:Blk w b2 56 (rows56 (TR56 L2 ts))) (h0:Kd.C k54 w A0 n0 xs) (h1:Kd.C k68 w A1 n1 fs) (h2:Kd.C k56 w A2 n2 ts)
  (l0:n0≤L0) (l1:n1≤L1) (l2:n2≤L2) (m0:L0≤1000000000) (m1:L1≤1000000000) (m2:L2≤1000000000) (k0:n0≤c0) (k1:n1≤c1) (k2:n2≤c2) :
  Calls Try.prog 22 #[.pointer (some ⟨g,0,none⟩),.agg #[.slice A0 n0 c0,.slice A1 n1 c1,.slice A2 n2 c2,.int .i64 en]] w (Gone w g b0 b1 b2 L0 L1 L2):=by
 have HE0:=Lib.hid e0
 have HE1:=Lib.hid e1
 have HE2:=Lib.hid e2
 have HG:=Lib.hid hg
 have HB0:=Lib.hid hb0
 have HB1:=Lib.hid hb1
 have HB2:=Lib.hid hb2
 have HC0:=Lib.hid h0
 have HC1:=Lib.hid h1
 have HC2:=Lib.hid h2
 clear e0 e1 e2 hg hb0 hb1 hb2 h0 h1 h2
 go_enter Try.func22,Try.ntmps22
 refine wp_seq_k (fun K hK=>?_)
 have HK:=Lib.hid hK
 clear hK
 go_wp2
 refine HK.out _ _ ?_
 clear HK
 have hq0:Blk (w.alloc (.cells #[.slice A0 n0 c0,.slice A1 n1 c1,.slice A2 n2 c2,.int .i64 en] 26)) w.heap.size 26 #[.slice A0 n0 c0,.slice A1 n1 c1,.slice A2 n2 c2,.int .i64 en]:=Blk.new w 26 _
 have hc0:Ch w (w.alloc (.cells #[.slice A0 n0 c0,.slice A1 n1 c1,.slice A2 n2 c2,.int .i64 en] 26)) (fun _=>False):=(Ch.refl w _).alloc _
 have HQ:=Lib.hid hq0
 have HCH:=Lib.hid hc0
 clear hq0 hc0
 refine wp_seq_k (fun K hK=>?_)
 have HK:=Lib.hid hK
 clear hK
 refine Code.wp_mono (Norm.elim ?_) (RB _ g w.heap.size b0 b1 b2 L0 L1 L2 n0 n1 n2 c0 c1 c2 A0 A1 A2 en xs fs ts HE0.out HE1.out HE2.out (HCH.out.blk HG.out (fun h=>h)) HQ.out (HCH.out.blk HB0.out (fun h=>h)) (HCH.out.blk HB1.out (fun h=>h)) (HCH.out.blk HB2.out (fun h=>h)) (C_ch54 HC0.out HCH.out (fun _ _ _ h=>h)) (C_ch68 HC1.out HCH.out (fun _ _ _ h=>h)) (C_ch56 HC2.out HCH.out (fun _ _ _ h=>h)) l0 l1 l2 m0 m1 m2 k0 k1 k2)
 rintro a' W ⟨e12,e13,e14,e15,e16,e17,e18,e19,e20,e21,e22,e23,e24,e25,e26,e27,e28,e29,e30,e31,e32,e33,e34,e35,e36,e37,e38,e39,e40,e41,e42,e43,e44,e45,e46,e47,e48,rfl,hY⟩
 refine HK.out _ _ ?_
 clear HK
 have HQ2:=Lib.hid (hY.out.blk HQ.out (fun h=>h))
 have HCH2:=Lib.hid (HCH.out.trans hY.out (fun _ _ h=>h))
 clear HQ HCH hY
 have HQ:=HQ2
 have HCH:=HCH2
 clear HQ2 HCH2
 refine wp_seq_k (fun K hK=>?_)
 have HK:=Lib.hid hK
 clear hK
 refine Code.wp_mono (Norm.elim ?_) (D54 _ g w.heap.size b0 L0 n0 c0 n1 c1 n2 c2 A0 A1 A2 en _ _ xs HE0.out l0 m0 (HCH.out.blk HG.out (fun h=>h)) HQ.out (HCH.out.blk HB0.out (fun h=>h)))
 rintro a' W ⟨e6,e49,e50,e51,e52,e53,e54,e55,e56,e57,e58,e59,e60,e61,e62,e63,e64,e65,e66,e67,e68,e69,e70,e71,e72,e73,rfl,hY⟩
 refine HK.out _ _ ?_
 clear HK
 have HQ2:=Lib.hid (hY.out.blk HQ.out (fun h=>h))
 have HCH2:=Lib.hid (HCH.out.trans hY.out (fun _ _ h=>h))
 clear HQ HCH hY
 have HQ:=HQ2
 have HCH:=HCH2
 clear HQ2 HCH2
 refine wp_seq_k (fun K hK=>?_)
 have HK:=Lib.hid hK
 clear hK
 refine Code.wp_mono (Norm.elim ?_) (D68 _ g w.heap.size b1 L1 n1 c1 n0 c0 n2 c2 A1 A0 A2 en _ _ fs HE1.out l1 m1 (HCH.out.blk HG.out (fun h=>h)) HQ.out (HCH.out.blk HB1.out (fun h=>h)))
 rintro a' W ⟨e7,e74,e75,e76,e77,e78,e79,e80,e81,e82,e83,e84,e85,e86,e87,e88,e89,e90,e91,e92,e93,e94,e95,e96,e97,e98,rfl,hY⟩
 refine HK.out _ _ ?_
 clear HK
 have HQ2:=Lib.hid (hY.out.blk HQ.out (fun h=>h))
 have HCH2:=Lib.hid (HCH.out.trans hY.out (fun _ _ h=>h))
 clear HQ HCH hY
 have HQ:=HQ2
 have HCH:=HCH2
 clear HQ2 HCH2
 refine wp_seq_k (fun K hK=>?_)
 have HK:=Lib.hid hK
 clear hK
 refine Code.wp_mono (Norm.elim ?_) (D56 _ g w.heap.size b2 L2 n2 c2 n0 c0 n1 c1 A2 A0 A1 en _ _ ts HE2.out l2 m2 (HCH.out.blk HG.out (fun h=>h)) HQ.out (HCH.out.blk HB2.out (fun h=>h)))
 rintro a' W ⟨e8,e99,e100,e101,e102,e103,e104,e105,e106,e107,e108,e109,e110,e111,e112,e113,e114,e115,e116,e117,e118,e119,e120,e121,e122,e123,rfl,hY⟩
 refine HK.out _ _ ?_
 clear HK
 have HQ2:=Lib.hid (hY.out.blk HQ.out (fun h=>h))
 have HCH2:=Lib.hid (HCH.out.trans hY.out (fun _ _ h=>h))
 clear HQ HCH hY
 have HQ:=HQ2
 have HCH:=HCH2
 clear HQ2 HCH2
 have hG0:=HCH.out.blk HG.out (fun h=>h)
 have hB0:=HCH.out.blk HB0.out (fun h=>h)
 have hB1:=HCH.out.blk HB1.out (fun h=>h)
 have hB2:=HCH.out.blk HB2.out (fun h=>h)
 have HZ0:=Lib.hid (show ∃ zs:List S54,zs.length=L0∧Blk _ b0 54 (rows54 zs) from ⟨_,TR54_length L0 xs (by rw [← HE0.out];exact l0),hB0⟩)
 have HZ1:=Lib.hid (show ∃ zs:List S68,zs.length=L1∧Blk _ b1 68 (rows68 zs) from ⟨_,TR68_length L1 fs (by rw [← HE1.out];exact l1),hB1⟩)
 have HZ2:=Lib.hid (show ∃ zs:List S56,zs.length=L2∧Blk _ b2 56 (rows56 zs) from ⟨_,TR56_length L2 ts (by rw [← HE2.out];exact l2),hB2⟩)
 have HGW:=Lib.hid hG0
 have HCS:=Lib.hid (HCH.out.mono (S2:=fun k=>k=b0∨k=b1∨k=b2) (fun _ h=>h.elim))
 clear hG0 hB0 hB1 hB2 HCH HB0 HB1 HB2
 refine wp_seq_k (fun K hK=>?_)
 have HK:=Lib.hid hK
 clear hK
 obtain ⟨ys,hy,hb⟩:=HZ0.out
 have HBB:=Lib.hid hb
 refine Code.wp_mono (Norm.elim ?_) (W54 _ g w.heap.size b0 L0 n0 c0 n1 c1 n2 c2 A0 A1 A2 en _ _ ys hy l0 m0 HGW.out HQ.out hb)
 rintro a' W ⟨e9,e124,e125,e126,e127,e128,e129,e130,e131,e132,e133,e134,e135,e136,e137,rfl,hY⟩
 refine HK.out _ _ ?_
 clear HK hb hy
 have HQ2:=Lib.hid (hY.out.2.blk HQ.out (HQ.out.ne HBB.out (by decide)))
 have HG2:=Lib.hid (hY.out.2.blk HGW.out (HGW.out.ne HBB.out (by decide)))
 have HCS2:=Lib.hid (HCS.out.trans hY.out.2 (fun _ _ h=>.inl h))
 have HZn1:=Lib.hid (by
  obtain ⟨zs,e,hz⟩:=HZ1.out
  exact (show ∃ zs:List S68,zs.length=L1∧Blk W b1 68 (rows68 zs) from ⟨zs,e,hY.out.2.blk hz (hz.ne HBB.out (by decide))⟩))
 have HZn2:=Lib.hid (by
  obtain ⟨zs,e,hz⟩:=HZ2.out
  exact (show ∃ zs:List S56,zs.length=L2∧Blk W b2 56 (rows56 zs) from ⟨zs,e,hY.out.2.blk hz (hz.ne HBB.out (by decide))⟩))
 have HZn0:=Lib.hid hY.out.1
 clear HQ HGW HCS HZ0 HZ1 HZ2 HBB hY
 have HQ:=HQ2
 have HGW:=HG2
 have HCS:=HCS2
 have HZ0:=HZn0
 have HZ1:=HZn1
 have HZ2:=HZn2
 clear HQ2 HG2 HCS2 HZn0 HZn1 HZn2
 refine wp_seq_k (fun K hK=>?_)
 have HK:=Lib.hid hK
 clear hK
 obtain ⟨ys,hy,hb⟩:=HZ1.out
 have HBB:=Lib.hid hb
 refine Code.wp_mono (Norm.elim ?_) (W68 _ g w.heap.size b1 L1 n1 c1 n0 c0 n2 c2 A1 A0 A2 en _ _ ys hy l1 m1 HGW.out HQ.out hb)
 rintro a' W ⟨e10,e138,e139,e140,e141,e142,e143,e144,e145,e146,e147,e148,e149,e150,e151,rfl,hY⟩
 refine HK.out _ _ ?_
 clear HK hb hy
 have HQ2:=Lib.hid (hY.out.2.blk HQ.out (HQ.out.ne HBB.out (by decide)))
 have HG2:=Lib.hid (hY.out.2.blk HGW.out (HGW.out.ne HBB.out (by decide)))
 have HCS2:=Lib.hid (HCS.out.trans hY.out.2 (fun _ _ h=>.inr (.inl h)))
 have HZn0:=Lib.hid (by
  obtain ⟨zs,e,hz⟩:=HZ0.out
  exact (show ∃ zs:List S54,zs.length=L0∧Blk W b0 54 (rows54 zs) from ⟨zs,e,hY.out.2.blk hz (hz.ne HBB.out (by decide))⟩))
 have HZn2:=Lib.hid (by
  obtain ⟨zs,e,hz⟩:=HZ2.out
  exact (show ∃ zs:List S56,zs.length=L2∧Blk W b2 56 (rows56 zs) from ⟨zs,e,hY.out.2.blk hz (hz.ne HBB.out (by decide))⟩))
 have HZn1:=Lib.hid hY.out.1
 clear HQ HGW HCS HZ0 HZ1 HZ2 HBB hY
 have HQ:=HQ2
 have HGW:=HG2
 have HCS:=HCS2
 have HZ0:=HZn0
 have HZ1:=HZn1
 have HZ2:=HZn2
 clear HQ2 HG2 HCS2 HZn0 HZn1 HZn2
 refine wp_seq_k (fun K hK=>?_)
 have HK:=Lib.hid hK
 clear hK
 obtain ⟨ys,hy,hb⟩:=HZ2.out
 have HBB:=Lib.hid hb
 refine Code.wp_mono (Norm.elim ?_) (W56 _ g w.heap.size b2 L2 n2 c2 n0 c0 n1 c1 A2 A0 A1 en _ _ ys hy l2 m2 HGW.out HQ.out hb)
 rintro a' W ⟨e11,e152,e153,e154,e155,e156,e157,e158,e159,e160,e161,e162,e163,e164,e165,rfl,hY⟩
 refine HK.out _ _ ?_
 clear HK hb hy
 have HQ2:=Lib.hid (hY.out.2.blk HQ.out (HQ.out.ne HBB.out (by decide)))
 have HG2:=Lib.hid (hY.out.2.blk HGW.out (HGW.out.ne HBB.out (by decide)))
 have HCS2:=Lib.hid (HCS.out.trans hY.out.2 (fun _ _ h=>.inr (.inr h)))
 have HZn0:=Lib.hid (by
  obtain ⟨zs,e,hz⟩:=HZ0.out
  exact (show ∃ zs:List S54,zs.length=L0∧Blk W b0 54 (rows54 zs) from ⟨zs,e,hY.out.2.blk hz (hz.ne HBB.out (by decide))⟩))
 have HZn1:=Lib.hid (by
  obtain ⟨zs,e,hz⟩:=HZ1.out
  exact (show ∃ zs:List S68,zs.length=L1∧Blk W b1 68 (rows68 zs) from ⟨zs,e,hY.out.2.blk hz (hz.ne HBB.out (by decide))⟩))
 have HZn2:=Lib.hid hY.out.1
 clear HQ HGW HCS HZ0 HZ1 HZ2 HBB hY
 have HQ:=HQ2
 have HGW:=HG2
 have HCS:=HCS2
 have HZ0:=HZn0
 have HZ1:=HZn1
 have HZ2:=HZn2
 clear HQ2 HG2 HCS2 HZn0 HZn1 HZn2
 go_wp2
 go_ret
 exact ⟨rfl,HGW.out,HZ0.out,HZ1.out,HZ2.out,HCS.out⟩
#print axioms back_
end Go.Proofs.Ytbeikcckcjadbaa.Ln
end
section
namespace Go.Proofs.Ytbeikcckcjadbaa.Ln
open Go.RowKit Go.Proofs.YtbeikcckcjadbaaW.PrintWords Go.Proofs.Ytbeikcckcjadbaa.PI Go.Proofs.Ytbeikcckcjadbaa.Im
attribute [local go_sem] isSome_setCell
structure LSt (w:World) (g:Nat) (v0 v1 v2:Value):Prop where
 hd:Blk w g 29 #[v0,v1,v2]
 p0:∃ ys:List S54,Pl54 w v0 ys∧ys.length≤1000000000
 p1:∃ ys:List S68,Pl68 w v1 ys∧ys.length≤1000000000
 p2:∃ ys:List S56,Pl56 w v2 ys∧ys.length≤1000000000
def Chkd (w:World) (g:Nat) (v0 v1 v2:Value) (e:Ending) (w':World):Prop:=
 e=.returned (.bool true)∧∃ u0 u1 u2,LSt w' g u0 u1 u2∧Ch w w' (Own g v0 v1 v2)∧∀ k,Own g u0 u1 u2 k→Own g v0 v1 v2 k∨w.heap.size≤k
theorem LSt.ch {w w':World} {g:Nat} {v0 v1 v2:Value} (h:LSt w g v0 v1 v2) (hc:Ch w w' (fun _=>False)):LSt w' g v0 v1 v2:=by
 obtain ⟨h0,⟨y0,a0,b0⟩,⟨y1,a1,b1⟩,⟨y2,a2,b2⟩⟩:=h
 exact ⟨hc.blk h0 (fun h=>h),⟨y0,a0.ch hc (fun _ _ h=>h),b0⟩,⟨y1,a1.ch hc (fun _ _ h=>h),b1⟩,⟨y2,a2.ch hc (fun _ _ h=>h),b2⟩⟩
theorem Ch.below' {w w':World} (hb:Below w.heap.size w w'):Ch w w' (fun _=>False):=Ch.below hb _
theorem checked_ (w:World) (g n0 n1 n2 c0 c1 c2:Nat) (A0 A1 A2:Option Addr) (en:Int) (v0 v1 v2:Value) (xs:List S54) (fs:List S68) (ts:List S56) (e0:n0=xs.length) (e1:n1=fs.length) (e2:n2=ts.length)
  (hs:LSt w g v0 v1 v2) (h0:Kd.C k54 w A0 n0 xs) (h1:Kd.C k68 w A1 n1 fs) (h2:Kd.C k56 w A2 n2 ts) (f0:Far A0 n0 (Own g v0 v1 v2)) (f1:Far A1 n1 (Own g v0 v1 v2)) (f2:Far A2 n2 (Own g v0 v1 v2)) (k0:n0≤2000000) (k1:n1≤2000000) (k2:n2≤2000000)
  (l0:n0≤c0) (l1:n1≤c1) (l2:n2≤c2) (hf:∀ f∈fs,FitF f) :
  Calls Try.prog 8 #[.pointer (some ⟨g,0,none⟩),.agg #[.slice A0 n0 c0,.slice A1 n1 c1,.slice A2 n2 c2,.int .i64 en]] w (Chkd w g v0 v1 v2):=by
 subst e0 e1 e2
 obtain ⟨r1,r2,hr⟩:=ref_ex xs fs ts en (by omega) (by omega) (by omega)
 obtain ⟨F,hF⟩:=id hr
 have HR:=Lib.hid hr
 have HFF:=Lib.hid (hF F (Nat.le_refl _))
 have HS:=Lib.hid hs
 have HC0:=Lib.hid h0
 have HC1:=Lib.hid h1
 have HC2:=Lib.hid h2
 have HF0:=Lib.hid f0
 have HF1:=Lib.hid f1
 have HF2:=Lib.hid f2
 have HFI:=Lib.hid hf
 clear hr hF hs h0 h1 h2 f0 f1 f2 hf
 go_enter Try.func8,Try.ntmps8
 refine wp_seq_k (fun K hK=>?_)
 have HK:=Lib.hid hK
 clear hK
 go_wp2
 refine HK.out _ _ ?_
 clear HK
 have HQ:=Lib.hid (Blk.new w 26 #[.slice A0 xs.length c0,.slice A1 fs.length c1,.slice A2 ts.length c2,.int .i64 en])
 have HCH:=Lib.hid (show Ch w (w.alloc (.cells #[.slice A0 xs.length c0,.slice A1 fs.length c1,.slice A2 ts.length c2,.int .i64 en] 26)) (fun _=>False) from (Ch.refl w _).alloc _)
 generalize w.alloc (.cells #[.slice A0 xs.length c0,.slice A1 fs.length c1,.slice A2 ts.length c2,.int .i64 en] 26)=w1 at HQ HCH ⊢
 refine wp_seq_k (fun K hK=>?_)
 have HK:=Lib.hid hK
 clear hK
 have q0:=HQ.out.cell 0
 have q1:=HQ.out.cell 1
 have q2:=HQ.out.cell 2
 have q3:=HQ.out.cell 3
 simp only [List.getElem?_toArray,List.getElem?_cons_zero,List.getElem?_cons_succ] at q0 q1 q2 q3
 go_wp2_with (go_at_call 20;refine (sr17c.calls F A0 c0 xs A1 c1 fs A2 c2 ts en r1 r2 _ (C_ch54 HC0.out HCH.out (fun _ _ _ h=>h)) l0 (C_ch68 HC1.out HCH.out (fun _ _ _ h=>h)) l1 (C_ch56 HC2.out HCH.out (fun _ _ _ h=>h)) l2 HFF.out).mono ?_;rintro e w2 ⟨rfl,hb⟩;have HB2:=Lib.hid hb;clear hb)
 refine HK.out _ _ ?_
 clear HK q0 q1 q2 q3
 have HQ2:=Lib.hid (HQ.out.below HB2.out)
 have HCH2:=Lib.hid (HCH.out.trans (Ch.below' HB2.out) (fun _ _ h=>h))
 clear HQ HCH HB2
 refine wp_seq_k (fun K hK=>?_)
 have HK:=Lib.hid hK
 clear hK
 have q0:=HQ2.out.cell 0
 have q1:=HQ2.out.cell 1
 have q2:=HQ2.out.cell 2
 have q3:=HQ2.out.cell 3
 simp only [List.getElem?_toArray,List.getElem?_cons_zero,List.getElem?_cons_succ] at q0 q1 q2 q3
 obtain ⟨y0,a0,m0⟩:=(HS.out.ch HCH2.out).p0
 obtain ⟨y1,a1,m1⟩:=(HS.out.ch HCH2.out).p1
 obtain ⟨y2,a2,m2⟩:=(HS.out.ch HCH2.out).p2
 have HLAY:=Lib.hid (lay_ w2 g xs.length fs.length ts.length c0 c1 c2 A0 A1 A2 en v0 v1 v2 y0 y1 y2 xs fs ts rfl rfl rfl (HS.out.ch HCH2.out).hd a0 a1 a2 m0 m1 m2 (C_ch54 HC0.out HCH2.out (fun _ _ _ h=>h)) (C_ch68 HC1.out HCH2.out (fun _ _ _ h=>h)) (C_ch56 HC2.out HCH2.out (fun _ _ _ h=>h)) HF0.out HF1.out HF2.out k0 k1 k2)
 clear a0 a1 a2 m0 m1 m2
 go_wp2_with (first|(go_at_call 21;refine HLAY.out.mono ?_;rintro e w3 ⟨b0,b1,b2,L0,L1,L2,rfl,hl⟩;have HL:=Lib.hid hl;clear hl)|(go_at_call 14;refine (chk_ w3 (some ⟨b0,0,none⟩) (some ⟨b1,0,none⟩) (some ⟨b2,0,none⟩) L0 L1 L2 xs fs ts en r1 r2 (taken54 HL.out.2.1 (by have:=HL.out.2.2.2.2.1;omega) HL.out.2.2.2.2.1.2) (taken68 HL.out.2.2.1 (by have:=HL.out.2.2.2.2.2.1;omega) HL.out.2.2.2.2.2.1.2) (taken56 HL.out.2.2.2.1 (by have:=HL.out.2.2.2.2.2.2.1;omega) HL.out.2.2.2.2.2.2.1.2) (by have:=HL.out.2.2.2.2.1;omega) (by have:=HL.out.2.2.2.2.2.1;omega) (by have:=HL.out.2.2.2.2.2.2.1;omega) HFI.out (by omega) (by omega) (by omega) HR.out).mono ?_;rintro e w4 ⟨rfl,hb⟩;have HB4:=Lib.hid hb;clear hb))
 refine HK.out _ _ ?_
 clear HK q0 q1 q2 q3
 have hnq:¬ Own g v0 v1 v2 w.heap.size:=by
  have hst:=HS.out.ch HCH2.out
  obtain ⟨y0,a0,_⟩:=hst.p0
  obtain ⟨y1,a1,_⟩:=hst.p1
  obtain ⟨y2,a2,_⟩:=hst.p2
  rintro (h|h|h|h)
  ·exact HQ2.out.ne hst.hd (by decide) h
  ·exact a0.far HQ2.out (by decide) _ h rfl
  ·exact a1.far HQ2.out (by decide) _ h rfl
  ·exact a2.far HQ2.out (by decide) _ h rfl
 have HQ4:=Lib.hid ((HL.out.2.2.2.2.2.2.2.1.blk HQ2.out hnq).below HB4.out)
 have HC4:=Lib.hid (((HCH2.out.mono (S2:=Own g v0 v1 v2) (fun _ h=>h.elim)).trans HL.out.2.2.2.2.2.2.2.1 (fun _ _ h=>h)).trans (Ch.below' HB4.out) (fun _ _ h=>h.elim))
 have HN4:=Lib.hid (show ∀ k,Own g (.slice (some ⟨b0,0,none⟩) L0 L0) (.slice (some ⟨b1,0,none⟩) L1 L1) (.slice (some ⟨b2,0,none⟩) L2 L2) k→Own g v0 v1 v2 k∨w.heap.size≤k from fun k hk=>by
  have hz:w.heap.size≤w2.heap.size:=HCH2.out.size
  obtain ⟨m0,m1,m2⟩:=HL.out.2.2.2.2.2.2.2.2
  rcases hk with h|h|h|h
  ·exact .inl (.inl h)
  ·have e:=Option.some.inj h;subst e
   exact m0.elim (fun h=>.inl (.inr (.inl h))) (fun h=>.inr (Nat.le_trans hz h))
  ·have e:=Option.some.inj h;subst e
   exact m1.elim (fun h=>.inl (.inr (.inr (.inl h)))) (fun h=>.inr (Nat.le_trans hz h))
  ·have e:=Option.some.inj h;subst e
   exact m2.elim (fun h=>.inl (.inr (.inr (.inr h)))) (fun h=>.inr (Nat.le_trans hz h)))
 refine wp_seq_k (fun K hK=>?_)
 have HK:=Lib.hid hK
 clear hK hnq
 have q0:=HQ4.out.cell 0
 have q1:=HQ4.out.cell 1
 have q2:=HQ4.out.cell 2
 have q3:=HQ4.out.cell 3
 simp only [List.getElem?_toArray,List.getElem?_cons_zero,List.getElem?_cons_succ] at q0 q1 q2 q3
 have HBACK:=Lib.hid (back_ w4 g b0 b1 b2 L0 L1 L2 xs.length fs.length ts.length c0 c1 c2 A0 A1 A2 en xs fs ts rfl rfl rfl (HL.out.1.below HB4.out) (HL.out.2.1.below HB4.out) (HL.out.2.2.1.below HB4.out) (HL.out.2.2.2.1.below HB4.out) (C_ch54 HC0.out HC4.out HF0.out) (C_ch68 HC1.out HC4.out HF1.out) (C_ch56 HC2.out HC4.out HF2.out)
  (by have:=HL.out.2.2.2.2.1;omega) (by have:=HL.out.2.2.2.2.2.1;omega) (by have:=HL.out.2.2.2.2.2.2.1;omega) HL.out.2.2.2.2.1.2 HL.out.2.2.2.2.2.1.2 HL.out.2.2.2.2.2.2.1.2 l0 l1 l2)
 go_wp2_with (go_at_call 22;refine HBACK.out.mono ?_;rintro e w5 ⟨rfl,hgn⟩;have HGN:=Lib.hid hgn;clear hgn)
 refine HK.out _ _ ?_
 clear HK q0 q1 q2 q3
 refine wp_seq_k (fun K hK=>?_)
 have HK:=Lib.hid hK
 clear hK
 go_wp2_with (go_at_call 19;refine (spindlelaw0_Num.calls r2 r2 _ rfl).mono ?_;rintro e w6 ⟨rfl,⟨nd,rfl⟩⟩)
 refine HK.out _ _ ?_
 clear HK
 go_wp2
 go_ret
 have hown:∀ k,k<w.heap.size→(k=b0∨k=b1∨k=b2)→Own g v0 v1 v2 k:=fun k hk h=>by
  have h2:=HN4.out k (by
   rcases h with rfl|rfl|rfl
   ·exact .inr (.inl rfl)
   ·exact .inr (.inr (.inl rfl))
   ·exact .inr (.inr (.inr rfl)))
  exact h2.elim id fun h=>absurd h (by omega)
 obtain ⟨hg5,⟨z0,d0,e0⟩,⟨z1,d1,e1⟩,⟨z2,d2,e2⟩,hc5⟩:=HGN.out
 refine ⟨by first|rfl|simp,.slice (some ⟨b0,0,none⟩) L0 L0,.slice (some ⟨b1,0,none⟩) L1 L1,.slice (some ⟨b2,0,none⟩) L2 L2,⟨hg5,⟨z0,.inr ⟨b0,by rw [d0],e0⟩,by rw [d0];exact HL.out.2.2.2.2.1.2⟩,⟨z1,.inr ⟨b1,by rw [d1],e1⟩,by rw [d1];exact HL.out.2.2.2.2.2.1.2⟩,⟨z2,.inr ⟨b2,by rw [d2],e2⟩,by rw [d2];exact HL.out.2.2.2.2.2.2.1.2⟩⟩,(HC4.out.trans hc5 hown).drewN _,HN4.out⟩
#print axioms checked_
end Go.Proofs.Ytbeikcckcjadbaa.Ln
end
