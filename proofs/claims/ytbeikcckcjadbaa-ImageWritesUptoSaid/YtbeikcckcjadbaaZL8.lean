/- Parts of the proof, laid together by a program of this session (pack.py): St1, St2, St3, Bk1, St4, St5, St6, St7, St8. -/
import Derived.Test.YtbeikcckcjadbaaZL7
import Derived.Lib.Strings
import Derived.Lib.Walk
import Derived.Lib.BufferWrite
import Derived.Lib.UnsafeStr
import Derived.Lib.Hide
import Derived.Laws.MakeOwn
import Derived.WalkKit
import Derived.StringKeys
import Derived.Laws.AppendOwn
set_option linter.unusedVariables false
set_option linter.unusedSimpArgs false
set_option maxRecDepth 100000
set_option maxHeartbeats 16000000
section
namespace Go.Proofs.Ytbeikcckcjadbaa.Im
open Go.RowKit Go.Proofs.YtbeikcckcjadbaaW.PrintWords Go.Proofs.Ytbeikcckcjadbaa.PI Go.Proofs.Ytbeikcckcjadbaa.Ln
attribute [local go_sem] isSome_setCell
theorem indexByte_none:∀ (l:List UInt8) (c:UInt8),(∀ b∈l,b≠c)→Lib.indexByte l c=-1
 | [],c,_=>by simp [Lib.indexByte]
 | b :: l,c,h=>by
  have ih:=indexByte_none l c fun x hx=>h x (List.mem_cons_of_mem _ hx)
  have hb:(b == c)=false:=beq_eq_false_iff_ne.2 (h b List.mem_cons_self)
  simp [Lib.indexByte,hb,ih]
theorem okc_zero:okc true 0=false∧okc false 0=false:=by decide +kernel
theorem nm_zero {s:ByteArray} (h:nm s=true):Lib.indexByte s.data.toList 0=-1:=by
 refine indexByte_none _ _ fun b hb e=>?_
 subst e
 have h2:=(of_decide_eq_true h).2.2
 obtain ⟨j,hj⟩:=List.mem_iff_getElem?.1 hb
 obtain ⟨hl,hv⟩:=List.getElem?_eq_some_iff.1 hj
 have hl':j<s.size:=by
  have hq:=hl
  rw [Array.length_toList] at hq
  exact hq
 have h3:=h2 j hl'
 have hz:bt s (j:Int)=0:=by
  have:=bt_at s (j:Int) (by simpa using hl')
  rw [← this]
  have hv2:s[((j:Int)).toNat]'(by simpa using hl')=0:=by
   simp only [Int.toNat_natCast]
   have:s[j]'hl'=s.data.toList[j]'hl:=by simp [ByteArray.getElem_eq_getElem_data]
   rw [this,hv]
  rw [hv2];rfl
 rw [hz] at h3
 by_cases e0:j=0
 ·rw [decide_eq_true e0,okc_zero.1] at h3
  exact absurd h3 (by decide)
 ·rw [decide_eq_false e0,okc_zero.2] at h3
  exact absurd h3 (by decide)
theorem sn_ (s:ByteArray) (h:nm s=true) (w:World):Calls Try.prog 74 #[.string s] w fun e w'=>e=.returned (.bool true)∧w'=w:=by
 have h2:=of_decide_eq_true h
 have he:s.toList.isEmpty=false:=by cases hl:s.toList with
  | nil=>exact absurd (size_of_toList hl) h2.1
  | cons a r=>rfl
 have h6:decide ((s.size:Int)≤64)=true:=decide_eq_true (by have:=h2.2.1;omega)
 have hz:=nm_zero h
 have HZ:=Lib.hid hz
 clear h2 hz
 go_enter Try.func74,Try.ntmps74
 go_wp2_with (go_at_call 91;refine (ib_ s 0 _).mono ?_;rintro e w' ⟨rfl,rfl⟩;rw [show ((0:Int).toNat.toUInt8)=(0:UInt8) from rfl,HZ.out])
 go_ret
 exact ⟨by first|rfl|simp,rfl⟩
end Go.Proofs.Ytbeikcckcjadbaa.Im
end
section
namespace Go.Proofs.Ytbeikcckcjadbaa.Im
open Go.RowKit
theorem info5:(Try.prog.info? 5).map (fun i=>(i.zero,i.size,i.bytes))=some (some (.int .u8 0),1,1):=by kernel_rfl
theorem clone98 (s:ByteArray) (w:World) (hlim:s.size≤281474976710656) :
  Calls Try.prog 98 #[.string s] w fun e w'=>e=.returned (.string s)∧Below w.heap.size w w':=by
 by_cases h0:s.size=0
 ·have hs:s=⟨#[]⟩:=by
   apply ByteArray.ext
   exact Array.eq_empty_of_size_eq_zero h0
  subst hs
  go_enter Try.func98,Try.ntmps98
  go_wp2
  go_ret
  exact ⟨rfl,Below.refl _ _⟩
 ·obtain ⟨i0,hi,hz0,hz1,hz2⟩:=info_parts info5
  have hinfo:(Try.prog.info? 5).map (·.size)=some 1:=by rw [hi];simp [hz1]
  have hco:Try.prog.cellsOf 5=1:=by simp [Program.cellsOf,hi,hz1]
  obtain ⟨M,hM⟩:∃ M,M=madeCells (Value.int .u8 0).cells (((s.size:Nat):Int).toNat*i0.size):=⟨_,rfl⟩
  have hMs:M.size=s.size:=by rw [hM,size_madeCells,hz1];simp
  have hmk:∀ W:World,(Instr.makeSlice 33 (.int .i64 (s.size:Int)) (.int .i64 (s.size:Int))).run Try.prog W=.ok (.slice (some ⟨W.heap.size,0,none⟩) s.size s.size) (W.alloc (.cells M 5)):=fun W=>by
   have h:=run_make (P:=Try.prog) W 33 5 i0 (.int .u8 0) Try.underlying33 hi hz0 .i64 .i64 (s.size:Int) (s.size:Int) (by omega) (by omega) (by rw [hz2];omega) (by omega)
   rw [← hM] at h
   simpa using h
  clear hM
  have hcp:=Lib.run_copy_row_string (P:=Try.prog) (w.alloc (.cells M 5)) 33 9 3 5 w.heap.size 0 s.size s.size s M 5 Try.underlying33 hinfo (heap_alloc_new w _) (Nat.le_refl _) (by omega)
  obtain ⟨Y,hY⟩:∃ Y,Y=(M.toList.take 0 ++ Lib.byteCells s.data.toList ++ M.toList.drop (0+s.size)).toArray:=⟨_,rfl⟩
  rw [← hY] at hcp
  have hYl:Y.toList=Lib.byteCells s.data.toList:=by
   rw [hY,List.toList_toArray,List.take_zero,List.nil_append,List.drop_of_length_le (by rw [Array.length_toList];omega),List.append_nil]
  have hYs:Y.size=s.size:=by rw [← Array.length_toList,hYl,Lib.byteCells_length,← Lib.size_eq]
  have hgY:((w.alloc (.cells M 5)).setRow w.heap.size Y).heap[w.heap.size]?=some (.cells Y 5 (0,0)):=setRow_heap _ _ M _ 5 (0,0) (heap_alloc_new w _)
  have hne:s.data.toList≠[]:=fun e=>h0 (by rw [Lib.size_eq,e];rfl)
  have hUS:=Lib.run_unsafeString_row (P:=Try.prog) ((w.alloc (.cells M 5)).setRow w.heap.size Y) 143 3 9 5 Try.underlying143 hco w.heap.size Y.size (by unfold World.shape?;rw [hgY]) s.data.toList hne (by rw [← Lib.size_eq];omega) (by rw [← Lib.size_eq];omega)
   (fun j x hx=>Lib.cells_of_row hgY Y.size j _ (by rw [List.take_of_length_le (by rw [Array.length_toList];exact Nat.le_refl _),hYl];simp [Lib.byteCells,hx]))
  rw [← Lib.size_eq] at hUS
  clear hY
  go_enter Try.func98,Try.ntmps98
  go_wp2
  go_ret
  have hb1:Below w.heap.size w (w.alloc (.cells M 5)):=(Below.refl _ w).alloc (Nat.le_refl _) _
  have hb2:Below w.heap.size (w.alloc (.cells M 5)) ((w.alloc (.cells M 5)).setRow w.heap.size Y):=⟨rfl,rfl,rfl,by simp,fun k hk=>setRow_other _ _ _ _ (by omega)⟩
  exact ⟨rfl,Lib.below_freeze (hb1.trans hb2) (p:=⟨w.heap.size,0,none⟩) (Nat.le_refl _) _⟩
theorem clone_ (s:ByteArray) (w:World) (hlim:s.size≤281474976710656):Calls Try.prog 92 #[.string s] w fun e w'=>e=.returned (.string s)∧Below w.heap.size w w':=by
 go_enter Try.func92,Try.ntmps92
 go_wp2_with (go_at_call 98;refine (clone98 s w hlim).mono ?_;rintro e w' ⟨rfl,hb⟩)
 go_ret
 exact ⟨rfl,hb⟩
end Go.Proofs.Ytbeikcckcjadbaa.Im
end
section
namespace Go.Proofs.Ytbeikcckcjadbaa.Im
open Go.RowKit Go.Proofs.YtbeikcckcjadbaaW.PrintWords Go.Proofs.Ytbeikcckcjadbaa.PI Go.Proofs.Ytbeikcckcjadbaa.Ln Go.ChangeMaps Go.MapKept Go.WideElems
attribute [local go_sem] isSome_setCell
theorem law9:WideMaps.KeyLaw Try.prog 9:=WideMaps.string_law Try.underlying9
def Names (w:World) (b:Nat) (ps:List (ByteArray × Int)):Prop:=
 ∃ es clock,w.heap[b]?=some (.map es clock)∧Stamped es clock∧es.size≤ps.length∧(∀ x∈es.toList,∃ p∈ps,x.key=.string p.1∧x.val=.int .i64 p.2)∧(∀ p∈ps,(∃ x∈es.toList,x.key=.string p.1)∧p.1.size≤maxLen)∧ps.Pairwise (fun p q=>p.1≠q.1)
theorem Names.made (w:World):Names (w.alloc (.map #[] 0)) w.heap.size []:=
 ⟨#[],0,(MapKept.heap_alloc w _).1,stamped_empty 0,by simp,by simp,by simp,List.Pairwise.nil⟩
theorem Names.block {w w':World} {b:Nat} {ps:List (ByteArray × Int)} (h:Names w b ps) (hb:w'.heap[b]?=w.heap[b]?):Names w' b ps:=by
 obtain ⟨es,clock,h1,h2⟩:=h
 exact ⟨es,clock,hb.trans h1,h2⟩
theorem names_ok {es:Array MapEntry} {ps:List (ByteArray × Int)} (h3:∀ x∈es.toList,∃ p∈ps,x.key=.string p.1∧x.val=.int .i64 p.2) (h4:∀ p∈ps,(∃ x∈es.toList,x.key=.string p.1)∧p.1.size≤maxLen) :
  ∀ e∈es.toList,∃ l,keyOf Try.prog 9 e.key=some l:=fun e he=>by
 obtain ⟨p,hp,e1,_⟩:=h3 e he
 rw [e1]
 exact ⟨_,WideMaps.keyOf_string_mk Try.underlying9 (h4 p hp).2⟩
theorem pair_one {ps:List (ByteArray × Int)} (h:ps.Pairwise (fun p q=>p.1≠q.1)) {p q:ByteArray × Int} (hp:p∈ps) (hq:q∈ps) (e:p.1=q.1):p=q:=by
 induction ps with
 | nil=>cases hp
 | cons a r ih =>
  have h1:=List.pairwise_cons.1 h
  rcases List.mem_cons.1 hp with e1|hp2
  ·rcases List.mem_cons.1 hq with e2|hq2
   ·rw [e1,e2]
   ·exact absurd (e1 ▸ e) (h1.1 q hq2)
  ·rcases List.mem_cons.1 hq with e2|hq2
   ·exact absurd (e2 ▸ e.symm) (h1.1 p hp2)
   ·exact ih h1.2 hp2 hq2
theorem Names.there {w:World} {b:Nat} {ps:List (ByteArray × Int)} (h:Names w b ps) {p:ByteArray × Int} (hp:p∈ps) :
  (Instr.lookup 118 (.map (some b)) (.string p.1) true).run Try.prog w=.ok (.tuple #[.int .i64 p.2,.bool true]) w:=by
 obtain ⟨es,clock,h1,h2,_,h3,h4,h5⟩:=h
 have hz:=zero3 w
 have hkey:keyOf Try.prog 9 (.string p.1)=some _:=WideMaps.keyOf_string_mk Try.underlying9 (h4 p hp).2
 rcases law9.find w hkey es.toList (names_ok h3 h4) with ⟨g1,g2⟩|⟨j,e0,g1,g2,g3⟩
 ·obtain ⟨⟨x,hx,e⟩,_⟩:=h4 p hp
  exact absurd e (g2 x hx)
 ·obtain ⟨q,hq,e1,e2⟩:=h3 e0 (List.mem_of_getElem? g2)
  have e3:q=p:=pair_one h5 hq hp (by rw [e1] at g3;injection g3)
  simp [Instr.lookup,run_underlying Try.underlying118,MapKept.run_getObj_map h1,law9.check w _ hkey,g1,e2,e3,hz,Result.andThen]
theorem Names.nowhere {w:World} {b:Nat} {ps:List (ByteArray × Int)} (h:Names w b ps) {s:ByteArray} (hs:s.size≤maxLen) (hn:∀ p∈ps,p.1≠s) :
  (Instr.lookup 118 (.map (some b)) (.string s) true).run Try.prog w=.ok (.tuple #[.int .i64 0,.bool false]) w:=by
 obtain ⟨es,clock,h1,h2,_,h3,h4,h5⟩:=h
 have hz:=zero3 w
 have hkey:keyOf Try.prog 9 (.string s)=some _:=WideMaps.keyOf_string_mk Try.underlying9 hs
 rcases law9.find w hkey es.toList (names_ok h3 h4) with ⟨g1,g2⟩|⟨j,e0,g1,g2,g3⟩
 ·simp [Instr.lookup,run_underlying Try.underlying118,MapKept.run_getObj_map h1,law9.check w _ hkey,g1,hz,Result.andThen]
 ·obtain ⟨q,hq,e1,e2⟩:=h3 e0 (List.mem_of_getElem? g2)
  exact absurd (by rw [e1] at g3;injection g3) (hn q hq)
theorem Names.put {w:World} {b:Nat} {ps:List (ByteArray × Int)} (h:Names w b ps) {s:ByteArray} (c:Int) (hs:s.size≤maxLen) (hn:∀ p∈ps,p.1≠s) :
  ∃ M,(Instr.mapUpdate 118 (.map (some b)) (.string s) (.int .i64 c)).run Try.prog w=.ok () (setBlock w b M)∧∀ u:World,u.heap[b]?=some M→Names u b ((s,c) :: ps):=by
 obtain ⟨es,clock,h1,h2,h6,h3,h4,h5⟩:=h
 have hkey:keyOf Try.prog 9 (.string s)=some _:=WideMaps.keyOf_string_mk Try.underlying9 hs
 rcases law9.find w hkey es.toList (names_ok h3 h4) with ⟨g1,g2⟩|⟨j,e0,g1,g2,g3⟩
 ·refine ⟨.map (es.push ⟨.string s,.int .i64 c,clock⟩) (clock+1),?_,fun u hu=>⟨_,_,hu,stamped_push h2 g2,by simp;omega,fun x hx=>?_,fun p hp=>?_,List.pairwise_cons.2 ⟨fun q hq e=>hn q hq e.symm,h5⟩⟩⟩
  ·simp [Instr.mapUpdate,run_underlying Try.underlying118,MapKept.run_getObj_map h1,law9.check w false hkey,g1,MapKept.run_setObj_map _ h1,Result.andThen,setBlock]
  ·simp only [Array.toList_push,List.mem_append,List.mem_singleton] at hx
   rcases hx with hx|rfl
   ·obtain ⟨p,hp,e⟩:=h3 x hx
    exact ⟨p,List.mem_cons_of_mem _ hp,e⟩
   ·exact ⟨(s,c),List.mem_cons_self,rfl,rfl⟩
  ·rcases List.mem_cons.1 hp with rfl|hp
   ·exact ⟨⟨⟨.string s,.int .i64 c,clock⟩,by simp,rfl⟩,hs⟩
   ·obtain ⟨⟨x,hx,e⟩,hl⟩:=h4 p hp
    exact ⟨⟨x,by simp [hx],e⟩,hl⟩
 ·obtain ⟨q,hq,e1,e2⟩:=h3 e0 (List.mem_of_getElem? g2)
  exact absurd (by rw [e1] at g3;injection g3) (hn q hq)
end Go.Proofs.Ytbeikcckcjadbaa.Im
end
section
namespace Go.Proofs.Ytbeikcckcjadbaa.Bk
open Go.RowKit Go.Proofs.YtbeikcckcjadbaaW.PrintWords Go.Proofs.Ytbeikcckcjadbaa.Ln
structure App (w w':World) (base:Nat) (e:TypeId) (v v':Value) (xs news:List Value):Prop where
 row:w'.ownsRow base e 1 v' (xs.length+news.length) (xs ++ news)
 grown:w.grownBy w' v.ownBlock
 where_:v'.ownBlock=v.ownBlock∨∃ k,w.heap.size≤k∧v'.ownBlock=some k
 some_:v'.ownBlock≠none
 keep:∀ b2 u k zs,w.ownsRow b2 e 1 u k zs→(u.ownBlock≠v.ownBlock∨zs <+: xs ++ news)→w'.ownsRow b2 e 1 u k zs
 some2:∀ b2 u k zs,w.ownsRow b2 e 1 u k zs→∃ zs',w'.ownsRow b2 e 1 u k zs'∧∀ x∈zs',x∈zs∨x∈xs∨x∈news
theorem run_app {P:Program} (w:World) (base:Nat) (t ty e:TypeId) (i:TypeInfo) (z:Value) (bytes:Nat) (ht:P.underlying t=some (.slice e)) (hi:P.info? e=some i) (hz:i.zero=some z)
  (hsize:i.size=1) (hby:i.bytes=bytes) (hzs:z.cells.size=1)
  (v:Value) (xs:List Value) (hown:w.ownsRow base e 1 v xs.length xs)
  (a:Addr) (m c:Nat) (news:List Value) (hl:news.length=m) (hm:0<m) (hnews:∀ j u,news[j]?=some u→w.cell? (a.add j)=some u) (h1:∀ u∈news,u.oneCell'=true)
  (h63:xs.length+m≤maxLen) (hbytes:(xs.length+m)*bytes≤140737488355328) (hbase:base≤w.heap.size) :
  ∃ v' w',(Builtin.append_ #[t,t] ty #[v,.slice (some a) m c]).run P w=.ok v' w'∧App w w' base e v v' xs news:=by
 obtain ⟨n,hn⟩:∃ n,n=xs.length:=⟨_,rfl⟩
 rw [← hn] at hown h63 hbytes
 have hsmall:n+m≤9223372036854775807:=by simp only [maxLen] at h63;omega
 have hlen:(xs ++ news).length=n+m:=by rw [List.length_append];omega
 have grown:∀ (old:Nat),old<n+m→∀ w',w'=(w.drew.alloc (.cells (xs.toArray ++ news.toArray ++ Builtin.zeroCells z.cells (grownCap w (n+m) old e - (n+m))) e)) →
   App w w' base e v (.slice (some ⟨w.heap.size,0,none⟩) (n+m) (grownCap w (n+m) old e)) xs news:=by
  intro old ho w' hw'
  have hge:=grownCap_ge w (n+m) old e
  have hcm:grownCap w (n+m) old e≤maxLen:=grownCap_le_maxLen w (n+m) old e h63
  have hg:w.grownBy w' none:=by
   rw [hw']
   exact ⟨rfl,rfl,rfl,by simp,fun k hk _=>heap_alloc_old w.drew _ hk⟩
  refine ⟨⟨by rw [hlen];omega,.inr ⟨w.heap.size,_,_,by rw [← hn,hl],hbase,by rw [hw'];exact heap_alloc_new w.drew _,by omega,hcm,?_,?_⟩⟩,⟨hg.os,hg.tape,hg.output,hg.size,fun k hk _=>hg.block k hk (by simp)⟩,.inr ⟨_,Nat.le_refl _,rfl⟩,by simp [Value.ownBlock],fun b2 u k zs hu _=>hu.kept hg (by cases h:u.ownBlock <;> simp),fun b2 u k zs hu=>⟨zs,hu.kept hg (by cases h:u.ownBlock <;> simp),fun x hx=>.inl hx⟩⟩
  ·simp only [Array.size_append,List.size_toArray,size_zeroCells,hzs,hl]
   omega
  ·simp only [Array.toList_append,List.append_assoc]
   rw [← List.append_assoc,show (xs.length+news.length)*1=(xs ++ news).length from by simp]
   exact List.take_left
 rcases hown.2 with ⟨rfl,h0⟩|⟨g,cap,cur,rfl,hbg,hg,hnc,hcm,hcs,htake⟩
 ·subst h0
  have hx:xs=[]:=List.eq_nil_of_length_eq_zero hn.symm
  subst hx
  have hr:=run_append_nil (P:=P) w t ty e i z ht hi hz a m c news (by rw [hsize];omega) hnews (by omega) (by omega) (by have hb:=hbytes;rw [hby];simp only [Nat.zero_add] at hb;omega)
  refine ⟨_,_,hr,?_⟩
  have hgr:=grown 0 (by omega) _ rfl
  simp only [Nat.zero_add,List.nil_append,Array.empty_append] at hgr ⊢
  simpa using hgr
 ·by_cases hroom:n+m≤cap
  ·have hfit:n*i.size+news.length≤cur.size:=by rw [hsize];omega
   have hr:=run_append_room (P:=P) w t ty e i ht hi g n cap cur hg a m c news (by rw [hsize];omega) hnews h1 hroom hfit
   rw [hsize] at hr
   have hnew:(w.setRow g (cur.toList.take (n*1) ++ news ++ cur.toList.drop (n*1+news.length)).toArray).heap[g]?=some (.cells (cur.toList.take (n*1) ++ news ++ cur.toList.drop (n*1+news.length)).toArray e (0,0)):=setRow_heap w g cur _ e _ hg
   have hoth:∀ k,k≠g→(w.setRow g (cur.toList.take (n*1) ++ news ++ cur.toList.drop (n*1+news.length)).toArray).heap[k]?=w.heap[k]?:=fun k hk=>setRow_other w g k _ (fun e=>hk e)
   have hszn:(cur.toList.take (n*1) ++ news ++ cur.toList.drop (n*1+news.length)).length=cur.size:=by
    simp only [List.length_append,List.length_take,List.length_drop,Array.length_toList]
    omega
   rw [htake] at hr hnew hoth hszn
   have hgrown:w.grownBy (w.setRow g (xs ++ news ++ cur.toList.drop (n*1+news.length)).toArray) (Value.ownBlock (.slice (some ⟨g,0,none⟩) n cap)):=
    ⟨rfl,rfl,rfl,by simp,fun k _ hk=>hoth k (fun e=>hk (by simp [Value.ownBlock,e]))⟩
   refine ⟨_,_,hr,⟨⟨by rw [hlen];omega,.inr ⟨g,cap,_,by rw [← hn,hl],hbg,hnew,by omega,hcm,by rw [List.size_toArray,hszn];exact hcs,?_⟩⟩,hgrown,.inl rfl,by simp [Value.ownBlock],?_,?_⟩⟩
   ·rw [show (xs.length+news.length)*1=(xs ++ news).length from by simp]
    exact List.take_left
   ·intro b2 u k zs hu hor
    by_cases hne:u.ownBlock=Value.ownBlock (.slice (some ⟨g,0,none⟩) n cap)
    ·have hpre:zs <+: xs ++ news:=by rcases hor with h|h;exact absurd hne h;exact h
     refine ⟨hu.1,?_⟩
     rcases hu.2 with h|⟨g2,cap2,cur2,rfl,hb2,hg2,hn2,hc2,hs2,ht2⟩
     ·exact .inl h
     ·have e2:g2=g:=by simpa [Value.ownBlock] using hne
      subst e2
      rw [hg] at hg2
      obtain ⟨rfl⟩:cur=cur2:=by simpa using hg2
      refine .inr ⟨g2,cap2,_,rfl,hb2,hnew,hn2,hc2,by rw [List.size_toArray,hszn];exact hs2,?_⟩
      have hk:zs.length=k:=by have:=hu.1;omega
      obtain ⟨r,hr2⟩:=hpre
      rw [show k*1=zs.length from by omega,← hr2,List.append_assoc]
      exact List.take_left
    ·exact hu.kept hgrown (.inr hne)
   ·intro b2 u k zs hu
    by_cases hne:u.ownBlock=Value.ownBlock (.slice (some ⟨g,0,none⟩) n cap)
    ·rcases hu.2 with ⟨rfl,hh⟩|⟨g2,cap2,cur2,rfl,hb2,hg2,hn2,hc2,hs2,ht2⟩
     ·simp [Value.ownBlock] at hne
     ·have e2:g2=g:=by simpa [Value.ownBlock] using hne
      subst e2
      rw [hg] at hg2
      obtain ⟨rfl⟩:cur=cur2:=by simpa using hg2
      refine ⟨(xs ++ news ++ cur.toList.drop (n*1+news.length)).take (k*1),⟨?_,.inr ⟨g2,cap2,_,rfl,hb2,hnew,hn2,hc2,by rw [List.size_toArray,hszn];exact hs2,rfl⟩⟩,?_⟩
      ·rw [List.length_take,hszn];omega
      ·intro x hx
       rw [List.take_append] at hx
       rcases List.mem_append.1 hx with h|h
       ·rcases List.mem_append.1 (List.mem_of_mem_take h) with h|h
        ·exact .inr (.inl h)
        ·exact .inr (.inr h)
       ·left
        rw [← ht2]
        obtain ⟨j,hj⟩:=List.mem_iff_getElem?.1 h
        rw [List.getElem?_take] at hj
        split at hj
        ·rw [List.getElem?_drop] at hj
         apply List.mem_iff_getElem?.2
         refine ⟨n*1+news.length+j,?_⟩
         rw [List.getElem?_take,if_pos (by rw [hlen] at *;omega)]
         exact hj
        ·cases hj
    ·exact ⟨zs,hu.kept hgrown (.inr hne),fun x hx=>.inl hx⟩
  ·have holds:∀ j u,xs[j]?=some u→w.cell? ((⟨g,0,none⟩:Addr).add j)=some u:=hown.cells (g:=g) rfl
   have hr:=run_append_grow (P:=P) w t ty e i z ht hi hz ⟨g,0,none⟩ n cap xs (by rw [hsize];omega) holds a m c news (by rw [hsize];omega) hnews (by omega) (by omega) (growslice_fits (by omega) (by rw [hby];exact hbytes))
   exact ⟨_,_,hr,grown cap (by omega) _ rfl⟩
theorem wp_app {P:Program} (w:World) {o:Oper} {a:Act} {K:Act→World→Prop} {Q:Exit→Act→World→Prop} (s x:Operand) (t:TypeId)
  (ho:o.op=.call { callee:=.builtin .append,args:=#[s,x],argTypes:=#[t,t] })
  (base:Nat) (e:TypeId) (i:TypeInfo) (z:Value) (bytes:Nat) (ht:P.underlying t=some (.slice e)) (hi:P.info? e=some i) (hz:i.zero=some z)
  (hsize:i.size=1) (hby:i.bytes=bytes) (hzs:z.cells.size=1)
  (v:Value) (xs:List Value) (hs:a.eval s=v) (hown:w.ownsRow base e 1 v xs.length xs)
  (ad:Addr) (m c:Nat) (news:List Value) (hx:a.eval x=.slice (some ad) m c) (hl:news.length=m) (hm:0<m) (hnews:∀ j u,news[j]?=some u→w.cell? (ad.add j)=some u) (h1:∀ u∈news,u.oneCell'=true)
  (h63:xs.length+m≤maxLen) (hbytes:(xs.length+m)*bytes≤140737488355328) (hbase:base≤w.heap.size)
  (h:∀ v' w',App w w' base e v v' xs news→K (a.put o.dst v') w'):o.wp P a w K Q:=by
 obtain ⟨v',w',hr,h2⟩:=run_app (P:=P) w base t o.type e i z bytes ht hi hz hsize hby hzs v xs hown ad m c news hl hm hnews h1 h63 hbytes hbase
 unfold Oper.wp execOp
 simp only [ho,resolve,invoke,builtin,Sem.run_bind,Sem.run_pure,Result.andThen_ok,List.map_toArray,List.map_cons,List.map_nil,hs,hx,hr]
 exact h v' w' h2
theorem wpList_app {P:Program} (w:World) {ops:Array Oper} {rest:List Oper} {o:Oper} {a:Act} {Q:Exit→Act→World→Prop} (hgd:o.guard=none) (s x:Operand) (t:TypeId)
  (ho:o.op=.call { callee:=.builtin .append,args:=#[s,x],argTypes:=#[t,t] })
  (base:Nat) (e:TypeId) (i:TypeInfo) (z:Value) (bytes:Nat) (ht:P.underlying t=some (.slice e)) (hi:P.info? e=some i) (hz:i.zero=some z)
  (hsize:i.size=1) (hby:i.bytes=bytes) (hzs:z.cells.size=1)
  (v:Value) (xs:List Value) (hs:a.eval s=v) (hown:w.ownsRow base e 1 v xs.length xs)
  (ad:Addr) (m c:Nat) (news:List Value) (hx:a.eval x=.slice (some ad) m c) (hl:news.length=m) (hm:0<m) (hnews:∀ j u,news[j]?=some u→w.cell? (ad.add j)=some u) (h1:∀ u∈news,u.oneCell'=true)
  (h63:xs.length+m≤maxLen) (hbytes:(xs.length+m)*bytes≤140737488355328) (hbase:base≤w.heap.size)
  (h:∀ v' w',App w w' base e v v' xs news→wpList P ops Q rest (a.put o.dst v') w'):wpList P ops Q (o :: rest) a w:=
 wpList_plain hgd fun _ hK=>wp_app w s x t ho base e i z bytes ht hi hz hsize hby hzs v xs hs hown ad m c news hx hl hm hnews h1 h63 hbytes hbase fun v' w' h2=>hK _ _ (h v' w' h2)
theorem step_app {P:Program} {ops:Array Oper} {o:Oper} {a:Act} {w:World} {K:Act→World→Prop} {Q:Exit→Act→World→Prop} {E:Prop}
  (hg:o.guard=none) (s x:Operand) (t:TypeId) (ho:o.op=.call { callee:=.builtin .append,args:=#[s,x],argTypes:=#[t,t] })
  (base:Nat) (e:TypeId) (i:TypeInfo) (z:Value) (bytes:Nat) (ht:P.underlying t=some (.slice e)) (hi:P.info? e=some i) (hz:i.zero=some z)
  (hsize:i.size=1) (hby:i.bytes=bytes) (hzs:z.cells.size=1)
  (v:Value) (xs:List Value) (hs:a.eval s=v) (hown:w.ownsRow base e 1 v xs.length xs)
  (ad:Addr) (m c:Nat) (news:List Value) (hx:a.eval x=.slice (some ad) m c) (hl:news.length=m) (hm:0<m) (hnews:∀ j u,news[j]?=some u→w.cell? (ad.add j)=some u) (h1:∀ u∈news,u.oneCell'=true)
  (h63:xs.length+m≤maxLen) (hbytes:(xs.length+m)*bytes≤140737488355328) (hbase:base≤w.heap.size)
  (h:∀ v' w',App w w' base e v v' xs news→K (a.put o.dst v') w') :
  if Region.wanted o (yielded ops a.tmps)=true then Oper.wp P o a w K Q else E:=by
 have hw:Region.wanted o (yielded ops a.tmps)=true:=by simp [Region.wanted,hg]
 rw [if_pos hw]
 exact wp_app w s x t ho base e i z bytes ht hi hz hsize hby hzs v xs hs hown ad m c news hx hl hm hnews h1 h63 hbytes hbase h
end Go.Proofs.Ytbeikcckcjadbaa.Bk
end
section
namespace Go.Proofs.Ytbeikcckcjadbaa.Im
open Go.RowKit Go.Proofs.YtbeikcckcjadbaaW.PrintWords Go.Proofs.Ytbeikcckcjadbaa.PI Go.Proofs.Ytbeikcckcjadbaa.Ln Go.Proofs.Ytbeikcckcjadbaa.Bk Go.ChangeMaps Go.MapKept
theorem own_ch {w w':World} {S:Nat→Prop} {base n:Nat} {e:TypeId} {v:Value} {xs:List Value} (h:w.ownsRow base e 1 v n xs) (hc:Ch w w' S) (hs:∀ k,v.ownBlock=some k→¬ S k):w'.ownsRow base e 1 v n xs:=by
 refine ⟨h.1,?_⟩
 rcases h.2 with hn|⟨g,cap,cur,hv,hb,hg,rest⟩
 ·exact .inl hn
 ·refine .inr ⟨g,cap,cur,hv,hb,?_,rest⟩
  rw [hc.block g (blk_lt hg) (hs g (by rw [hv];rfl))];exact hg
theorem Ch.grown {w w':World} {o:Option Nat} (h:w.grownBy w' o):Ch w w' (fun k=>o=some k):=⟨h.os,h.tape,h.output,h.size,fun i hi hn=>h.block i hi fun e=>hn e.symm⟩
theorem Ch.setBlock {w:World} (b:Nat) (M:Obj):Ch w (setBlock w b M) (fun k=>k=b):=⟨rfl,rfl,rfl,by rw [setBlock_size];exact Nat.le_refl _,fun i _ hn=>setBlock_other w b M hn⟩
def TO (t b:Nat) (NV PV:Value) (k:Nat):Prop:=k=t∨k=b∨NV.ownBlock=some k∨PV.ownBlock=some k
structure Tb (w:World) (base t b:Nat) (NV PV:Value) (xs ys:List Value) (rs:List (ByteArray × Int)) (e:Int):Prop where
 hd:Blk w t 120 #[NV,PV,.map (some b),.int .i64 e]
 ns:w.ownsRow base 9 1 NV xs.length xs
 ps:w.ownsRow base 3 1 PV ys.length ys
 mp:Names w b rs
 bt:base≤t
 bb:base≤b
section
variable {w w':World} {base t b:Nat} {NV PV:Value} {xs ys:List Value} {rs:List (ByteArray × Int)} {e:Int} {S:Nat→Prop}
theorem Names.obj (h:Names w b rs):∃ es c,w.heap[b]?=some (.map es c):=by
 obtain ⟨es,c,h1,_⟩:=h
 exact ⟨es,c,h1⟩
theorem Names.lt (h:Names w b rs):b<w.heap.size:=by
 obtain ⟨es,c,h1⟩:=h.obj
 exact (Array.getElem?_eq_some_iff.1 h1).1
theorem own_obj {n:Nat} {u:TypeId} {v:Value} {zs:List Value} (h:w.ownsRow base u 1 v n zs) {k:Nat} (hk:v.ownBlock=some k):∃ cur,w.heap[k]?=some (.cells cur u (0,0)):=by
 rcases h.2 with ⟨hn,_⟩|⟨g,cap,cur,hv,hb,hg,rest⟩
 ·rw [hn] at hk;cases hk
 ·rw [hv] at hk
  have:g=k:=by simpa [Value.ownBlock] using hk
  subst this
  exact ⟨cur,hg⟩
theorem Tb.tb (h:Tb w base t b NV PV xs ys rs e):¬ t=b:=by
 rintro rfl
 obtain ⟨es,c,h1⟩:=h.mp.obj
 have:=h.hd
 unfold Blk at this
 rw [h1] at this
 injection this with this
 cases this
theorem Tb.nt (h:Tb w base t b NV PV xs ys rs e):¬ NV.ownBlock=some t:=fun hk=>by
 obtain ⟨cur,h1⟩:=own_obj h.ns hk
 have:=h.hd
 unfold Blk at this
 rw [h1] at this
 injection this with this
 injection this with _ h2 _
 revert h2;decide
theorem Tb.pt (h:Tb w base t b NV PV xs ys rs e):¬ PV.ownBlock=some t:=fun hk=>by
 obtain ⟨cur,h1⟩:=own_obj h.ps hk
 have:=h.hd
 unfold Blk at this
 rw [h1] at this
 injection this with this
 injection this with _ h2 _
 revert h2;decide
theorem Tb.nb (h:Tb w base t b NV PV xs ys rs e):¬ NV.ownBlock=some b:=fun hk=>by
 obtain ⟨cur,h1⟩:=own_obj h.ns hk
 obtain ⟨es,c,h2⟩:=h.mp.obj
 rw [h1] at h2
 injection h2 with h2
 cases h2
theorem Tb.pb (h:Tb w base t b NV PV xs ys rs e):¬ PV.ownBlock=some b:=fun hk=>by
 obtain ⟨cur,h1⟩:=own_obj h.ps hk
 obtain ⟨es,c,h2⟩:=h.mp.obj
 rw [h1] at h2
 injection h2 with h2
 cases h2
theorem Tb.np (h:Tb w base t b NV PV xs ys rs e) (k:Nat) (hk:NV.ownBlock=some k):¬ PV.ownBlock=some k:=fun hk2=>by
 obtain ⟨cur,h1⟩:=own_obj h.ns hk
 obtain ⟨cur2,h2⟩:=own_obj h.ps hk2
 rw [h1] at h2
 injection h2 with h2
 injection h2 with _ h2 _
 revert h2;decide
theorem Tb.ch (h:Tb w base t b NV PV xs ys rs e) (hc:Ch w w' S) (hs:∀ k,TO t b NV PV k→¬ S k):Tb w' base t b NV PV xs ys rs e:=
 ⟨hc.blk h.hd (hs t (.inl rfl)),own_ch h.ns hc (fun k hk=>hs k (.inr (.inr (.inl hk)))),own_ch h.ps hc (fun k hk=>hs k (.inr (.inr (.inr hk)))),h.mp.block (hc.block b h.mp.lt (hs b (.inr (.inl rfl)))),h.bt,h.bb⟩
theorem Tb.alloc (h:Tb w base t b NV PV xs ys rs e) (o:Obj):Tb (w.alloc o) base t b NV PV xs ys rs e:=h.ch ((Ch.refl w (fun _=>False)).alloc o) (fun _ _ h=>h)
theorem Tb.lt (h:Tb w base t b NV PV xs ys rs e) (k:Nat) (hk:TO t b NV PV k):k<w.heap.size:=by
 rcases hk with rfl|rfl|hk|hk
 ·exact h.hd.lt
 ·exact h.mp.lt
 ·obtain ⟨_,h1⟩:=own_obj h.ns hk;exact blk_lt h1
 ·obtain ⟨_,h1⟩:=own_obj h.ps hk;exact blk_lt h1
theorem Tb.ge (h:Tb w base t b NV PV xs ys rs e) (k:Nat) (hk:TO t b NV PV k):base≤k:=by
 rcases hk with rfl|rfl|hk|hk
 ·exact h.bt
 ·exact h.bb
 ·exact own_base h.ns k hk
 ·exact own_base h.ps k hk
theorem Tb.names (h:Tb w base t b NV PV xs ys rs e) {v:Value} {news:List Value} (hA:App w w' base 9 NV v xs news) (hl:news.length=1) :
  Tb (w'.setCell ⟨t,0,none⟩ v) base t b v PV (xs ++ news) ys rs e∧Ch w (w'.setCell ⟨t,0,none⟩ v) (TO t b NV PV)∧∀ k,TO t b v PV k→TO t b NV PV k∨w.heap.size≤k:=by
 have hg:=Ch.grown hA.grown
 have hc:Ch w (w'.setCell ⟨t,0,none⟩ v) (TO t b NV PV):=(hg.mono (fun k hk=>.inr (.inr (.inl hk)))).set_ _ _ (.inl (.inl rfl))
 have hv:∀ k,v.ownBlock=some k→NV.ownBlock=some k∨w.heap.size≤k:=fun k hk=>by
  rcases hA.where_ with e|⟨j,hj,e⟩
  ·exact .inl (e ▸ hk)
  ·rw [e] at hk;cases hk;exact .inr hj
 have hvt:∀ k,v.ownBlock=some k→¬ k=t:=fun k hk e2=>by
  subst e2
  rcases hv k hk with h1|h1
  ·exact h.nt h1
  ·have:=h.hd.lt;omega
 refine ⟨⟨?_,?_,?_,?_,h.bt,h.bb⟩,hc,fun k hk=>?_⟩
 ·have:=(hg.blk h.hd h.nt).set_ 0 v
  exact this
 ·have h3:=hA.row
  have h4:=own_setCell h3 (p:=⟨t,0,none⟩) (fun e2=>hvt t e2.symm rfl) v
  rw [List.length_append];exact h4
 ·have h3:=own_ch h.ps hg (fun k hk=>fun h5=>h.np k h5 hk)
  exact own_setCell h3 (p:=⟨t,0,none⟩) (fun e2=>h.pt e2.symm) v
 ·exact h.mp.block (((hg.mono (S2:=fun k=>NV.ownBlock=some k∨k=t) (fun k hk=>.inl hk)).set_ ⟨t,0,none⟩ v (.inl (.inr rfl))).block b h.mp.lt (fun h5=>h5.elim h.nb (fun h6=>h.tb h6.symm)))
 ·rcases hk with rfl|rfl|hk|hk
  ·exact .inl (.inl rfl)
  ·exact .inl (.inr (.inl rfl))
  ·exact (hv k hk).imp (fun h1=>.inr (.inr (.inl h1))) id
  ·exact .inl (.inr (.inr (.inr hk)))
theorem Tb.places (h:Tb w base t b NV PV xs ys rs e) {v:Value} {news:List Value} (hA:App w w' base 3 PV v ys news) (hl:news.length=1) :
  Tb (w'.setCell ⟨t,1,none⟩ v) base t b NV v xs (ys ++ news) rs e∧Ch w (w'.setCell ⟨t,1,none⟩ v) (TO t b NV PV)∧∀ k,TO t b NV v k→TO t b NV PV k∨w.heap.size≤k:=by
 have hg:=Ch.grown hA.grown
 have hc:Ch w (w'.setCell ⟨t,1,none⟩ v) (TO t b NV PV):=(hg.mono (fun k hk=>.inr (.inr (.inr hk)))).set_ _ _ (.inl (.inl rfl))
 have hv:∀ k,v.ownBlock=some k→PV.ownBlock=some k∨w.heap.size≤k:=fun k hk=>by
  rcases hA.where_ with e|⟨j,hj,e⟩
  ·exact .inl (e ▸ hk)
  ·rw [e] at hk;cases hk;exact .inr hj
 have hvt:∀ k,v.ownBlock=some k→¬ k=t:=fun k hk e2=>by
  subst e2
  rcases hv k hk with h1|h1
  ·exact h.pt h1
  ·have:=h.hd.lt;omega
 refine ⟨⟨?_,?_,?_,?_,h.bt,h.bb⟩,hc,fun k hk=>?_⟩
 ·have:=(hg.blk h.hd h.pt).set_ 1 v
  exact this
 ·have h3:=own_ch h.ns hg (fun k hk=>fun h5=>h.np k hk h5)
  exact own_setCell h3 (p:=⟨t,1,none⟩) (fun e2=>h.nt e2.symm) v
 ·have h3:=hA.row
  have h4:=own_setCell h3 (p:=⟨t,1,none⟩) (fun e2=>hvt t e2.symm rfl) v
  rw [List.length_append];exact h4
 ·exact h.mp.block (((hg.mono (S2:=fun k=>PV.ownBlock=some k∨k=t) (fun k hk=>.inl hk)).set_ ⟨t,1,none⟩ v (.inl (.inr rfl))).block b h.mp.lt (fun h5=>h5.elim h.pb (fun h6=>h.tb h6.symm)))
 ·rcases hk with rfl|rfl|hk|hk
  ·exact .inl (.inl rfl)
  ·exact .inl (.inr (.inl rfl))
  ·exact .inl (.inr (.inr (.inl hk)))
  ·exact (hv k hk).imp (fun h1=>.inr (.inr (.inr h1))) id
theorem Tb.map (h:Tb w base t b NV PV xs ys rs e) (M:Obj) (rs':List (ByteArray × Int)) (hM:Names (setBlock w b M) b rs'):Tb (setBlock w b M) base t b NV PV xs ys rs' e∧Ch w (setBlock w b M) (TO t b NV PV):=by
 have hc:=Ch.setBlock (w:=w) b M
 exact ⟨⟨hc.blk h.hd h.tb,own_ch h.ns hc (fun k hk e=>h.nb (e ▸ hk)),own_ch h.ps hc (fun k hk e=>h.pb (e ▸ hk)),hM,h.bt,h.bb⟩,hc.mono (fun k hk=>.inr (.inl hk))⟩
theorem Tb.fin (h:Tb w base t b NV PV xs ys rs e) (e':Int):Tb (w.setCell ⟨t,3,none⟩ (.int .i64 e')) base t b NV PV xs ys rs e'∧Ch w (w.setCell ⟨t,3,none⟩ (.int .i64 e')) (TO t b NV PV):=by
 have hc:Ch w (w.setCell ⟨t,3,none⟩ (.int .i64 e')) (fun k=>k=t):=(Ch.refl w _).set_ _ _ (.inl rfl)
 refine ⟨⟨?_,own_ch h.ns hc (fun k hk e=>h.nt (e ▸ hk)),own_ch h.ps hc (fun k hk e=>h.pt (e ▸ hk)),h.mp.block (hc.block b h.mp.lt (fun e=>h.tb e.symm)),h.bt,h.bb⟩,hc.mono (fun k hk=>.inl hk)⟩
 exact h.hd.set_ 3 (.int .i64 e')
end
end Go.Proofs.Ytbeikcckcjadbaa.Im
end
section
namespace Go.Proofs.Ytbeikcckcjadbaa.Im
open Go.RowKit Go.Proofs.YtbeikcckcjadbaaW.PrintWords Go.Proofs.Ytbeikcckcjadbaa.PI Go.Proofs.Ytbeikcckcjadbaa.Ln Go.Proofs.Ytbeikcckcjadbaa.Bk Go.ChangeMaps Go.MapKept
attribute [local go_sem] isSome_setCell
theorem info9:(Try.prog.info? 9).map (fun i=>(i.zero,i.size,i.bytes))=some (some (.string ByteArray.empty),1,16):=by kernel_rfl
theorem info3:(Try.prog.info? 3).map (fun i=>(i.zero,i.size,i.bytes))=some (some (.int .i64 0),1,8):=by kernel_rfl
theorem one_new (w:World) (v:Value) (t:TypeId):∀ j u,[v][j]?=some u→(w.alloc (.cells #[v] t)).cell? ((⟨w.heap.size,0,none⟩:Addr).add j)=some u:=by
 intro j u hu
 rw [add_zero_block,(Blk.new w t #[v]).cell]
 match j,hu with
 | 0,hu=>simpa using hu
theorem shape {w:World} {base n:Nat} {e:TypeId} {v:Value} {xs:List Value} (h:w.ownsRow base e 1 v n xs):∃ A c,v=.slice A n c:=own_slice h
def Added (w:World) (base t b:Nat) (NV PV:Value) (xs ys:List Value) (rs:List (ByteArray × Int)) (e:Int) (w':World):Prop:=
 ∃ NV' PV',Tb w' base t b NV' PV' xs ys rs e∧Ch w w' (TO t b NV PV)∧∀ k,TO t b NV' PV' k→TO t b NV PV k∨w.heap.size≤k
theorem put_ (w:World) (base t b:Nat) (NV PV:Value) (xs ys:List Value) (rs:List (ByteArray × Int)) (e:Int) (s:ByteArray) (h:Tb w base t b NV PV xs ys rs e) (hn:∀ p∈rs,p.1≠s) (hs:s.size≤64) (hx:xs.length≤4194304) (hy:ys.length≤4194304)
  (h0:0≤e) (he:e≤1099511627776) (hb:base≤w.heap.size) :
  Calls Try.prog 75 #[.pointer (some ⟨t,0,none⟩),.string s] w fun en w'=>en=.returned (.int .i64 e)∧Added w base t b NV PV (xs ++ [.string s]) (ys ++ [.int .i64 e]) ((s,e) :: rs) (e+((s.size:Int)+1)) w':=by
 obtain ⟨i9,hi9,hz0,hz1,hz2⟩:=info_parts info9
 obtain ⟨i3,hi3,hy0,hy1,hy2⟩:=info_parts info3
 have H:=Lib.hid h
 have HN:=Lib.hid hn
 have c3:=h.hd.cell 3
 simp only [List.getElem?_toArray,List.getElem?_cons_zero,List.getElem?_cons_succ] at c3
 clear h hn
 go_enter Try.func75,Try.ntmps75
 refine wp_seq_k (fun K hK=>?_)
 have HK:=Lib.hid hK
 clear hK
 go_wp2
 refine HK.out _ _ ?_
 clear HK
 refine wp_seq_k (fun K hK=>?_)
 have HK:=Lib.hid hK
 clear hK
 go_wp2
 refine HK.out _ _ ?_
 clear HK c3
 refine wp_seq_k (fun K hK=>?_)
 have HK:=Lib.hid hK
 clear hK
 go_wp2_with (go_at_call 92;refine (clone_ s w (by omega)).mono ?_;rintro en w1 ⟨rfl,hbw⟩;have HB1:=Lib.hid hbw;clear hbw)
 refine HK.out _ _ ?_
 clear HK
 have H1:=Lib.hid (H.out.ch (Ch.below HB1.out (fun _=>False)) (fun _ _ h=>h))
 have HC1:=Lib.hid (Ch.below HB1.out (TO t b NV PV))
 clear HB1
 refine wp_seq_k (fun K hK=>?_)
 have HK:=Lib.hid hK
 clear hK
 have c0:=H1.out.hd.cell 0
 have f0:=H1.out.hd.frozen 0
 simp only [List.getElem?_toArray,List.getElem?_cons_zero,List.getElem?_cons_succ] at c0
 go_wp2_with (at_builtin;refine wpList_app _ rfl _ _ 88 rfl base 9 i9 (.string ByteArray.empty) 16 Try.underlying88 hi9 hz0 hz1 hz2 rfl NV xs rfl ?q1 ⟨w1.heap.size,0,none⟩ 1 1 [.string s] rfl rfl (by decide) ?q2 ?q3 ?q4 ?q5 ?q6 ?_)
 case q1=>exact (H1.out.alloc _).ns
 case q2=>exact one_new _ _ _
 case q3=>intro u hu;rw [List.mem_singleton.1 hu];rfl
 case q4=>unfold maxLen;omega
 case q5=>omega
 case q6=>have:=HC1.out.size;simp only [World.size_alloc];omega
 intro v1 w2 hA
 obtain ⟨A1,k1,e1⟩:=shape hA.row
 have HA:=Lib.hid ((H1.out.alloc _).names hA rfl)
 have hp:w2.cell? ⟨t,0,none⟩=some NV:=((Ch.grown hA.grown).cell (by have:=((H1.out.alloc (.cells #[.string s] 9)).hd).cell 0;simpa using this) (H1.out.nt))
 have fp:=(((Ch.grown hA.grown)).blk ((H1.out.alloc (.cells #[.string s] 9)).hd) H1.out.nt).frozen 0
 clear hA
 subst e1
 go_wp2
 refine HK.out _ _ ?_
 clear HK c0 f0 hp fp
 have HC2:=Lib.hid ((HC1.out.alloc (.cells #[.string s] 9)).trans HA.out.2.1 (fun _ _ h=>h))
 have HO2:=Lib.hid (show ∀ k,TO t b (.slice A1 (xs.length+[Value.string s].length) k1) PV k→TO t b NV PV k∨w.heap.size≤k from fun k hk=>(HA.out.2.2 k hk).imp id (fun h=>by have:=HC1.out.size;rw [World.size_alloc] at h;omega))
 have H2:=Lib.hid HA.out.1
 clear HA HC1
 generalize w2.setCell ⟨t,0,none⟩ (.slice A1 (xs.length+[Value.string s].length) k1)=w3 at H2 HC2 ⊢
 generalize Value.slice A1 (xs.length+[Value.string s].length) k1=NV2 at H2 HO2
 refine wp_seq_k (fun K hK=>?_)
 have HK:=Lib.hid hK
 clear hK
 have c0:=H2.out.hd.cell 1
 have f0:=H2.out.hd.frozen 1
 simp only [List.getElem?_toArray,List.getElem?_cons_zero,List.getElem?_cons_succ] at c0
 go_wp2_with (at_builtin;refine wpList_app _ rfl _ _ 77 rfl base 3 i3 (.int .i64 0) 8 Try.underlying77 hi3 hy0 hy1 hy2 rfl PV ys rfl ?q1 ⟨w3.heap.size,0,none⟩ 1 1 [.int .i64 e] rfl rfl (by decide) ?q2 ?q3 ?q4 ?q5 ?q6 ?_)
 case q1=>exact (H2.out.alloc _).ps
 case q2=>exact one_new _ _ _
 case q3=>intro u hu;rw [List.mem_singleton.1 hu];rfl
 case q4=>unfold maxLen;omega
 case q5=>omega
 case q6=>have:=HC2.out.size;simp only [World.size_alloc];omega
 intro v2 w4 hA
 obtain ⟨A2,k2,e2⟩:=shape hA.row
 have HA:=Lib.hid ((H2.out.alloc _).places hA rfl)
 have hp:w4.cell? ⟨t,1,none⟩=some PV:=((Ch.grown hA.grown).cell (by have:=((H2.out.alloc (.cells #[.int .i64 e] 3)).hd).cell 1;simpa using this) (H2.out.pt))
 have fp:=(((Ch.grown hA.grown)).blk ((H2.out.alloc (.cells #[.int .i64 e] 3)).hd) H2.out.pt).frozen 1
 clear hA
 subst e2
 go_wp2
 refine HK.out _ _ ?_
 clear HK c0 f0 hp fp
 have HO4:=Lib.hid (show ∀ k,TO t b NV2 (.slice A2 (ys.length+[Value.int .i64 e].length) k2) k→TO t b NV PV k∨w.heap.size≤k from fun k hk=>(HA.out.2.2 k hk).elim (fun h=>HO2.out k h) (fun h=>.inr (by have:=HC2.out.size;rw [World.size_alloc] at h;omega)))
 have HC4:=Lib.hid ((HC2.out.alloc (.cells #[.int .i64 e] 3)).trans HA.out.2.1 (fun k hk h=>(HO2.out k h).elim id (fun h2=>absurd h2 (by omega))))
 have H4:=Lib.hid HA.out.1
 clear HA HC2 HO2 H2
 generalize w4.setCell ⟨t,1,none⟩ (.slice A2 (ys.length+[Value.int .i64 e].length) k2)=w5 at H4 HC4 ⊢
 generalize Value.slice A2 (ys.length+[Value.int .i64 e].length) k2=PV2 at H4 HO4
 refine wp_seq_k (fun K hK=>?_)
 have HK:=Lib.hid hK
 clear hK
 have c0:=H4.out.hd.cell 2
 simp only [List.getElem?_toArray,List.getElem?_cons_zero,List.getElem?_cons_succ] at c0
 obtain ⟨M,hM,hM2⟩:=H4.out.mp.put e (s:=s) (by unfold maxLen;omega) HN.out
 go_wp2
 refine HK.out _ _ ?_
 clear HK c0 hM
 have HA:=Lib.hid (H4.out.map M ((s,e) :: rs) (hM2 _ (setBlock_same H4.out.mp.lt M)))
 have HC5:=Lib.hid (HC4.out.trans HA.out.2 (fun k hk h=>(HO4.out k h).elim id (fun h2=>absurd h2 (by omega))))
 have H5:=Lib.hid HA.out.1
 clear HA hM2 HC4 H4
 generalize setBlock w5 b M=w6 at H5 HC5 ⊢
 refine wp_seq_k (fun K hK=>?_)
 have HK:=Lib.hid hK
 clear hK
 have c0:=H5.out.hd.cell 3
 have f0:=H5.out.hd.frozen 3
 simp only [List.getElem?_toArray,List.getElem?_cons_zero,List.getElem?_cons_succ] at c0
 go_wp2
 refine HK.out _ _ ?_
 clear HK c0 f0
 go_wp2
 go_ret
 have h6:=H5.out.fin (e+((s.size:Int)+1))
 exact ⟨rfl,NV2,PV2,h6.1,HC5.out.trans h6.2 (fun k hk h=>(HO4.out k h).elim id (fun h2=>absurd h2 (by omega))),HO4.out⟩
end Go.Proofs.Ytbeikcckcjadbaa.Im
end
section
namespace Go.Proofs.Ytbeikcckcjadbaa.Im
open Go.RowKit Go.Proofs.YtbeikcckcjadbaaW.PrintWords Go.Proofs.Ytbeikcckcjadbaa.PI Go.Proofs.Ytbeikcckcjadbaa.Ln Go.Proofs.Ytbeikcckcjadbaa.Bk Go.ChangeMaps Go.MapKept
attribute [local go_sem] isSome_setCell
theorem make118 (w:World):(Instr.makeMap 118 none).run Try.prog w=.ok (.map (some w.heap.size)) (w.alloc (.map #[] 0)):=by
 simp [Instr.makeMap,run_underlying Try.underlying118,Result.andThen]
def nilS:Value:=.slice none 0 0
theorem new_ (w:World) (base:Nat) (hb:base≤w.heap.size):Calls Try.prog 35 #[] w fun en w'=>∃ t b,en=.returned (.pointer (some ⟨t,0,none⟩))∧Tb w' base t b nilS nilS [] [] [] 1∧Below w.heap.size w w'∧w.heap.size≤t∧w.heap.size≤b:=by
 have hm:=make118 w
 go_enter Try.func35,Try.ntmps35
 go_wp2
 go_ret
 have hz:(w.alloc (.map #[] 0)).heap.size=w.heap.size+1:=World.size_alloc w _
 have hk:Blk ((w.alloc (.map #[] 0)).alloc (.cells #[nilS,nilS,.map (some w.heap.size),.int .i64 1] 120)) (w.heap.size+1) 120 #[nilS,nilS,.map (some w.heap.size),.int .i64 1]:=by
  have:=Blk.new (w.alloc (.map #[] 0)) 120 #[nilS,nilS,.map (some w.heap.size),.int .i64 1]
  rwa [hz] at this
 have hc:Ch (w.alloc (.map #[] 0)) ((w.alloc (.map #[] 0)).alloc (.cells #[nilS,nilS,.map (some w.heap.size),.int .i64 1] 120)) (fun _=>False):=(Ch.refl _ _).alloc _
 refine ⟨_,_,rfl,⟨hk,own_nil _ _ _ _,own_nil _ _ _ _,(Names.made w).block (hc.block w.heap.size (by omega) (fun h=>h)),by omega,hb⟩,?_,by omega,Nat.le_refl _⟩
 exact bdA (bdA (Below.refl _ w) _) _
theorem add_old (w:World) (base t b:Nat) (NV PV:Value) (xs ys:List Value) (rs:List (ByteArray × Int)) (e:Int) (p:ByteArray × Int) (h:Tb w base t b NV PV xs ys rs e) (hp:p∈rs) (hn:nm p.1=true) :
  Calls Try.prog 38 #[.pointer (some ⟨t,0,none⟩),.string p.1] w fun en w'=>en=.returned (.tuple #[.int .i64 p.2,.int .i64 0])∧w'=w:=by
 have hl:=h.mp.there hp
 have c2:=h.hd.cell 2
 simp only [List.getElem?_toArray,List.getElem?_cons_zero,List.getElem?_cons_succ] at c2
 clear h hp
 go_enter Try.func38,Try.ntmps38
 go_wp2_with (go_at_call 74;refine (sn_ p.1 hn _).mono ?_;rintro en w1 ⟨rfl,rfl⟩)
 go_ret2
 exact ⟨rfl,rfl⟩
theorem add_new (w:World) (base t b:Nat) (NV PV:Value) (xs ys:List Value) (rs:List (ByteArray × Int)) (e:Int) (s:ByteArray) (h:Tb w base t b NV PV xs ys rs e) (hn:nm s=true) (hno:∀ p∈rs,p.1≠s) (hx:xs.length≤4194304) (hy:ys.length≤4194304)
  (h0:0≤e) (he:e≤1099511627776) (hb:base≤w.heap.size) :
  Calls Try.prog 38 #[.pointer (some ⟨t,0,none⟩),.string s] w fun en w'=>en=.returned (.tuple #[.int .i64 e,.int .i64 0])∧Added w base t b NV PV (xs ++ [.string s]) (ys ++ [.int .i64 e]) ((s,e) :: rs) (e+((s.size:Int)+1)) w':=by
 have hs:s.size≤64:=(of_decide_eq_true hn).2.1
 have hl:=h.mp.nowhere (s:=s) (by unfold maxLen;omega) hno
 have c2:=h.hd.cell 2
 simp only [List.getElem?_toArray,List.getElem?_cons_zero,List.getElem?_cons_succ] at c2
 have HP:=Lib.hid (put_ w base t b NV PV xs ys rs e s h hno hs hx hy h0 he hb)
 clear h hno
 go_enter Try.func38,Try.ntmps38
 go_wp2_with (first|(go_at_call 74;refine (sn_ s hn _).mono ?_;rintro en w1 ⟨rfl,rfl⟩)|(go_at_call 75;refine HP.out.mono ?_;rintro en w1 ⟨rfl,hA⟩;have HA:=Lib.hid hA;clear hA))
 go_ret2
 exact ⟨rfl,HA.out⟩
end Go.Proofs.Ytbeikcckcjadbaa.Im
end
section
namespace Go.Proofs.Ytbeikcckcjadbaa.Im
open Go.RowKit Go.Proofs.YtbeikcckcjadbaaW.PrintWords Go.Proofs.Ytbeikcckcjadbaa.PI Go.Proofs.Ytbeikcckcjadbaa.Ln Go.Proofs.Ytbeikcckcjadbaa.Bk Go.ChangeMaps Go.MapKept
attribute [local go_sem] isSome_setCell
def tbytes (ss:List ByteArray):List Int:=ss.flatMap (fun s=>bytesOf s ++ [0])
theorem tbytes_append (a b:List ByteArray):tbytes (a ++ b)=tbytes a ++ tbytes b:=List.flatMap_append
theorem tbytes_snoc (a:List ByteArray) (s:ByteArray):tbytes (a ++ [s])=tbytes a ++ (bytesOf s ++ [0]):=by rw [tbytes_append];simp [tbytes]
theorem tbytes_next (ss:List ByteArray) (k:Nat) (s:ByteArray) (h:ss[k]?=some s):tbytes (ss.take (k+1))=tbytes (ss.take k) ++ (bytesOf s ++ [0]):=by
 rw [List.take_add_one,h]
 exact tbytes_snoc _ _
theorem tbytes_le (ss:List ByteArray) (k:Nat):(tbytes (ss.take k)).length≤(tbytes ss).length:=by
 conv=>rhs;rw [← List.take_append_drop k ss,tbytes_append,List.length_append]
 omega
def Bt (w:World) (base:Nat) (v:Value) (l:List Int):Prop:=w.ownsRow base 5 1 v l.length (nums .u8 l)
theorem Bt.zero (w:World) (base m:Nat) (h1:1≤m) (hm:m≤1099511627776) (hb:base≤w.heap.size):Bt (w.alloc (.cells (madeCells #[.int .u8 0] m) 5)) base (.slice (some ⟨w.heap.size,0,none⟩) 1 m) [0]:=by
 refine ⟨rfl,.inr ⟨w.heap.size,m,_,rfl,hb,heap_alloc_new w _,h1,by unfold maxLen;omega,(size_madeCells _ _).trans (Nat.mul_one m).symm,?_⟩⟩
 rw [toList_madeCells_one,List.take_replicate,show min ([(0:Int)].length*1) m=1 from by simp;omega]
 rfl
theorem Bt.str {ops:Array Oper} {rest:List Oper} {o:Oper} {a:Act} {Q:Exit→Act→World→Prop} {w:World} (hgd:o.guard=none) (sl x:Operand)
  (ho:o.op=.call { callee:=.builtin .append,args:=#[sl,x],argTypes:=#[33,9] }) {base:Nat} {v:Value} {l:List Int} (hB:Bt w base v l) {s:ByteArray}
  (hs:a.eval sl=v) (hx:a.eval x=.string s) (hl:l.length+s.size≤1099511627780) (hbase:base≤w.heap.size)
  (h:∀ v' w',Bt w' base v' (l ++ bytesOf s)→w.grownBy w' v.ownBlock→wpList Try.prog ops Q rest (a.put o.dst v') w'):wpList Try.prog ops Q (o :: rest) a w:=by
 obtain ⟨i5,hi5,hz0,hz1,hz2⟩:=info_parts info5
 refine Lib.wpList_append_own_string w hgd sl x 33 9 ho base 5 i5 Try.underlying33 Try.underlying9 hi5 hz0 hz1 hz2 v l.length (nums .u8 l) hs hB s hx (by unfold maxLen;omega) (by omega) hbase ?_
 intro v2 w2 ho2 hg2 _
 have hcs:nums .u8 l ++ Lib.strCells s=nums .u8 (l ++ bytesOf s):=by
  rw [nums_append];congr 1;simp [nums,bytesOf,Lib.strCells]
 rw [hcs] at ho2
 refine h v2 w2 ?_ hg2
 unfold Bt
 rw [List.length_append,bytesOf_length]
 exact ho2
theorem Bt.app {ops:Array Oper} {rest:List Oper} {o:Oper} {a:Act} {Q:Exit→Act→World→Prop} {w:World} (hgd:o.guard=none) (sl x:Operand)
  (ho:o.op=.call { callee:=.builtin .append,args:=#[sl,x],argTypes:=#[33,33] }) {base:Nat} {v:Value} {l:List Int} (hB:Bt w base v l) {ad:Addr} {m c:Nat} (news:List Int)
  (hs:a.eval sl=v) (hx:a.eval x=.slice (some ad) m c) (hm:news.length=m) (h0:0<m) (hn:∀ (j:Nat) (u:Value),(nums .u8 news)[j]?=some u→w.cell? (ad.add j)=some u) (hl:l.length+news.length≤1099511627780) (hbase:base≤w.heap.size)
  (h:∀ v' w',Bt w' base v' (l ++ news)→w.grownBy w' v.ownBlock→wpList Try.prog ops Q rest (a.put o.dst v') w'):wpList Try.prog ops Q (o :: rest) a w:=by
 obtain ⟨i5,hi5,hz0,hz1,hz2⟩:=info_parts info5
 subst hm
 have hB2:w.ownsRow base 5 1 v (nums .u8 l).length (nums .u8 l):=by rw [nums_length];exact hB
 refine wpList_app w hgd sl x 33 ho base 5 i5 (.int .u8 0) 1 Try.underlying33 hi5 hz0 hz1 hz2 rfl v (nums .u8 l) hs hB2 ad news.length c (nums .u8 news) hx (nums_length _ _) h0 hn (fun u hu=>by
  obtain ⟨z,_,rfl⟩:=List.mem_map.1 hu;rfl) (by rw [nums_length];unfold maxLen;omega) (by rw [nums_length];omega) hbase ?_
 intro v2 w2 hA
 refine h v2 w2 ?_ hA.grown
 have h3:=hA.row
 rw [← nums_append,nums_length,nums_length,← List.length_append] at h3
 exact h3
theorem bytes_ (w:World) (base t b:Nat) (NV PV:Value) (ss:List ByteArray) (ys:List Value) (rs:List (ByteArray × Int)) (m:Nat) (h:Tb w base t b NV PV (ss.map Value.string) ys rs (m:Int))
  (h1:1≤m) (hm:m≤1099511627776) (hl:(tbytes ss).length≤1099511627776) (hss:ss.length≤4194304) :
  Calls Try.prog 40 #[.pointer (some ⟨t,0,none⟩)] w fun en w'=>∃ v,en=.returned (.tuple #[v,.int .i64 0])∧Bt w' w.heap.size v (0 :: tbytes ss)∧Below w.heap.size w w':=by
 have H:=Lib.hid h
 have c3:=h.hd.cell 3
 simp only [List.getElem?_toArray,List.getElem?_cons_zero,List.getElem?_cons_succ] at c3
 clear h
 obtain ⟨i5,hi5,hz0,hz1,hz2⟩:=info_parts info5
 have hmk:∀ W:World,(Instr.makeSlice 33 (.int .i64 1) (.int .i64 (m:Int))).run Try.prog W=.ok (.slice (some ⟨W.heap.size,0,none⟩) 1 m) (W.alloc (.cells (madeCells #[.int .u8 0] m) 5)):=by
  intro W
  have hr:=run_make (P:=Try.prog) W 33 5 i5 (.int .u8 0) Try.underlying33 hi5 hz0 .i64 .i64 1 (m:Int) (by omega) (by omega) (by rw [hz2];omega) (by omega)
  rw [hz1,show (m:Int).toNat*1=m from by omega] at hr
  exact hr
 go_enter Try.func40,Try.ntmps40
 refine wp_seq_k (fun K hK=>?_)
 have HK:=Lib.hid hK
 clear hK
 go_wp2
 refine HK.out _ _ ?_
 clear HK
 refine wp_seq_k (fun K hK=>?_)
 have HK:=Lib.hid hK
 clear hK
 go_wp2
 refine HK.out _ _ ?_
 clear HK
 refine wp_seq_k (fun K hK=>?_)
 have HK:=Lib.hid hK
 clear hK
 go_wp2
 refine HK.out _ _ ?_
 clear HK hmk c3
 have H1:=Lib.hid (H.out.alloc (.cells (madeCells #[.int .u8 0] m) 5))
 have HR:=Lib.hid (Bt.zero w w.heap.size m h1 hm (Nat.le_refl _))
 have HB:=Lib.hid (bdA (Below.refl w.heap.size w) (.cells (madeCells #[.int .u8 0] m) 5))
 generalize w.alloc (.cells (madeCells #[.int .u8 0] m) 5)=w1 at H1 HR HB ⊢
 generalize Value.slice (some ⟨w.heap.size,0,none⟩) 1 m=v1 at HR ⊢
 obtain ⟨AN,cN,eN⟩:=shape H1.out.ns
 rw [List.length_map] at eN
 have c0:=H1.out.hd.cell 0
 simp only [List.getElem?_toArray,List.getElem?_cons_zero,List.getElem?_cons_succ] at c0
 rw [eN] at c0
 have HN:=Lib.hid eN
 clear eN
 go_wp2
 clear c0
 go_loopw [4,19] (fun vv iv wr=>∃ k:Nat,k≤ss.length∧iv=.int .i64 (k:Int)∧Hid (Bt wr w.heap.size vv (0 :: tbytes (ss.take k)))∧Hid (Below w.heap.size w wr)) (fun _ iv _=>ss.length - (RowKit.intOf iv).toNat)
 case atStart=>exact ⟨0,Nat.zero_le _,rfl,HR,HB⟩
 case round =>
  obtain ⟨k,hk,rfl,hr,hb⟩:=hrel
  clear HR HB
  by_cases hlt:k<ss.length
  ·obtain ⟨s,hs⟩:∃ s,ss[k]?=some s:=⟨_,List.getElem?_eq_getElem hlt⟩
   have hns:=(H.out.ch (Ch.below hb.out (fun _=>False)) (fun _ _ h=>h)).ns
   rcases hns.2 with ⟨hn,h0⟩|⟨g,cap,cur,hv,_⟩
   ·rw [List.length_map] at h0;omega
   rw [HN.out] at hv
   injection hv with e1 e2 e3
   subst e1
   have hc:=hns.cells (g:=g) (by rw [HN.out];rfl) k (.string s) (by rw [List.getElem?_map,hs];rfl)
   rw [add_zero_block] at hc
   have HS:=Lib.hid hs
   have hle:(0 :: tbytes (ss.take (k+1))).length≤1099511627777:=by have:=tbytes_le ss (k+1);simp only [List.length_cons];omega
   have hnx:=tbytes_next ss k s hs
   clear hns hs e2 e3
   rw [hnx] at hle
   simp only [List.length_cons,List.length_append,List.length_nil] at hle
   have HNX:=Lib.hid hnx
   clear hnx
   have hby:=bytesOf_length s
   go_wp2_with (at_builtin;refine Bt.str rfl _ _ rfl hr.out (s:=s) rfl rfl ?q2 ?q4 ?_)
   case q2=>simp only [List.length_cons];omega
   case q4=>exact hb.out.size
   intro v2 w2 ho2 hg2
   have HR2:=Lib.hid ho2
   have HB2:=Lib.hid (Below.grown hb.out hg2 hb.out.size (own_base hr.out))
   clear ho2 hg2 hc
   go_wp2_with (at_builtin;refine Bt.app rfl _ _ rfl (own_ch HR2.out ((Ch.refl w2 (fun _=>False)).alloc _) (fun _ _ h=>h)) [0] rfl rfl rfl (by decide) ?q2 ?q5 ?q6 ?_)
   case q2=>exact one_new _ _ _
   case q5=>simp only [List.length_append,List.length_cons,List.length_nil];omega
   case q6=>have:=HB2.out.size;simp only [World.size_alloc];omega
   intro v3 w3 hA hg3
   have HR3:=Lib.hid (show Bt w3 w.heap.size v3 (0 :: tbytes (ss.take (k+1))) from by
    rw [HNX.out]
    exact hA)
   have HB3:=Lib.hid (Below.grown (bdA HB2.out _) hg3 (by have:=HB2.out.size;simp only [World.size_alloc];omega) (own_base HR2.out))
   clear hA hg3 HR2 HB2
   go_wp2
   go_roundw
   case rel=>exact ⟨k+1,by omega,by go_num,HR3,HB3⟩
   case measure=>simp [RowKit.intOf];omega
  ·obtain rfl:k=ss.length:=by omega
   go_wp2
   go_ret2
   have hr2:=hr.out
   rw [List.take_length] at hr2
   exact ⟨_,rfl,hr2,hb.out⟩
end Go.Proofs.Ytbeikcckcjadbaa.Im
end
section
namespace Go.Proofs.Ytbeikcckcjadbaa.Im
open Go.RowKit Go.Proofs.YtbeikcckcjadbaaW.PrintWords Go.Proofs.Ytbeikcckcjadbaa.PI Go.Proofs.Ytbeikcckcjadbaa.Ln Go.Proofs.Ytbeikcckcjadbaa.Bk Go.ChangeMaps Go.MapKept
attribute [local go_sem] isSome_setCell
def plcF:Int→List ByteArray→ByteArray→Int
 | at_,[],_=>at_
 | at_,x :: r,s=>if x=s then at_ else plcF (at_+((x.size:Int)+1)) r s
def putS (ss:List ByteArray) (s:ByteArray):List ByteArray:=if ss.any (fun x=>decide (x=s))=true then ss else ss ++ [s]
theorem putS_in {ss:List ByteArray} {s:ByteArray} (h:s∈ss):putS ss s=ss:=if_pos (List.any_eq_true.2 ⟨s,h,decide_eq_true rfl⟩)
theorem putS_new {ss:List ByteArray} {s:ByteArray} (h:s ∉ ss):putS ss s=ss ++ [s]:=if_neg (fun e=>by
 obtain ⟨x,hx,e2⟩:=List.any_eq_true.1 e
 exact h (of_decide_eq_true e2 ▸ hx))
def endS (ss:List ByteArray):Int:=((tbytes ss).length:Int)+1
theorem tbytes_cons (x:ByteArray) (r:List ByteArray):(tbytes (x :: r)).length=x.size+1+(tbytes r).length:=by
 rw [show tbytes (x :: r)=(bytesOf x ++ [0]) ++ tbytes r from rfl,List.length_append,List.length_append,bytesOf_length];rfl
theorem plcF_no (s:ByteArray):∀ (ss:List ByteArray) (a:Int),s ∉ ss→plcF a ss s=a+((tbytes ss).length:Int):=by
 intro ss
 induction ss with
 | nil=>intro a _;simp [plcF,tbytes]
 | cons x r ih =>
  intro a h
  rw [List.mem_cons,not_or] at h
  unfold plcF
  rw [if_neg (fun e=>h.1 e.symm),ih _ h.2,tbytes_cons]
  omega
theorem plcF_in (s y:ByteArray):∀ (ss:List ByteArray) (a:Int),s∈ss→plcF a (ss ++ [y]) s=plcF a ss s:=by
 intro ss
 induction ss with
 | nil=>intro a h;cases h
 | cons x r ih =>
  intro a h
  show (if x=s then a else plcF _ (r ++ [y]) s)=(if x=s then a else plcF _ r s)
  by_cases e:x=s
  ·rw [if_pos e,if_pos e]
  ·rw [if_neg e,if_neg e]
   exact ih _ ((List.mem_cons.1 h).resolve_left (fun e2=>e e2.symm))
theorem plcF_new (s:ByteArray):∀ (ss:List ByteArray) (a:Int),s ∉ ss→plcF a (ss ++ [s]) s=a+((tbytes ss).length:Int):=by
 intro ss
 induction ss with
 | nil=>intro a _;simp [plcF,tbytes]
 | cons x r ih =>
  intro a h
  rw [List.mem_cons,not_or] at h
  show (if x=s then a else plcF _ (r ++ [s]) s)=_
  rw [if_neg (fun e=>h.1 e.symm),ih _ h.2,tbytes_cons]
  omega
def Nam (ss:List ByteArray) (rs:List (ByteArray × Int)):Prop:=(∀ p∈rs,p.1∈ss∧p.2=plcF 1 ss p.1)∧∀ s∈ss,(s,plcF 1 ss s)∈rs
theorem Nam.nil:Nam [] []:=⟨fun p h=>absurd h (by simp),fun s h=>absurd h (by simp)⟩
theorem Nam.put {ss:List ByteArray} {rs:List (ByteArray × Int)} (h:Nam ss rs) {s:ByteArray} (hn:s ∉ ss):Nam (ss ++ [s]) ((s,endS ss) :: rs):=by
 have he:plcF 1 (ss ++ [s]) s=endS ss:=by rw [plcF_new s ss 1 hn];unfold endS;omega
 refine ⟨fun p hp=>?_,fun u hu=>?_⟩
 ·rcases List.mem_cons.1 hp with rfl|hp
  ·exact ⟨by simp,he.symm⟩
  ·have h1:=h.1 p hp
   exact ⟨List.mem_append_left _ h1.1,by rw [plcF_in _ _ _ _ h1.1];exact h1.2⟩
 ·rcases List.mem_append.1 hu with hu|hu
  ·rw [plcF_in _ _ _ _ hu]
   exact List.mem_cons_of_mem _ (h.2 u hu)
  ·rw [List.mem_singleton.1 hu,he]
   exact List.mem_cons_self
def Sb (w:World) (base lo t b:Nat) (ss:List ByteArray):Prop:=
 ∃ NV PV ys rs,Tb w base t b NV PV (ss.map Value.string) ys rs (endS ss)∧ys.length=ss.length∧Nam ss rs∧∀ k,TO t b NV PV k→k=t∨k=b∨lo≤k
def Kp (w w':World) (lo t b:Nat):Prop:=Ch w w' (fun k=>k=t∨k=b∨lo≤k)∧∀ (k:Nat) (cs:Array Value) (ty:TypeId),ty=5∨ty=26∨ty=68∨ty=56→w.heap[k]?=some (.cells cs ty (0,0))→w'.heap[k]?=some (.cells cs ty (0,0))
theorem Kp.blk {w w':World} {lo t b g:Nat} {cs:Array Value} {ty:TypeId} (h:Kp w w' lo t b) (ht:ty=5∨ty=26∨ty=68∨ty=56) (hb:Blk w g ty cs):Blk w' g ty cs:=h.2 g cs ty ht hb
theorem Kp.bt {w w':World} {lo t b base:Nat} {v:Value} {l:List Int} (h:Kp w w' lo t b) (hb:Bt w base v l):Bt w' base v l:=by
 refine ⟨hb.1,?_⟩
 rcases hb.2 with hn|⟨g,cap,cur,hv,hb,hg,rest⟩
 ·exact .inl hn
 ·exact .inr ⟨g,cap,cur,hv,hb,h.2 g cur 5 (.inl rfl) hg,rest⟩
theorem Kp.refl (w:World) (lo t b:Nat):Kp w w lo t b:=⟨Ch.refl _ _,fun _ _ _ _ h=>h⟩
theorem TO.kp {w w':World} {base lo t b:Nat} {NV PV:Value} {xs ys:List Value} {rs:List (ByteArray × Int)} {e:Int} (h:Tb w base t b NV PV xs ys rs e) (hc:Ch w w' (TO t b NV PV)) (ho:∀ k,TO t b NV PV k→k=t∨k=b∨lo≤k):Kp w w' lo t b:=by
 refine ⟨hc.mono ho,fun k cs ty ht hk=>?_⟩
 rw [hc.block k (blk_lt hk) ?_]
 ·exact hk
 ·rintro (rfl|rfl|h1|h1)
  ·have:=h.hd
   unfold Blk at this
   rw [hk] at this
   injection this with this
   injection this with _ h2 _
   subst h2
   revert ht;decide
  ·obtain ⟨es,c,h2⟩:=h.mp.obj
   rw [hk] at h2
   injection h2 with h2
   cases h2
  ·obtain ⟨cur,h2⟩:=own_obj h.ns h1
   rw [hk] at h2
   injection h2 with h2
   injection h2 with _ h2 _
   subst h2
   revert ht;decide
  ·obtain ⟨cur,h2⟩:=own_obj h.ps h1
   rw [hk] at h2
   injection h2 with h2
   injection h2 with _ h2 _
   subst h2
   revert ht;decide
theorem Sb.keep {w w':World} {base lo t b:Nat} {ss:List ByteArray} {S:Nat→Prop} (h:Sb w base lo t b ss) (hc:Ch w w' S) (hs:∀ k,S k→∃ cs ty,(ty=5∨ty=26∨ty=68∨ty=56)∧w.heap[k]?=some (.cells cs ty (0,0))):Sb w' base lo t b ss:=by
 obtain ⟨NV,PV,ys,rs,hT,hy,hN,hO⟩:=h
 refine ⟨NV,PV,ys,rs,hT.ch hc (fun k hk hS=>?_),hy,hN,hO⟩
 obtain ⟨cs,ty,ht,h1⟩:=hs k hS
 have h2:=TO.kp (lo:=0) hT (w':=w.setCell ⟨k,0,none⟩ (.bool true)) ((Ch.refl w _).set_ _ _ (.inl hk)) (fun k _=>.inr (.inr (Nat.zero_le _)))
 rcases hk with rfl|rfl|hk|hk
 ·have:=hT.hd
  unfold Blk at this
  rw [h1] at this
  injection this with this
  injection this with _ h2 _
  subst h2
  revert ht;decide
 ·obtain ⟨es,c,h2⟩:=hT.mp.obj
  rw [h1] at h2
  injection h2 with h2
  cases h2
 ·obtain ⟨cur,h2⟩:=own_obj hT.ns hk
  rw [h1] at h2
  injection h2 with h2
  injection h2 with _ h2 _
  subst h2
  revert ht;decide
 ·obtain ⟨cur,h2⟩:=own_obj hT.ps hk
  rw [h1] at h2
  injection h2 with h2
  injection h2 with _ h2 _
  subst h2
  revert ht;decide
theorem add_ (w:World) (base lo t b:Nat) (ss:List ByteArray) (s:ByteArray) (h:Sb w base lo t b ss) (hn:nm s=true) (hx:ss.length≤4194304) (he:(tbytes ss).length≤1099511627775) (hb:base≤w.heap.size) (hlo:lo≤w.heap.size) :
  Calls Try.prog 38 #[.pointer (some ⟨t,0,none⟩),.string s] w fun en w'=>en=.returned (.tuple #[.int .i64 (plcF 1 ss s),.int .i64 0])∧Sb w' base lo t b (putS ss s)∧Kp w w' lo t b:=by
 obtain ⟨NV,PV,ys,rs,hT,hy,hN,hO⟩:=h
 by_cases hm:s∈ss
 ·refine (add_old w base t b NV PV _ ys rs _ (s,plcF 1 ss s) hT (hN.2 s hm) hn).mono ?_
  rintro en w' ⟨rfl,rfl⟩
  refine ⟨rfl,⟨NV,PV,ys,rs,?_,?_,?_,hO⟩,Kp.refl _ _ _ _⟩
  ·rw [putS_in hm];exact hT
  ·rw [putS_in hm];exact hy
  ·rw [putS_in hm];exact hN
 ·have hes:(endS (ss ++ [s]))=endS ss+((s.size:Int)+1):=by unfold endS;rw [tbytes_snoc,List.length_append,List.length_append,bytesOf_length];simp only [List.length_cons,List.length_nil];omega
  refine (add_new w base t b NV PV (ss.map Value.string) ys rs (endS ss) s hT hn (fun p hp e=>hm (e ▸ (hN.1 p hp).1)) (by rw [List.length_map];exact hx) (by omega) (by unfold endS;omega) (by unfold endS;omega) hb).mono ?_
  rintro en w' ⟨rfl,NV',PV',hT',hc,ho⟩
  refine ⟨?_,⟨NV',PV',ys ++ [.int .i64 (endS ss)],(s,endS ss) :: rs,?_,?_,?_,fun k hk=>(ho k hk).elim (hO k) (fun h=>.inr (.inr (by omega)))⟩,TO.kp hT hc hO⟩
  ·rw [plcF_no s ss 1 hm];unfold endS;rw [Int.add_comm]
  ·rw [putS_new hm,hes,List.map_append];exact hT'
  ·rw [putS_new hm,List.length_append,List.length_append,hy];rfl
  ·rw [putS_new hm];exact hN.put hm
theorem bytesSb_ (w:World) (base lo t b:Nat) (ss:List ByteArray) (h:Sb w base lo t b ss) (hl:(tbytes ss).length≤1099511627775) (hss:ss.length≤4194304) :
  Calls Try.prog 40 #[.pointer (some ⟨t,0,none⟩)] w fun en w'=>∃ v,en=.returned (.tuple #[v,.int .i64 0])∧Bt w' w.heap.size v (0 :: tbytes ss)∧Below w.heap.size w w':=by
 obtain ⟨NV,PV,ys,rs,hT,hy,hN,hO⟩:=h
 have he:endS ss=(((tbytes ss).length+1:Nat):Int):=by unfold endS;omega
 rw [he] at hT
 exact bytes_ w base t b NV PV ss ys rs ((tbytes ss).length+1) hT (by omega) (by omega) (by omega) hss
theorem reps_nums {R:Int→List Value→Prop} (hR:∀ x cs,R x cs↔cs=[.int .u8 x]) (l:List Int) (cs:List Value):Reps R 1 l cs↔cs=nums .u8 l:=by
 constructor
 ·rintro ⟨h1,h2⟩
  apply List.ext_getElem?
  intro i
  by_cases hi:i<l.length
  ·have h3:=(hR _ _).1 (h2 i l[i] (List.getElem?_eq_getElem hi))
   have h4:=congrArg (fun z=>z[0]?) h3
   simp only [List.getElem?_take,List.getElem?_drop] at h4
   simp at h4
   rw [h4]
   simp [nums,hi]
  ·rw [List.getElem?_eq_none (by omega),List.getElem?_eq_none (by rw [nums_length];omega)]
 ·rintro rfl
  refine ⟨by rw [nums_length];omega,fun j p hj=>(hR _ _).2 ?_⟩
  apply List.ext_getElem?
  intro i
  rw [List.getElem?_take,List.getElem?_drop]
  cases i with
  | zero=>simp [nums,hj]
  | succ i=>simp
theorem Bt.R {w:World} {base:Nat} {v:Value} {l:List Int} (h:Bt w base v l):Kd.R (Kd.int .u8) 5 w base (fun k=>v.ownBlock=some k) v l:=
 ⟨fun k hk=>hk,nums .u8 l,h,(reps_nums (fun x cs=>Iff.rfl) l _).2 rfl⟩
theorem Bt.of_R {w:World} {base:Nat} {ok:Nat→Prop} {v:Value} {l:List Int} (h:Kd.R (Kd.int .u8) 5 w base ok v l):Bt w base v l∧∀ k,v.ownBlock=some k→ok k:=by
 obtain ⟨h1,inner,h2,h3⟩:=h
 rw [(reps_nums (fun x cs=>Iff.rfl) l _).1 h3] at h2
 exact ⟨h2,h1⟩
theorem Ch.of_kept {B:Nat} {w0 w w':World} {S:Nat→Prop} (h:Below B w0 w) (h':Below B w0 w') (k:Kept w w' S):Ch w w' S:=⟨h'.os.trans h.os.symm,h'.tape.trans h.tape.symm,h'.output.trans h.output.symm,k.1,k.2⟩
end Go.Proofs.Ytbeikcckcjadbaa.Im
end
