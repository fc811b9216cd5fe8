/- What MemoryOwns states holds where what it reads is of bulk at most 1048576: what Bytes and Regions hand out is new memory each time. The frame is the kit's print, turned to the second form; the walks, the contracts and the plain law are this session's. -/
import Derived.Test.YthmeojeehemlaaaZC17
import Derived.Test.YthmeojeehemlaaaRows
import Derived.WalkKit
import Derived.ProofKit
import Derived.OpenShut
import Derived.ShutString
import Derived.ChangeOld
import Derived.Below
import Derived.SizedLaws
import Derived.Deep.CondSized
set_option linter.unusedVariables false
set_option linter.unusedSimpArgs false
set_option maxRecDepth 100000
set_option maxHeartbeats 16000000
section
namespace Go.Proofs.Ythmeojeehemlaaa.memoryOwns
open Go.ChangeShapes Go.WideShapes Go.ChangeAt Go.RowKit Go.Proofs.YthmeojeehemlaaaW.Open Go.Proofs.Ythmeojeehemlaaa.PM Go.Proofs.YthmeojeehemlaaaW.PrintWords
open Go.ChangeMaps (open_string shut_string)
theorem own:ownKnob Try.prog.godebug=none:=by kernel_rfl
theorem laidOut:laidOutB Try.prog=true:=by kernel_rfl
theorem u64_in {a:Int} (h:(Lit.int .u64 a).wf=true):0≤a∧a<18446744073709551616:=by
 have h':0≤a∧a≤18446744073709551615:=by simpa [Lit.wf,IntKind.min,IntKind.max,IntKind.signed,IntKind.bits] using h
 omega
theorem u8_in {a:Int} (h:(Lit.int .u8 a).wf=true):0≤a∧a<256:=by
 have h':0≤a∧a≤255:=by simpa [Lit.wf,IntKind.min,IntKind.max,IntKind.signed,IntKind.bits] using h
 omega
theorem bulk_one {H:Type} (d:DataW H):1≤Rows.uptoBulk d:=by
 cases d with
 | lit l=>cases l <;> simp [Rows.uptoBulk]
 | nil=>simp [Rows.uptoBulk]
 | ptr d=>simp [Rows.uptoBulk]
 | slice elems spare=>simp [Rows.uptoBulk]
 | agg parts=>simp [Rows.uptoBulk]
 | iface t d=>simp [Rows.uptoBulk]
 | map entries=>simp [Rows.uptoBulk]
 | held h=>simp [Rows.uptoBulk]
theorem bulk_len {H:Type} (l:List (DataW H)):l.length≤Rows.uptoBulkAll l:=by
 induction l with
 | nil=>simp [Rows.uptoBulkAll]
 | cons x r ih=>have:=bulk_one x;simp only [Rows.uptoBulkAll,List.length_cons];omega
def okT39 (v:S39):Prop:=(Lit.int .u64 v.f0).wf=true∧((∀ b∈v.f1,(Lit.int .u8 b).wf=true)∧v.f1.length*Try.prog.bytesOf 5≤reachBytes)
theorem opnT39:Opn Try.prog 39 k39 okT39:=
 opn_weaken (opn_struct (ts:=[23,37]) (fun x:S39=>(x.f0,x.f1)) (fun p=>⟨p.1,p.2⟩) (fun _=>rfl) Try.underlying39 (by kernel_rfl) (by kernel_rfl) (by kernel_rfl)
  (fields_cons (opn_int Try.underlying23) (fields_one (opn_slice Try.underlying37 (by kernel_rfl) (opn_int Try.underlying5))))) (fun _ h=>h)
theorem b5:Try.prog.bytesOf 5=1:=by kernel_rfl
theorem b39:Try.prog.bytesOf 39=32:=by kernel_rfl
theorem bulk_mem {H:Type} {l:List (DataW H)} {d:DataW H} (h:d∈l):Rows.uptoBulk d≤Rows.uptoBulkAll l:=by
 induction l with
 | nil=>cases h
 | cons x r ih =>
  simp only [Rows.uptoBulkAll]
  rcases List.mem_cons.1 h with rfl|h
  ·omega
  ·have:=ih h;omega
theorem bulk_low {H:Type} (l:List (DataW H)) (k:Nat) (h:∀ d∈l,k≤Rows.uptoBulk d):k*l.length≤Rows.uptoBulkAll l:=by
 induction l with
 | nil=>simp
 | cons x r ih =>
  have h1:=h x List.mem_cons_self
  have h2:=ih fun d hd=>h d (List.mem_cons_of_mem _ hd)
  simp only [Rows.uptoBulkAll,List.length_cons,Nat.mul_add,Nat.mul_one]
  omega
theorem c37:Try.prog.cellsOf 37=1:=by kernel_rfl
theorem opnB39 {H:Type} (enc:TypeId × Value→H) (W:World) (fuel:Nat) (cs:List Value) (x:DataW H × List MemPlace) (h:DataW.trod enc Try.prog W 0 (fun _=>true) true fuel 39 cs=some x) (hw:∀ m∈x.1.weights Try.prog 39,m≤reachBytes) :
  ∃ v,k39.K W v cs∧okT39 v∧v.f1.length≤Rows.uptoBulk x.1∧3≤Rows.uptoBulk x.1:=by
 obtain ⟨v,hv,okv⟩:=opnT39 enc W fuel cs x h hw
 refine ⟨v,hv,okv,?_⟩
 obtain ⟨A1,c1,rfl,_,_⟩:=k39_open hv
 obtain ⟨xs,n,rfl,rfl,hl,hx,hi⟩:=DataW.trod_struct Try.underlying39 h
 have h1:DataW.trod enc Try.prog W 0 (fun _=>true) true n 37 ((List.drop 1 [.int .u64 v.f0,.slice A1 v.f1.length c1]).take (Try.prog.cellsOf 37))=xs[1]?:=hi 1 _ rfl
 have hxl:1<xs.length:=by rw [hx];exact of_decide_eq_true (by kernel_rfl)
 rw [List.getElem?_eq_getElem hxl] at h1
 rw [c37] at h1
 have h2:DataW.trod enc Try.prog W 0 (fun _=>true) true n 37 [.slice A1 v.f1.length c1]=some xs[1]:=h1
 have hm:=bulk_mem (List.mem_map.2 ⟨xs[1],List.getElem_mem hxl,rfl⟩:xs[1].1∈xs.map (·.1))
 have hpl:=bulk_len (H:=H) (xs.map (·.1))
 rw [List.length_map] at hpl
 simp only [Rows.uptoBulk]
 refine ⟨?_,by omega⟩
 rcases DataW.trod_slice Try.underlying37 h2 with ⟨hcs,_⟩|⟨a,l,c,elems,rest,n2,_,hcs,hd,_,_,_,hlen,_⟩
 ·injection hcs with e _
  injection e with _ e2 _
  omega
 ·injection hcs with e _
  injection e with _ e2 _
  have hd1:xs[1].1=.slice (elems.map (·.1)) (rest.map (·.1)):=by rw [hd]
  rw [hd1] at hm
  simp only [Rows.uptoBulk] at hm
  have h3:=bulk_len (H:=H) (elems.map (·.1))
  rw [List.length_map] at h3
  omega
theorem i64_in {a:Int} (h:(Lit.int .i64 a).wf=true):-9223372036854775808≤a∧a<9223372036854775808:=by
 have h':-9223372036854775808≤a∧a≤9223372036854775807:=by simpa [Lit.wf,IntKind.min,IntKind.max,IntKind.signed,IntKind.bits] using h
 omega
def okT46 (v:Mem.S46):Prop:=(Lit.int .i64 v.wh).wf=true∧(Lit.int .i64 v.kd).wf=true∧(Lit.int .u64 v.x).wf=true∧(Lit.int .i64 v.m).wf=true∧(Lit.int .u64 v.v).wf=true∧((∀ b∈v.dat,(Lit.int .u8 b).wf=true)∧v.dat.length*Try.prog.bytesOf 5≤reachBytes)
theorem opnT46:Opn Try.prog 46 Mem.k46 okT46:=
 opn_weaken (opn_struct (ts:=[3,3,23,3,23,37]) (fun x:Mem.S46=>(x.wh,x.kd,x.x,x.m,x.v,x.dat)) (fun p=>⟨p.1,p.2.1,p.2.2.1,p.2.2.2.1,p.2.2.2.2.1,p.2.2.2.2.2⟩) (fun _=>rfl) Try.underlying46 (by kernel_rfl) (by kernel_rfl) (by kernel_rfl)
  (fields_cons (opn_int Try.underlying3) (fields_cons (opn_int Try.underlying3) (fields_cons (opn_int Try.underlying23) (fields_cons (opn_int Try.underlying3) (fields_cons (opn_int Try.underlying23) (fields_one (opn_slice Try.underlying37 (by kernel_rfl) (opn_int Try.underlying5))))))))) (fun _ h=>h)
theorem opnB46 {H:Type} (enc:TypeId × Value→H) (W:World) (fuel:Nat) (cs:List Value) (x:DataW H × List MemPlace) (h:DataW.trod enc Try.prog W 0 (fun _=>true) true fuel 46 cs=some x) (hw:∀ m∈x.1.weights Try.prog 46,m≤reachBytes) :
  ∃ v,Mem.k46.K W v cs∧okT46 v∧v.dat.length≤Rows.uptoBulk x.1∧7≤Rows.uptoBulk x.1:=by
 obtain ⟨v,hv,okv⟩:=opnT46 enc W fuel cs x h hw
 refine ⟨v,hv,okv,?_⟩
 obtain ⟨A1,c1,rfl,_,_⟩:=Mem.k46_open hv
 obtain ⟨xs,n,rfl,rfl,hl,hx,hi⟩:=DataW.trod_struct Try.underlying46 h
 have h1:DataW.trod enc Try.prog W 0 (fun _=>true) true n 37 ((List.drop 5 [.int .i64 v.wh,.int .i64 v.kd,.int .u64 v.x,.int .i64 v.m,.int .u64 v.v,.slice A1 v.dat.length c1]).take (Try.prog.cellsOf 37))=xs[5]?:=hi 5 _ rfl
 have hxl:5<xs.length:=by rw [hx];exact of_decide_eq_true (by kernel_rfl)
 rw [List.getElem?_eq_getElem hxl] at h1
 rw [c37] at h1
 have h2:DataW.trod enc Try.prog W 0 (fun _=>true) true n 37 [.slice A1 v.dat.length c1]=some xs[5]:=h1
 have hm:=bulk_mem (List.mem_map.2 ⟨xs[5],List.getElem_mem hxl,rfl⟩:xs[5].1∈xs.map (·.1))
 have hpl:=bulk_len (H:=H) (xs.map (·.1))
 rw [List.length_map] at hpl
 simp only [Rows.uptoBulk]
 refine ⟨?_,by omega⟩
 rcases DataW.trod_slice Try.underlying37 h2 with ⟨hcs,_⟩|⟨a,l,c,elems,rest,n2,_,hcs,hd,_,_,_,hlen,_⟩
 ·injection hcs with e _
  injection e with _ e2 _
  omega
 ·injection hcs with e _
  injection e with _ e2 _
  have hd1:xs[5].1=.slice (elems.map (·.1)) (rest.map (·.1)):=by rw [hd]
  rw [hd1] at hm
  simp only [Rows.uptoBulk] at hm
  have h3:=bulk_len (H:=H) (elems.map (·.1))
  rw [List.length_map] at h3
  omega
theorem arg_list {α:Type} {H:Type} (kd:Kd α) (t e:TypeId) (ok:α→Prop) (dl:α→Nat) (k:Nat) (ht:Try.prog.underlying t=some (.slice e)) (hsz:Try.prog.cellsOf e=kd.sz)
  (hone:∀ {H:Type} (enc:TypeId × Value→H) (W:World) (fuel:Nat) (cs:List Value) (x:DataW H × List MemPlace),DataW.trod enc Try.prog W 0 (fun _=>true) true fuel e cs=some x→(∀ m∈x.1.weights Try.prog e,m≤reachBytes)→∃ v,kd.K W v cs∧ok v∧dl v≤Rows.uptoBulk x.1∧k≤Rows.uptoBulk x.1)
  (enc:TypeId × Value→H) (W:World) (fuel:Nat) (cs:List Value) (x:DataW H × List MemPlace) (h:DataW.trod enc Try.prog W 0 (fun _=>true) true fuel t cs=some x) (hw:∀ m∈x.1.weights Try.prog t,m≤reachBytes) :
  ∃ l,(Kd.slice e kd).K W l cs∧(∀ y∈l,ok y∧dl y≤Rows.uptoBulk x.1)∧k*l.length+1≤Rows.uptoBulk x.1:=by
 rcases DataW.trod_slice ht h with ⟨rfl,rfl⟩|⟨a,len,cap,elems,rest,n,rfl,rfl,rfl,_,hl,hm,hlen,hel,hsp,_⟩
 ·exact ⟨[],⟨none,0,rfl,Nat.le_refl _,rfl,by simp,fun h=>absurd h (by simp)⟩,by simp,by simp [Rows.uptoBulk]⟩
 ·have hwt:∀ m∈DataW.weightsAll Try.prog e (elems.map (·.1)),m≤reachBytes:=fun m hm=>hw m (by
   simp only [DataW.weights,ht]
   exact List.mem_cons_of_mem _ (List.mem_append_left _ hm))
  simp only [Rows.uptoBulk]
  have one:∀ i,i<len→∃ v,(∃ c,c.length=kd.sz∧kd.K W v c∧∀ j u,c[j]?=some u→W.cell? (a.add (i*kd.sz+j))=some u)∧(ok v∧dl v≤Rows.uptoBulkAll (elems.map (·.1))+Rows.uptoBulkAll (rest.map (·.1))+1):=by
   intro i hi
   have h1:=hel i hi
   have hlt:i<elems.length:=by omega
   rw [List.getElem?_eq_getElem hlt] at h1
   obtain ⟨c,hc,htr⟩:=Option.bind_eq_some_iff.1 h1
   obtain ⟨_,hcl,hcc⟩:=World.cells?_some hc
   have hmem:elems[i].1∈elems.map (·.1):=List.mem_map.2 ⟨elems[i],List.getElem_mem hlt,rfl⟩
   obtain ⟨v,hv,okv,hvb,_⟩:=hone enc W n c _ htr (fun m hm=>hwt m (weightsAll_mem hmem m hm))
   have hbm:=bulk_mem hmem
   refine ⟨v,⟨c,by rw [hcl];exact hsz,hv,fun j u hu=>?_⟩,okv,by omega⟩
   have hj:j<Try.prog.cellsOf e:=by rw [← hcl];exact (List.getElem?_eq_some_iff.1 hu).1
   rw [← hu,← hcc j hj,Deep.add_add,hsz]
  have hlow:∀ d∈elems.map (·.1),k≤Rows.uptoBulk d:=by
   intro d hd
   obtain ⟨p,hp,rfl⟩:=List.mem_map.1 hd
   obtain ⟨i,hi,rfl⟩:=List.getElem_of_mem hp
   have h1:=hel i (by omega)
   rw [List.getElem?_eq_getElem hi] at h1
   obtain ⟨c,hc,htr⟩:=Option.bind_eq_some_iff.1 h1
   exact (hone enc W n c _ htr (fun m hm=>hwt m (weightsAll_mem hd m hm))).elim fun v hv=>hv.2.2.2
  have h3:=bulk_low (H:=H) (elems.map (·.1)) k hlow
  rw [List.length_map,hlen] at h3
  obtain ⟨l,hll,hp⟩:=list_of one
  subst hll
  refine ⟨l,⟨some a,cap,rfl,hl,rfl,by unfold maxLen at hm;omega,fun _=>⟨a,rfl,fun j p hj=>(hp j p hj).1⟩⟩,fun v hv=>?_,by omega⟩
  obtain ⟨i,hi⟩:=List.mem_iff_getElem?.1 hv
  exact (hp i v hi).2
theorem arg22b {H:Type} (enc:TypeId × Value→H) (W:World) (fuel:Nat) (cs:List Value) (x:DataW H × List MemPlace) (h:DataW.trod enc Try.prog W 0 (fun _=>true) true fuel 22 cs=some x) (hw:∀ m∈x.1.weights Try.prog 22,m≤reachBytes) :
  ∃ l,(Kd.slice 39 k39).K W l cs∧(∀ y∈l,okT39 y∧y.f1.length≤Rows.uptoBulk x.1)∧3*l.length+1≤Rows.uptoBulk x.1:=
 arg_list k39 22 39 okT39 (fun v=>v.f1.length) 3 Try.underlying22 (by kernel_rfl) opnB39 enc W fuel cs x h hw
theorem arg41 {H:Type} (enc:TypeId × Value→H) (W:World) (fuel:Nat) (cs:List Value) (x:DataW H × List MemPlace) (h:DataW.trod enc Try.prog W 0 (fun _=>true) true fuel 41 cs=some x) (hw:∀ m∈x.1.weights Try.prog 41,m≤reachBytes) :
  ∃ l,(Kd.slice 46 Mem.k46).K W l cs∧(∀ y∈l,okT46 y∧y.dat.length≤Rows.uptoBulk x.1)∧7*l.length+1≤Rows.uptoBulk x.1:=
 arg_list Mem.k46 41 46 okT46 (fun v=>v.dat.length) 7 Try.underlying41 (by kernel_rfl) opnB46 enc W fuel cs x h hw
theorem fit_of {v:Mem.S46} (h:okT46 v) (hd:v.dat.length≤1048576):Mem.Fit46 v:=by
 obtain ⟨h0,h1,h2,h3,h4,h5,h6⟩:=h
 refine ⟨⟨⟨(u64_in h2).1,(u64_in h2).2,fun b hb=>u8_in (h5 b hb),?_⟩,hd⟩,i64_in h3,u64_in h4⟩
 show v.dat.length≤140737488355328
 omega
theorem small_of {v:S39} (h:okT39 v∧v.f1.length≤1048576):Mem.Small v:=by
 obtain ⟨⟨h0,h1,h2⟩,h3⟩:=h
 exact ⟨⟨(u64_in h0).1,(u64_in h0).2,fun b hb=>u8_in (h1 b hb),by omega⟩,h3⟩
theorem lifted (os:Os) (started:os.Started) (H:Type) (enc:TypeId × Value→H) (F:Stop.Interp) :
  ReturnsInHanded {} Try.checked os 6 .any ((Rows.OpenSpec.upto Rows.memoryOwnsSpec).pre6 enc Try.prog Try.f6 Rows.memoryOwnsUptoRow.domain false) (((Rows.OpenSpec.upto Rows.memoryOwnsSpec).at F).post enc Try.prog Try.f6 false true false false):=by
 refine returnsInHanded_of_cond_sized (C:=Try.checked) (s:=Rows.OpenSpec.upto Rows.memoryOwnsSpec) (k:=Rows.uptoSmall) rfl own started (by kernel_rfl) Try.func6
  (OpenSpec.witness (enc:=enc) (C:=Try.checked) (s:=Rows.OpenSpec.upto Rows.memoryOwnsSpec) (k:=Rows.uptoSmall) rfl false ⟨#[],#[.slice none 0 0,.slice none 0 0],[]⟩ 8 (by kernel_rfl) (by kernel_rfl) (by kernel_rfl)
   (x:=([.nil,.nil],[],[])) (by kernel_rfl) rfl (by kernel_rfl)) ?_
 intro W base args ds gs before hval0 hW hcnd hk hsz0 _
 have hsz:(DataW.weightsEach Try.prog (Try.f6.params.toList ++ (Rows.OpenSpec.upto Rows.memoryOwnsSpec).bare.plain.varTypes Try.prog) (ds ++ gs)).all (·≤reachBytes)=true:=hsz0
 have hval:∀ (j:Nat) t v,Try.f6.params[j]?=some t→args[j]?=some v→Value.okWide Try.prog W .any base t v:=hval0
 have hW':=hW
 obtain ⟨p,q,hA0,hV,rfl,hfz,hnd⟩:=hW
 have hA:DataW.TrodAll enc Try.prog W 0 (fun _=>true) true Try.f6.params.toList args.toList ds p:=hA0
 rw [Try.params6] at hA hval hsz
 obtain ⟨v0,vs0,d0,ds0,p0,q0,hargs,rfl,rfl,h0,r0⟩:=trodAll_cons hA
 obtain ⟨v1,vs1,d1,ds1,p1,q1,rfl,rfl,rfl,h1,r1⟩:=trodAll_cons r0
 obtain ⟨rfl,rfl,rfl⟩:=trodAll_nil r1
 obtain rfl:args=#[v0,v1]:=by cases args;simp_all
 obtain ⟨rfl,rfl⟩:=trodVars_none hV
 have k0:=h0
 have k1:=h1
 have lt0:∀ x∈p0,x.block<W.heap.size:=by obtain ⟨m,hm⟩:=k0;exact DataW.trod_lt m _ _ _ hm
 have lt1:∀ x∈p1,x.block<W.heap.size:=by obtain ⟨m,hm⟩:=k1;exact DataW.trod_lt m _ _ _ hm
 obtain ⟨a0,len0,cap0,rfl⟩:=okWide_slice Try.underlying22 (hval 0 22 v0 rfl rfl)
 obtain ⟨a1,len1,cap1,rfl⟩:=okWide_slice Try.underlying41 (hval 1 41 v1 rfl rfl)
 have hbulk:Rows.uptoBulk d0+Rows.uptoBulk d1≤1048576:=by
  have h1:Rows.uptoBulkAll ((d0 :: d1 :: []) ++ [])≤1048576:=of_decide_eq_true hk
  rw [List.append_nil] at h1
  simp only [Rows.uptoBulkAll] at h1
  omega
 obtain ⟨fuel0,hf0⟩:=h0
 obtain ⟨fuel1,hf1⟩:=h1
 obtain ⟨l0,hK0,ok0,hl0⟩:=arg22b enc W fuel0 _ _ hf0 (fun m hm=>by
  have:=List.all_eq_true.1 hsz m (DataW.weights_mem_each (j:=0) rfl rfl m hm)
  simpa using this)
 obtain ⟨l1,hK1,ok1,hl1⟩:=arg41 enc W fuel1 _ _ hf1 (fun m hm=>by
  have:=List.all_eq_true.1 hsz m (DataW.weights_mem_each (j:=1) rfl rfl m hm)
  simpa using this)
 obtain ⟨A0,c0,e0,hc0,hr0⟩:=hK0
 simp only [Value.cells,List.cons.injEq,and_true,Value.slice.injEq] at e0
 obtain ⟨rfl,rfl,rfl⟩:=e0
 obtain ⟨A1,c1,e1,hc1,hr1⟩:=hK1
 simp only [Value.cells,List.cons.injEq,and_true,Value.slice.injEq] at e1
 obtain ⟨rfl,rfl,rfl⟩:=e1
 clear hA0 hval0 hsz0 hsz
 refine (Bk.mown_ W _ _ _ _ _ _ l0 l1 hr0 hr1 hc0 hc1 (fun y hy=>small_of ⟨(ok0 y hy).1,by have:=(ok0 y hy).2;dsimp only at this;omega⟩) (fun y hy=>fit_of (ok1 y hy).1 (by have:=(ok1 y hy).2;dsimp only at this;omega)) (by dsimp only at hl0 hl1;omega) (by dsimp only at hl0 hl1;omega)).mono fun e W' hq=>?_
 obtain ⟨rfl,bel⟩:=hq
 exact ⟨_,rfl,_,_,_,[],_,[],hW',trodAll_mk1 (shut_bool Try.underlying4 _),(trodAll_cons_mk (Below.trod laidOut (by kernel_rfl) (of_decide_eq_true (by kernel_rfl)) k0 bel lt0) (trodAll_cons_mk (Below.trod laidOut (by kernel_rfl) (of_decide_eq_true (by kernel_rfl)) k1 bel lt1) trodAll_mk0)),rfl,bel.frame _,fun h=>by cases h⟩
theorem proved:Rows.MemoryOwnsUptoSaid:=
 OpenClaim.holds_of_cond 6 Try.f6 rfl rfl rfl rfl rfl rfl rfl ⟨rfl,rfl,rfl,rfl,rfl⟩ rfl rfl rfl rfl rfl (by kernel_rfl) Try.func6 (by kernel_rfl)
  (of_decide_eq_true (by kernel_rfl)) (by unfold Func.isWrapper;first|(rw [if_pos (by decide +kernel)];kernel_rfl)|(rw [if_neg (by decide +kernel)];exact ⟨rfl,rfl⟩))
  (fun os started H enc _ F=>lifted os started H enc F)
#print axioms proved
end Go.Proofs.Ythmeojeehemlaaa.memoryOwns
namespace Go.Proofs.Ythmeojeehemlaaa
theorem memoryOwnsUpto_holds:Rows.MemoryOwnsUptoSaid:=memoryOwns.proved
end Go.Proofs.Ythmeojeehemlaaa
end
