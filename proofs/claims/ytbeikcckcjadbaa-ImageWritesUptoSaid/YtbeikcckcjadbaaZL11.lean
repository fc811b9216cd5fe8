/- What ImageWrites states holds where what it reads is of bulk at most 1048576: image.Write of any image answers as the document says, the image stays, and another one ahead of it in the same places turns nothing. The frame is the kit's print, turned to the second form; the walks, the contracts and the plain law are this session's. -/
import Derived.Test.YtbeikcckcjadbaaZL10
import Derived.Test.YtbeikcckcjadbaaRows
import Derived.WalkKit
import Derived.ProofKit
import Derived.OpenShut
import Derived.ShutString
import Derived.ChangeOld
import Derived.Below
import Derived.SizedLaws
import Derived.Deep.CondSized
set_option linter.unusedVariables false
set_option linter.unusedSimpArgs false
set_option maxRecDepth 100000
set_option maxHeartbeats 16000000
section
namespace Go.Proofs.Ytbeikcckcjadbaa.imageWrites
open Go.ChangeShapes Go.WideShapes Go.ChangeAt Go.RowKit Go.Proofs.YtbeikcckcjadbaaW.Open Go.Proofs.Ytbeikcckcjadbaa.PI Go.Proofs.YtbeikcckcjadbaaW.PrintWords
open Go.ChangeMaps (open_string shut_string)
theorem own:ownKnob Try.prog.godebug=none:=by kernel_rfl
theorem laidOut:laidOutB Try.prog=true:=by kernel_rfl
theorem bulk_one {H:Type} (d:DataW H):1≤Rows.uptoBulk d:=by
 cases d with
 | lit l=>cases l <;> simp [Rows.uptoBulk]
 | nil=>simp [Rows.uptoBulk]
 | ptr d=>simp [Rows.uptoBulk]
 | slice elems spare=>simp [Rows.uptoBulk]
 | agg parts=>simp [Rows.uptoBulk]
 | iface t d=>simp [Rows.uptoBulk]
 | map entries=>simp [Rows.uptoBulk]
 | held h=>simp [Rows.uptoBulk]
theorem bulk_len {H:Type} (l:List (DataW H)):l.length≤Rows.uptoBulkAll l:=by
 induction l with
 | nil=>simp [Rows.uptoBulkAll]
 | cons x r ih=>have:=bulk_one x;simp only [Rows.uptoBulkAll,List.length_cons];omega
theorem bulk_mem {H:Type} {l:List (DataW H)} {d:DataW H} (h:d∈l):Rows.uptoBulk d≤Rows.uptoBulkAll l:=by
 induction l with
 | nil=>cases h
 | cons x r ih =>
  simp only [Rows.uptoBulkAll]
  rcases List.mem_cons.1 h with rfl|h
  ·omega
  ·have:=ih h;omega
theorem len_bulk {H:Type} {enc:TypeId × Value→H} {W:World} {fuel:Nat} {t e:TypeId} {A:Option Addr} {n c:Nat} {y:DataW H × List MemPlace} (ht:Try.prog.underlying t=some (.slice e)) (h:DataW.trod enc Try.prog W 0 (fun _=>true) true fuel t [.slice A n c]=some y):n≤Rows.uptoBulk y.1:=by
 rcases DataW.trod_slice ht h with ⟨hcs,_⟩|⟨a,l,c,elems,rest,n2,_,hcs,hd,_,_,_,hlen,_⟩
 ·injection hcs with e _
  injection e with _ e2 _
  omega
 ·injection hcs with e _
  injection e with _ e2 _
  have hd1:y.1=.slice (elems.map (·.1)) (rest.map (·.1)):=by rw [hd]
  rw [hd1]
  simp only [Rows.uptoBulk]
  have h3:=bulk_len (H:=H) (elems.map (·.1))
  rw [List.length_map] at h3
  omega
def okT54 (v:S54):Prop:=(Lit.int .i64 v.f0).wf=true∧(Lit.int .i64 v.f1).wf=true∧(Lit.int .i64 v.f2).wf=true∧(Lit.int .i64 v.f3).wf=true∧(Lit.int .i64 v.f4).wf=true
theorem opnT54:Opn Try.prog 54 k54 okT54:=
 opn_weaken (opn_struct (ts:=[3,3,3,3,3]) (fun x:S54=>(x.f0,x.f1,x.f2,x.f3,x.f4)) (fun p=>⟨p.1,p.2.1,p.2.2.1,p.2.2.2.1,p.2.2.2.2⟩) (fun _=>rfl) Try.underlying54 (by kernel_rfl) (by kernel_rfl) (by kernel_rfl)
  (fields_cons (opn_int Try.underlying3) (fields_cons (opn_int Try.underlying3) (fields_cons (opn_int Try.underlying3) (fields_cons (opn_int Try.underlying3) (fields_one (opn_int Try.underlying3))))))) (fun _ h=>h)
def okT68 (v:S68):Prop:=v.f0.size≤reachBytes∧(Lit.int .i64 v.f1).wf=true∧(Lit.int .i64 v.f2).wf=true∧(Lit.int .i64 v.f3).wf=true
theorem opnT68:Opn Try.prog 68 k68 okT68:=
 opn_weaken (opn_struct (ts:=[9,3,3,3]) (fun x:S68=>(x.f0,x.f1,x.f2,x.f3)) (fun p=>⟨p.1,p.2.1,p.2.2.1,p.2.2.2⟩) (fun _=>rfl) Try.underlying68 (by kernel_rfl) (by kernel_rfl) (by kernel_rfl)
  (fields_cons (opn_string Try.underlying9) (fields_cons (opn_int Try.underlying3) (fields_cons (opn_int Try.underlying3) (fields_one (opn_int Try.underlying3)))))) (fun _ h=>h)
def okT56 (v:S56):Prop:=v.f0.size≤reachBytes∧(Lit.int .i64 v.f1).wf=true∧(Lit.int .i64 v.f2).wf=true∧(Lit.int .i64 v.f3).wf=true∧(Lit.int .i64 v.f4).wf=true
theorem opnT56:Opn Try.prog 56 k56 okT56:=
 opn_weaken (opn_struct (ts:=[9,3,3,3,3]) (fun x:S56=>(x.f0,x.f1,x.f2,x.f3,x.f4)) (fun p=>⟨p.1,p.2.1,p.2.2.1,p.2.2.2.1,p.2.2.2.2⟩) (fun _=>rfl) Try.underlying56 (by kernel_rfl) (by kernel_rfl) (by kernel_rfl)
  (fields_cons (opn_string Try.underlying9) (fields_cons (opn_int Try.underlying3) (fields_cons (opn_int Try.underlying3) (fields_cons (opn_int Try.underlying3) (fields_one (opn_int Try.underlying3))))))) (fun _ h=>h)
def kImg:Kd (List S54 × List S68 × List S56 × Int):=Kd.iso (Kd.pair (Kd.slice 54 k54) (Kd.pair (Kd.slice 68 k68) (Kd.pair (Kd.slice 56 k56) (Kd.int .i64)))) (fun x:List S54 × List S68 × List S56 × Int=>(x.1,x.2.1,x.2.2.1,x.2.2.2))
def okImg (v:List S54 × List S68 × List S56 × Int):Prop:=(∀ f∈v.2.1,okT68 f)∧(∀ x∈v.1,okT54 x)∧(∀ d∈v.2.2.1,okT56 d)∧(Lit.int .i64 v.2.2.2).wf=true
theorem opnImg:Opn Try.prog 26 kImg okImg:=
 opn_weaken (opn_struct (ts:=[22,23,24,3]) (fun x:List S54 × List S68 × List S56 × Int=>(x.1,x.2.1,x.2.2.1,x.2.2.2)) (fun p=>(p.1,p.2.1,p.2.2.1,p.2.2.2)) (fun _=>rfl) Try.underlying26 (by kernel_rfl) (by kernel_rfl) (by kernel_rfl)
  (fields_cons (opn_slice Try.underlying22 (by kernel_rfl) opnT54) (fields_cons (opn_slice Try.underlying23 (by kernel_rfl) opnT68) (fields_cons (opn_slice Try.underlying24 (by kernel_rfl) opnT56) (fields_one (opn_int Try.underlying3)))))) (fun v h=>⟨h.2.1.1,h.1.1,h.2.2.1.1,h.2.2.2⟩)
theorem c22:Try.prog.cellsOf 22=1:=by kernel_rfl
theorem c23:Try.prog.cellsOf 23=1:=by kernel_rfl
theorem c24:Try.prog.cellsOf 24=1:=by kernel_rfl
theorem argImg {H:Type} (enc:TypeId × Value→H) (W:World) (fuel:Nat) (cs:List Value) (x:DataW H × List MemPlace) (h:DataW.trod enc Try.prog W 0 (fun _=>true) true fuel 26 cs=some x) (hw:∀ m∈x.1.weights Try.prog 26,m≤reachBytes) :
  ∃ (xs:List S54) (fs:List S68) (ts:List S56) (en:Int) (A0 A1 A2:Option Addr) (c0 c1 c2:Nat),cs=[.slice A0 xs.length c0,.slice A1 fs.length c1,.slice A2 ts.length c2,.int .i64 en]∧Kd.C k54 W A0 xs.length xs∧Kd.C k68 W A1 fs.length fs∧Kd.C k56 W A2 ts.length ts∧xs.length≤c0∧fs.length≤c1∧ts.length≤c2 ∧
   okImg (xs,fs,ts,en)∧xs.length≤Rows.uptoBulk x.1∧fs.length≤Rows.uptoBulk x.1∧ts.length≤Rows.uptoBulk x.1:=by
 obtain ⟨⟨xs,fs,ts,en⟩,hv,okv⟩:=opnImg enc W fuel cs x h hw
 obtain ⟨p1,r1,rfl,⟨A0,c0,rfl,l0,h0⟩,p2,r2,rfl,⟨A1,c1,rfl,l1,h1⟩,p3,r3,rfl,⟨A2,c2,rfl,l2,h2⟩,h3⟩:=hv
 have h3':r3=[.int .i64 en]:=h3
 subst h3'
 obtain ⟨ys,n,rfl,rfl,hl,hx,hi⟩:=DataW.trod_struct Try.underlying26 h
 have hy0:0<ys.length:=by rw [hx];exact of_decide_eq_true (by kernel_rfl)
 have hy1:1<ys.length:=by rw [hx];exact of_decide_eq_true (by kernel_rfl)
 have hy2:2<ys.length:=by rw [hx];exact of_decide_eq_true (by kernel_rfl)
 have q0:DataW.trod enc Try.prog W 0 (fun _=>true) true n 22 ((List.drop 0 [.slice A0 xs.length c0,.slice A1 fs.length c1,.slice A2 ts.length c2,.int .i64 en]).take (Try.prog.cellsOf 22))=ys[0]?:=hi 0 _ rfl
 have q1:DataW.trod enc Try.prog W 0 (fun _=>true) true n 23 ((List.drop 1 [.slice A0 xs.length c0,.slice A1 fs.length c1,.slice A2 ts.length c2,.int .i64 en]).take (Try.prog.cellsOf 23))=ys[1]?:=hi 1 _ rfl
 have q2:DataW.trod enc Try.prog W 0 (fun _=>true) true n 24 ((List.drop 2 [.slice A0 xs.length c0,.slice A1 fs.length c1,.slice A2 ts.length c2,.int .i64 en]).take (Try.prog.cellsOf 24))=ys[2]?:=hi 2 _ rfl
 rw [List.getElem?_eq_getElem hy0,c22] at q0
 rw [List.getElem?_eq_getElem hy1,c23] at q1
 rw [List.getElem?_eq_getElem hy2,c24] at q2
 have b0:=len_bulk Try.underlying22 (show DataW.trod enc Try.prog W 0 (fun _=>true) true n 22 [.slice A0 xs.length c0]=some ys[0] from q0)
 have b1:=len_bulk Try.underlying23 (show DataW.trod enc Try.prog W 0 (fun _=>true) true n 23 [.slice A1 fs.length c1]=some ys[1] from q1)
 have b2:=len_bulk Try.underlying24 (show DataW.trod enc Try.prog W 0 (fun _=>true) true n 24 [.slice A2 ts.length c2]=some ys[2] from q2)
 have m0:=bulk_mem (List.mem_map.2 ⟨ys[0],List.getElem_mem hy0,rfl⟩:ys[0].1∈ys.map (·.1))
 have m1:=bulk_mem (List.mem_map.2 ⟨ys[1],List.getElem_mem hy1,rfl⟩:ys[1].1∈ys.map (·.1))
 have m2:=bulk_mem (List.mem_map.2 ⟨ys[2],List.getElem_mem hy2,rfl⟩:ys[2].1∈ys.map (·.1))
 refine ⟨xs,fs,ts,en,A0,A1,A2,c0,c1,c2,rfl,h0,h1,h2,l0,l1,l2,okv,?_,?_,?_⟩ <;> simp only [Rows.uptoBulk] <;> omega
theorem lifted (os:Os) (started:os.Started) (H:Type) (enc:TypeId × Value→H) (F:Stop.Interp) :
  ReturnsInHanded {} Try.checked os 4 .any ((Rows.OpenSpec.upto Rows.imageWritesSpec).pre6 enc Try.prog Try.f4 Rows.imageWritesUptoRow.domain false) (((Rows.OpenSpec.upto Rows.imageWritesSpec).at F).post enc Try.prog Try.f4 false true false false):=by
 refine returnsInHanded_of_cond_sized (C:=Try.checked) (s:=Rows.OpenSpec.upto Rows.imageWritesSpec) (k:=Rows.uptoSmall) rfl own started (by kernel_rfl) Try.func4
  (OpenSpec.witness (enc:=enc) (C:=Try.checked) (s:=Rows.OpenSpec.upto Rows.imageWritesSpec) (k:=Rows.uptoSmall) rfl false ⟨#[],#[.agg #[.slice none 0 0,.slice none 0 0,.slice none 0 0,.int .i64 0]],[]⟩ 8 (by kernel_rfl) (by kernel_rfl) (by kernel_rfl)
   (x:=([.agg [.nil,.nil,.nil,.lit (.int .i64 0)]],[],[])) (by kernel_rfl) rfl (by kernel_rfl)) ?_
 intro W base args ds gs before hval0 hW hcnd hk hsz0 _
 have hsz:(DataW.weightsEach Try.prog (Try.f4.params.toList ++ (Rows.OpenSpec.upto Rows.imageWritesSpec).bare.plain.varTypes Try.prog) (ds ++ gs)).all (·≤reachBytes)=true:=hsz0
 have hval:∀ (j:Nat) t v,Try.f4.params[j]?=some t→args[j]?=some v→Value.okWide Try.prog W .any base t v:=hval0
 have hW':=hW
 obtain ⟨p,q,hA0,hV,rfl,hfz,hnd⟩:=hW
 have hA:DataW.TrodAll enc Try.prog W 0 (fun _=>true) true Try.f4.params.toList args.toList ds p:=hA0
 rw [Try.params4] at hA hval hsz
 obtain ⟨v0,vs0,d0,ds0,p0,q0,hargs,rfl,rfl,h0,r0⟩:=trodAll_cons hA
 obtain ⟨rfl,rfl,rfl⟩:=trodAll_nil r0
 obtain rfl:args=#[v0]:=by cases args;simp_all
 obtain ⟨rfl,rfl⟩:=trodVars_none hV
 have k0:=h0
 have lt0:∀ x∈p0,x.block<W.heap.size:=by obtain ⟨m,hm⟩:=k0;exact DataW.trod_lt m _ _ _ hm
 obtain ⟨cs,rfl,_⟩:=okWide_struct Try.underlying26 (hval 0 26 v0 rfl rfl)
 have hbulk:Rows.uptoBulk d0≤1048576:=by
  have h1:Rows.uptoBulkAll ((d0 :: []) ++ [])≤1048576:=of_decide_eq_true hk
  rw [List.append_nil] at h1
  simp only [Rows.uptoBulkAll] at h1
  omega
 obtain ⟨fuel0,hf0⟩:=h0
 obtain ⟨xs,fs,ts,en,A0,A1,A2,c0,c1,c2,hcs,hC0,hC1,hC2,l0,l1,l2,hok,b0,b1,b2⟩:=argImg enc W fuel0 _ _ hf0 (fun m hm=>by
  have:=List.all_eq_true.1 hsz m (DataW.weights_mem_each (j:=0) rfl rfl m hm)
  simpa using this)
 obtain rfl:cs=#[.slice A0 xs.length c0,.slice A1 fs.length c1,.slice A2 ts.length c2,.int .i64 en]:=Array.toList_inj.1 (by simpa [Value.cells] using hcs)
 clear hA0 hval0 hsz0 hsz
 dsimp only at b0 b1 b2
 refine (Im.writes_ W A0 A1 A2 c0 c1 c2 xs fs ts en hC0 hC1 hC2 l0 l1 l2 (fun f hf=>⟨Nat.le_trans (hok.1 f hf).1 (by decide),(hok.1 f hf).2.1⟩) (by omega) (by omega) (by omega)).mono fun e W' hq=>?_
 obtain ⟨rfl,bel⟩:=hq
 exact ⟨_,rfl,_,_,_,[],_,[],hW',trodAll_mk1 (shut_bool Try.underlying4 _),(trodAll_cons_mk (Below.trod laidOut (by kernel_rfl) (of_decide_eq_true (by kernel_rfl)) k0 bel lt0) trodAll_mk0),rfl,bel.frame _,fun h=>by cases h⟩
theorem proved:Rows.ImageWritesUptoSaid:=
 OpenClaim.holds_of_cond 4 Try.f4 rfl rfl rfl rfl rfl rfl rfl ⟨rfl,rfl,rfl,rfl,rfl⟩ rfl rfl rfl rfl rfl (by kernel_rfl) Try.func4 (by kernel_rfl)
  (of_decide_eq_true (by kernel_rfl)) (by unfold Func.isWrapper;first|(rw [if_pos (by decide +kernel)];kernel_rfl)|(rw [if_neg (by decide +kernel)];exact ⟨rfl,rfl⟩))
  (fun os started H enc _ F=>lifted os started H enc F)
#print axioms proved
end Go.Proofs.Ytbeikcckcjadbaa.imageWrites
namespace Go.Proofs.Ytbeikcckcjadbaa
theorem imageWritesUpto_holds:Rows.ImageWritesUptoSaid:=imageWrites.proved
end Go.Proofs.Ytbeikcckcjadbaa
end
