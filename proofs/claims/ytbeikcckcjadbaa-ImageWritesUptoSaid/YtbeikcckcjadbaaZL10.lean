/- Parts of the proof, laid together by a program of this session (pack.py): Pl1, Rw1, Rw2, Rw3, Ln11, Lw3. -/
import Derived.Test.YtbeikcckcjadbaaZL9
import Derived.Deep.RegionHeld3
set_option linter.unusedVariables false
set_option linter.unusedSimpArgs false
set_option maxRecDepth 100000
set_option maxHeartbeats 16000000
section
namespace Go.Proofs.Ytbeikcckcjadbaa.Im
open Go.RowKit Go.Proofs.YtbeikcckcjadbaaW.PrintWords Go.Proofs.YtbeikcckcjadbaaW.PrintMore Go.Proofs.Ytbeikcckcjadbaa.PI Go.Proofs.Ytbeikcckcjadbaa.Ln Go.Proofs.Ytbeikcckcjadbaa.Bk
theorem laidR4 (x:Int) (k:Nat) (hk:6≤k):spindleref17_laid.f k x 4=some (lay4 x):=by
 obtain ⟨k,rfl⟩:∃ m,k=m+5:=⟨k - 5,by omega⟩
 simp [spindleref17_laid.f,spindleref17_laid.l0,wrap64,shr,IntKind.bits,lay4]
theorem laidR2 (x:Int) (k:Nat) (hk:6≤k):spindleref17_laid.f k x 2=some [x % 256,x / 256 % 256]:=by
 obtain ⟨k,rfl⟩:∃ m,k=m+5:=⟨k - 5,by omega⟩
 simp [spindleref17_laid.f,spindleref17_laid.l0,wrap64,shr,IntKind.bits,lay4]
theorem regs_:∀ d:Nat,d<16→∀ s:Nat,s<16→(wrap64 ((d:Int)+(wrap64 (16*(s:Int))))) % 256=Go.bits .or .i64 (d:Int) (wrap64 ((s:Int)*16)) % 256:=by decide +kernel
theorem nm_nz {s:ByteArray} (h:nm s=true) (j:Nat) (hj:j<s.size):¬ bt s (j:Int)=0:=by
 intro e
 have h2:=(of_decide_eq_true h).2.2 j hj
 rw [e] at h2
 revert h2
 cases decide (j=0) <;> decide
theorem namedR_l (s:ByteArray) (h:nm s=true):∀ (d i k:Nat),i+d=s.size→d<k→spindleref8_Named.l0 k s (i:Int)=some true
 | 0,i,k+1,hi,hk=>by
  have h1:=(of_decide_eq_true h)
  unfold spindleref8_Named.l0
  rw [if_neg (by omega),if_pos (by have:=h1.1;omega)]
  rw [decide_eq_true (by have:=h1.2.1;omega)]
 | d+1,i,k+1,hi,hk=>by
  have h1:=nm_size h
  unfold spindleref8_Named.l0
  rw [if_pos (by omega),if_pos (by omega),if_neg (nm_nz h i (by omega)),w64_succ i (by omega)]
  exact namedR_l s h d (i+1) k (by omega) (by omega)
theorem namedR (s:ByteArray) (h:nm s=true) (k:Nat) (hk:70≤k):spindleref8_Named.f k s=some true:=
 namedR_l s h s.size 0 k (by omega) (by have:=nm_size h;omega)
theorem rdOf_at {α:Type} (d:α) (xs:List α) (i:Nat) (h:i<xs.length):rdOf d xs (i:Int)=xs[i]:=by
 unfold rdOf;simp [List.getD_eq_getElem?_getD,h]
theorem placeR_l (s:ByteArray) (ss:List ByteArray) (hs:ss.length≤1000000) (hz:∀ x∈ss,x.size≤64):∀ (d i k:Nat) (a:Int),i+d=ss.length→d<k→1≤a→a+65*d≤1000000000→(s∈ss.drop i→sr8p.l0 k s a (i:Int) ss=some (plcF a (ss.drop i) s))∧(s ∉ ss.drop i→sr8p.l0 k s a (i:Int) ss=some 0)
 | 0,i,k+1,a,hi,hk,h1,h2=>by
  unfold sr8p.l0
  rw [if_neg (by omega),List.drop_eq_nil_of_le (by omega)]
  exact ⟨fun h=>absurd h (by simp),fun _=>rfl⟩
 | d+1,i,k+1,a,hi,hk,h1,h2=>by
  have hlt:i<ss.length:=by omega
  have hzz:=hz _ (List.getElem_mem hlt)
  unfold sr8p.l0
  rw [if_pos (by omega),if_pos (by omega),rdOf_at _ _ _ hlt,w64_succ i (by omega),List.drop_eq_getElem_cons hlt]
  by_cases e:ss[i].toList=s.toList
  ·have e2:=bytes_inj e
   rw [if_pos e]
   refine ⟨fun _=>?_,fun h=>absurd (by rw [← e2];exact List.mem_cons_self) h⟩
   unfold plcF
   rw [if_pos e2]
  ·have e2:¬ ss[i]=s:=fun h=>e (by rw [h])
   have ih:=placeR_l s ss hs hz d (i+1) k (a+(ss[i].size:Int)+1) (by omega) (by omega) (by omega) (by omega)
   rw [if_neg e,w64 (a+(ss[i].size:Int)) (by omega) (by omega),w64 _ (by omega) (by omega)]
   refine ⟨fun h=>?_,fun h=>ih.2 (fun h3=>h (List.mem_cons_of_mem _ h3))⟩
   rw [ih.1 ((List.mem_cons.1 h).resolve_left (fun h=>e2 h.symm))]
   conv=>rhs;unfold plcF
   rw [if_neg e2,Int.add_assoc]
theorem placeR (s:ByteArray) (ss:List ByteArray) (hs:ss.length≤1000000) (hz:∀ x∈ss,x.size≤64) (k:Nat) (hk:ss.length<k):(s∈ss→sr8p.f k ss s=some (plcF 1 ss s))∧(s ∉ ss→sr8p.f k ss s=some 0):=
 placeR_l s ss hs hz ss.length 0 k 1 (by omega) hk (by omega) (by omega)
theorem plcF_pos (s:ByteArray):∀ (ss:List ByteArray) (a:Int),1≤a→1≤plcF a ss s
 | [],a,h=>h
 | x :: r,a,h=>by
  unfold plcF
  split
  ·exact h
  ·exact plcF_pos s r _ (by omega)
theorem addR (s:ByteArray) (ss:List ByteArray) (hs:ss.length≤100000) (hz:∀ x∈ss,x.size≤64) (hn:nm s=true) (k:Nat) (hk:ss.length+80≤k):sr8a.f k ss s=some (putS ss s,plcF 1 ss s,0):=by
 unfold sr8a.f
 rw [namedR s hn k (by omega),Option.bind_some,if_pos rfl]
 have hp:=plcF_pos s ss 1 (by omega)
 by_cases hm:s∈ss
 ·rw [(placeR s ss (by omega) hz k (by omega)).1 hm,Option.bind_some,if_pos (by omega),putS_in hm]
 ·rw [(placeR s ss (by omega) hz k (by omega)).2 hm,Option.bind_some,if_neg (by omega),if_pos (by simp;omega),Option.bind_some,if_pos (by simp;omega),Option.bind_some]
  rw [List.nil_append,(placeR s (ss ++ [s]) (by simp;omega) (fun x hx=>by
   rcases List.mem_append.1 hx with h|h
   ·exact hz x h
   ·rw [List.mem_singleton.1 h];exact nm_size hn) k (by simp;omega)).1 (by simp),Option.bind_some,putS_new hm,plcF_new s ss 1 hm,plcF_no s ss 1 hm]
theorem putS_small {ss:List ByteArray} {s:ByteArray} (hz:∀ x∈ss,x.size≤64) (hs:s.size≤64):∀ x∈putS ss s,x.size≤64:=by
 by_cases hm:s∈ss
 ·rw [putS_in hm];exact hz
 ·rw [putS_new hm]
  intro x hx
  rcases List.mem_append.1 hx with h|h
  ·exact hz x h
  ·rw [List.mem_singleton.1 h];exact hs
def stepP (st:List ByteArray × List Int) (s:ByteArray):List ByteArray × List Int:=(putS st.1 s,st.2 ++ [plcF 1 st.1 s])
def stP (st:List ByteArray × List Int) (l:List ByteArray):List ByteArray × List Int:=l.foldl stepP st
theorem strings_l1 (xs:List S54) (fs:List S68) (ts:List S56) (en:Int) (hn:∀ d∈ts,nm d.f0=true) (hl:ts.length≤10000):∀ (d i k:Nat) (st:List ByteArray × List Int),i+d=ts.length→20100+d<k→st.1.length+d≤20000→st.2.length+d≤20000→(∀ x∈st.1,x.size≤64)→sr17s.l1 k st.2 (i:Int) xs fs ts en st.1=some (stP st ((ts.drop i).map (·.f0)))
 | 0,i,k+1,st,hi,hk,h1,h2,hz=>by
  unfold sr17s.l1
  rw [if_neg (by omega),List.drop_eq_nil_of_le (by omega)]
  rfl
 | d+1,i,k+1,st,hi,hk,h1,h2,hz=>by
  have hlt:i<ts.length:=by omega
  have hnn:=hn _ (List.getElem_mem hlt)
  have e:rd_T56 ts (i:Int)=ts[i]:=by unfold rd_T56;simp [List.getD_eq_getElem?_getD,hlt]
  unfold sr17s.l1
  rw [if_pos (by omega),if_pos (by omega),e,addR _ _ (by omega) hz hnn k (by omega),Option.bind_some,if_pos (by omega),w64_succ i (by omega)]
  have hp:=putS_le st.1 ts[i].f0 (nm_size hnn)
  have:=strings_l1 xs fs ts en hn hl d (i+1) k (stepP st ts[i].f0) (by omega) (by omega) (by show (putS _ _).length+d≤_;omega) (by show (List.length (_ ++ _))+d≤_;rw [List.length_append];simp;omega) (putS_small hz (nm_size hnn))
  rw [List.drop_eq_getElem_cons hlt]
  exact this
theorem strings_l0 (xs:List S54) (fs:List S68) (ts:List S56) (en:Int) (hf:∀ f∈fs,nm f.f0=true) (hn:∀ d∈ts,nm d.f0=true) (hl:fs.length≤10000) (hl2:ts.length≤10000):∀ (d i k:Nat) (st:List ByteArray × List Int),i+d=fs.length→20101+d+ts.length<k→st.1.length+d+ts.length≤20000→st.2.length+d+ts.length≤20000→(∀ x∈st.1,x.size≤64)→sr17s.l0 k st.2 (i:Int) xs fs ts en st.1=some (stP st ((fs.drop i).map (·.f0) ++ ts.map (·.f0)))
 | 0,i,k+1,st,hi,hk,h1,h2,hz=>by
  unfold sr17s.l0
  rw [if_neg (by omega),List.drop_eq_nil_of_le (by omega)]
  exact strings_l1 xs fs ts en hn hl2 ts.length 0 k st (by omega) (by omega) (by omega) (by omega) hz
 | d+1,i,k+1,st,hi,hk,h1,h2,hz=>by
  have hlt:i<fs.length:=by omega
  have hnn:=hf _ (List.getElem_mem hlt)
  have e:rd_T68 fs (i:Int)=fs[i]:=by unfold rd_T68;simp [List.getD_eq_getElem?_getD,hlt]
  unfold sr17s.l0
  rw [if_pos (by omega),if_pos (by omega),e,addR _ _ (by omega) hz hnn k (by omega),Option.bind_some,if_pos (by omega),w64_succ i (by omega)]
  have hp:=putS_le st.1 fs[i].f0 (nm_size hnn)
  have:=strings_l0 xs fs ts en hf hn hl hl2 d (i+1) k (stepP st fs[i].f0) (by omega) (by omega) (by show (putS _ _).length+d+_≤_;omega) (by show (List.length (_ ++ _))+d+_≤_;rw [List.length_append];simp;omega) (putS_small hz (nm_size hnn))
  rw [List.drop_eq_getElem_cons hlt]
  exact this
def allN (fs:List S68) (ts:List S56):List ByteArray:=fs.map (·.f0) ++ ts.map (·.f0)
theorem stringsR {xs:List S54} {fs:List S68} {ts:List S56} (hG:Gd xs fs ts) (en:Int):sr17s.f 30000 xs fs ts en=some (stP ([],[]) (allN fs ts)):=by
 have h1:=hG.fl
 have h2:=hG.tl
 exact strings_l0 xs fs ts en hG.fn hG.tn (by omega) (by omega) fs.length 0 30000 ([],[]) (by omega) (by omega) (by simp;omega) (by simp;omega) (by simp)
theorem bytesR_l (ss:List ByteArray) (hs:ss.length≤100000) (hz:∀ x∈ss,x.size≤64):∀ (d i k:Nat) (l:List Int),i+d=ss.length→d<k→l.length+65*d≤100000000→sr8b.l0 k l (i:Int) ss=some (l ++ tbytes (ss.drop i))
 | 0,i,k+1,l,hi,hk,h1=>by
  unfold sr8b.l0
  rw [if_neg (by omega),List.drop_eq_nil_of_le (by omega)]
  simp [tbytes]
 | d+1,i,k+1,l,hi,hk,h1=>by
  have hlt:i<ss.length:=by omega
  have hzz:=hz _ (List.getElem_mem hlt)
  unfold sr8b.l0
  rw [if_pos (by omega),if_pos (by omega),rdOf_at _ _ _ hlt,if_pos (by omega),Option.bind_some,if_pos (by rw [List.length_append,bytesOf_length];omega),w64_succ i (by omega)]
  rw [bytesR_l ss hs hz d (i+1) k _ (by omega) (by omega) (by simp only [List.length_append,bytesOf_length,List.length_cons,List.length_nil];omega),List.drop_eq_getElem_cons hlt]
  show _=some (l ++ ((bytesOf ss[i] ++ [0]) ++ tbytes (ss.drop (i+1))))
  simp only [List.append_assoc]
theorem bytesR (ss:List ByteArray) (hs:ss.length≤100000) (hz:∀ x∈ss,x.size≤64) (k:Nat) (hk:ss.length<k):sr8b.f k ss=some (0 :: tbytes ss):=
 bytesR_l ss hs hz ss.length 0 k [0] (by omega) hk (by simp;omega)
theorem slotsR (xs:List S54) (hx:xs.length≤1152921504606846976) (k:Nat) (hk:xs.length<k):spindleref17_Slots.f k xs=some ((slots xs:Nat):Int):=by
 unfold spindleref17_Slots.f
 have:=Slots_l xs (by omega) xs.length 0 k 0 (by omega) hk
 rw [show ((0:Nat):Int)=0 from rfl] at this
 rw [this,slE_all xs hx]
end Go.Proofs.Ytbeikcckcjadbaa.Im
end
section
namespace Go.Proofs.Ytbeikcckcjadbaa.Im
open Go.RowKit Go.Proofs.YtbeikcckcjadbaaW.PrintWords Go.Proofs.Ytbeikcckcjadbaa.PI Go.Proofs.Ytbeikcckcjadbaa.Ln Go.Proofs.Ytbeikcckcjadbaa.Bk Go.ChangeMaps Go.MapKept
attribute [local go_sem] isSome_setCell
theorem stP_names (l:List ByteArray):∀ st:List ByteArray × List Int,(stP st l).1=l.foldl putS st.1:=by
 induction l with
 | nil=>intro st;rfl
 | cons x r ih=>intro st;exact ih (stepP st x)
theorem stF_names (xs:List S54) (fs:List S68):(stF xs fs).1=(fs.map (·.f0)).foldl putS []:=by
 have h:∀ (l:List S68) (st:List ByteArray × List Int × Nat),(l.foldl (stepF xs) st).1=(l.map (·.f0)).foldl putS st.1:=by
  intro l
  induction l with
  | nil=>intro st;rfl
  | cons x r ih=>intro st;exact ih (stepF xs st x)
 exact h fs _
theorem stT_names (xs:List S54) (fs:List S68) (ts:List S56):(stT xs fs ts).1=(allN fs ts).foldl putS []:=by
 have h:∀ (l:List S56) (st:List ByteArray × List Int),(l.foldl stepT st).1=(l.map (·.f0)).foldl putS st.1:=by
  intro l
  induction l with
  | nil=>intro st;rfl
  | cons x r ih=>intro st;exact ih (stepT st x)
 unfold stT allN
 rw [h,List.foldl_append]
 rw [stF_names]
theorem stP_all (xs:List S54) (fs:List S68) (ts:List S56):(stP ([],[]) (allN fs ts)).1=(stT xs fs ts).1:=by rw [stP_names,stT_names]
theorem stP_len (l:List ByteArray):∀ st:List ByteArray × List Int,(stP st l).2.length=st.2.length+l.length:=by
 induction l with
 | nil=>intro st;rfl
 | cons x r ih=>intro st;show (stP (stepP st x) r).2.length=_;rw [ih];unfold stepP;rw [List.length_append,List.length_cons];simp;omega
theorem stP_at (l:List ByteArray):∀ (st:List ByteArray × List Int) (i:Nat) (s:ByteArray),l[i]?=some s→(stP st l).2[st.2.length+i]?=some (plcF 1 ((l.take i).foldl putS st.1) s):=by
 have hpre:∀ (l:List ByteArray) (st:List ByteArray × List Int) (j:Nat) (v:Int),st.2[j]?=some v→(stP st l).2[j]?=some v:=by
  intro l
  induction l with
  | nil=>intro st j v h;exact h
  | cons x r ih=>intro st j v h;exact ih (stepP st x) j v (by unfold stepP;rw [List.getElem?_append_left (List.getElem?_eq_some_iff.1 h).1];exact h)
 induction l with
 | nil=>intro st i s h;simp at h
 | cons x r ih =>
  intro st i s h
  cases i with
  | zero =>
   have hx:x=s:=by simpa using h
   subst hx
   refine hpre r (stepP st x) _ _ ?_
   unfold stepP
   simp
  | succ i =>
   have h2:=ih (stepP st x) i s (by simpa using h)
   have e:(stepP st x).2.length+i=st.2.length+(i+1):=by unfold stepP;rw [List.length_append];simp;omega
   rw [e] at h2
   exact h2
def plsL (fs:List S68) (ts:List S56):List Int:=(stP ([],[]) (allN fs ts)).2
theorem plsL_len (fs:List S68) (ts:List S56):(plsL fs ts).length=fs.length+ts.length:=by
 unfold plsL
 rw [stP_len]
 simp [allN]
theorem plsL_F (xs:List S54) (fs:List S68) (ts:List S56) (k:Nat) (f:S68) (h:fs[k]?=some f):(plsL fs ts)[k]?=some (plcF 1 (stF xs (fs.take k)).1 f.f0):=by
 have hk:=(List.getElem?_eq_some_iff.1 h).1
 have h1:(allN fs ts)[k]?=some f.f0:=by unfold allN;rw [List.getElem?_append_left (by simpa using hk),List.getElem?_map,h];rfl
 have h2:=stP_at (allN fs ts) ([],[]) k f.f0 h1
 rw [stF_names]
 have h3:(allN fs ts).take k=(fs.take k).map (·.f0):=by unfold allN;rw [List.take_append_of_le_length (by simp;omega),List.map_take]
 rw [h3] at h2
 unfold plsL
 simpa using h2
theorem plsL_T (xs:List S54) (fs:List S68) (ts:List S56) (k:Nat) (d:S56) (h:ts[k]?=some d):(plsL fs ts)[fs.length+k]?=some (plcF 1 (stT xs fs (ts.take k)).1 d.f0):=by
 have hk:=(List.getElem?_eq_some_iff.1 h).1
 have h1:(allN fs ts)[fs.length+k]?=some d.f0:=by unfold allN;rw [List.getElem?_append_right (by simp),List.getElem?_map];simp [h]
 have h2:=stP_at (allN fs ts) ([],[]) (fs.length+k) d.f0 h1
 rw [stT_names]
 have h3:(allN fs ts).take (fs.length+k)=allN fs (ts.take k):=by
  unfold allN
  rw [List.take_append]
  simp [List.take_of_length_le]
 rw [h3] at h2
 unfold plsL
 simpa using h2
structure DS (w wr:World) (img:Array Value) (v8 v9 vo:Value) (P N O:List Int):Prop where
 bel:Below w.heap.size w wr
 box:Blk wr w.heap.size 26 img
 pls:wr.ownsRow w.heap.size 3 1 v8 P.length (nums .i64 P)
 nam:Bt wr w.heap.size v9 N
 out:Bt wr w.heap.size vo O
 sep:∀ k,vo.ownBlock=some k→¬ v9.ownBlock=some k
section
variable {w wr w':World} {img:Array Value} {v8 v9 vo:Value} {P N O:List Int}
theorem DS.below (h:DS w wr img v8 v9 vo P N O) (hb:Below wr.heap.size wr w'):DS w w' img v8 v9 vo P N O:=
 ⟨bdT h.bel hb,(Ch.below hb (fun _=>False)).blk h.box (fun h=>h),own_ch h.pls (Ch.below hb (fun _=>False)) (fun _ _ h=>h),h.nam.ch (Ch.below hb (fun _=>False)) (fun _ _ h=>h),h.out.ch (Ch.below hb (fun _=>False)) (fun _ _ h=>h),h.sep⟩
theorem DS.alloc (h:DS w wr img v8 v9 vo P N O) (o:Obj):DS w (wr.alloc o) img v8 v9 vo P N O:=h.below (bdA (Below.refl _ wr) o)
theorem DS.app (h:DS w wr img v8 v9 vo P N O) {vo':Value} {O':List Int} (h1:Bt w' w.heap.size vo' O') (h2:Below w.heap.size w w') (h3:Ch wr w' (fun k=>vo.ownBlock=some k)) (h4:∀ k,vo'.ownBlock=some k→vo.ownBlock=some k∨wr.heap.size≤k):DS w w' img v8 v9 vo' P N O':=by
 refine ⟨h2,h3.blk h.box (h.out.ne3 h.box (by decide)),own_ch h.pls h3 (fun k hk h5=>?_),h.nam.ch h3 (fun k hk h5=>h.sep k h5 hk),h1,fun k hk h5=>(h4 k hk).elim (fun h6=>h.sep k h6 h5) (fun h6=>absurd (h.nam.lt h5) (by omega))⟩
 obtain ⟨cur,e1⟩:=own_obj h.pls hk
 obtain ⟨cur2,e2⟩:=own_obj h.out h5
 rw [e1] at e2
 injection e2 with e2
 injection e2 with _ e2 _
 revert e2;decide
theorem DS.blk (h:DS w wr img v8 v9 vo P N O) (h3:Ch wr w' (fun k=>vo.ownBlock=some k)) {g:Nat} {ty:TypeId} {cs:Array Value} (hb:Blk wr g ty cs) (ht:ty≠5):Blk w' g ty cs:=h3.blk hb (h.out.ne3 hb ht)
theorem DS.place (h:DS w wr img v8 v9 vo P N O) {A:Option Addr} {n c:Nat} (e:v8=.slice A n c) {i:Nat} {x:Int} (hi:P[i]?=some x):∃ g,A=some ⟨g,0,none⟩∧wr.cell? ⟨g,i,none⟩=some (.int .i64 x)∧n=P.length∧i<n:=by
 have hl:=(List.getElem?_eq_some_iff.1 hi).1
 rcases h.pls.2 with ⟨_,h0⟩|⟨g,cap,cur,hv,_⟩
 ·omega
 ·rw [e] at hv
  injection hv with e1 e2 e3
  have hc:=h.pls.cells (g:=g) (by rw [e,e1];rfl) i (.int .i64 x) (by unfold nums;rw [List.getElem?_map,hi];rfl)
  rw [add_zero_block] at hc
  exact ⟨g,e1,hc,e2,by omega⟩
end
theorem laid60 (w:World) (x:Int):Calls Try.prog 60 #[.int .i64 x,.int .i64 4] w fun e w'=>∃ A c,e=.returned (.slice A 4 c)∧Bt w' w.heap.size (.slice A 4 c) (lay4 x)∧Below w.heap.size w w':=by
 refine (spindleref17_laid.calls 6 x 4 (lay4 x) w (laidR4 x 6 (Nat.le_refl _))).mono ?_
 rintro e w' ⟨v,rfl,hR,hb⟩
 obtain ⟨A,c,rfl⟩:=Kd.R_slice hR
 exact ⟨A,c,rfl,(Bt.of_R hR).1,hb⟩
theorem laid60b (w:World) (x:Int):Calls Try.prog 60 #[.int .i64 x,.int .i64 2] w fun e w'=>∃ A c,e=.returned (.slice A 2 c)∧Bt w' w.heap.size (.slice A 2 c) [x % 256,x / 256 % 256]∧Below w.heap.size w w':=by
 refine (spindleref17_laid.calls 6 x 2 _ w (laidR2 x 6 (Nat.le_refl _))).mono ?_
 rintro e w' ⟨v,rfl,hR,hb⟩
 obtain ⟨A,c,rfl⟩:=Kd.R_slice hR
 exact ⟨A,c,rfl,(Bt.of_R hR).1,hb⟩
theorem slot61 (w:World) (i:S54) (h1:0≤i.f1∧i.f1≤15) (h2:0≤i.f2∧i.f2≤15):Calls Try.prog 61 #[.agg #[.int .i64 i.f0,.int .i64 i.f1,.int .i64 i.f2,.int .i64 i.f3,.int .i64 i.f4]] w fun e w'=>∃ A c,e=.returned (.slice A (insB i).length c)∧Bt w' w.heap.size (.slice A (insB i).length c) (insB i)∧Below w.heap.size w w':=by
 have hr:=regs_ i.f1.toNat (by omega) i.f2.toNat (by omega)
 rw [Int.toNat_of_nonneg h1.1,Int.toNat_of_nonneg h2.1] at hr
 have HR:=Lib.hid hr
 clear hr h1 h2
 go_enter Try.func61,Try.ntmps61
 refine wp_seq_k (fun K hK=>?_)
 have HK:=Lib.hid hK
 clear hK
 go_wp2
 refine HK.out _ _ ?_
 clear HK
 have HB:=Lib.hid (bdA (Below.refl w.heap.size w) (.cells #[.int .i64 i.f0,.int .i64 i.f1,.int .i64 i.f2,.int .i64 i.f3,.int .i64 i.f4] 54))
 have BK:=Lib.hid (Blk.new w 54 #[.int .i64 i.f0,.int .i64 i.f1,.int .i64 i.f2,.int .i64 i.f3,.int .i64 i.f4])
 generalize w.alloc (.cells #[.int .i64 i.f0,.int .i64 i.f1,.int .i64 i.f2,.int .i64 i.f3,.int .i64 i.f4] 54)=w1 at HB BK ⊢
 have z0:=BK.out.cell 0
 have z1:=BK.out.cell 1
 have z2:=BK.out.cell 2
 simp only [List.getElem?_toArray,List.getElem?_cons_zero,List.getElem?_cons_succ] at z0 z1 z2
 refine wp_seq_k (fun K hK=>?_)
 have HK:=Lib.hid hK
 clear hK
 go_wp2
 refine HK.out _ _ ?_
 clear HK z0 z1 z2
 have HQ:=Lib.hid (show Bt (w1.alloc (.cells #[.int .u8 (i.f0 % 256),.int .u8 (wrap64 (i.f1+wrap64 (16*i.f2)) % 256)] 5)) w.heap.size (.slice (some ⟨w1.heap.size,0,none⟩) 2 2) [i.f0 % 256,wrap64 (i.f1+wrap64 (16*i.f2)) % 256] from own_lit w1 w.heap.size 5 .u8 [i.f0 % 256,wrap64 (i.f1+wrap64 (16*i.f2)) % 256] HB.out.size (by simp))
 have HBa:=Lib.hid (bdA HB.out (.cells #[.int .u8 (i.f0 % 256),.int .u8 (wrap64 (i.f1+wrap64 (16*i.f2)) % 256)] 5))
 have BKa:=Lib.hid (((Ch.refl w1 (fun _=>False)).alloc (.cells #[.int .u8 (i.f0 % 256),.int .u8 (wrap64 (i.f1+wrap64 (16*i.f2)) % 256)] 5)).blk BK.out (fun h=>h))
 clear HB BK
 generalize w1.alloc (.cells #[.int .u8 (i.f0 % 256),.int .u8 (wrap64 (i.f1+wrap64 (16*i.f2)) % 256)] 5)=w2 at HQ HBa BKa ⊢
 generalize Value.slice (some ⟨w1.heap.size,0,none⟩) 2 2=v2 at HQ ⊢
 rw [HR.out] at HQ
 generalize hl2:[i.f0 % 256,Go.bits .or .i64 i.f1 (wrap64 (i.f2*16)) % 256]=q2 at HQ
 have HE2:=Lib.hid hl2
 have HL2:=Lib.hid (show q2.length+[i.f3 % 256,i.f3 / 256 % 256].length≤1099511627776 from by rw [← hl2];simp)
 clear hl2
 have z3:=BKa.out.cell 3
 simp only [List.getElem?_toArray,List.getElem?_cons_zero,List.getElem?_cons_succ] at z3
 refine wp_seq_k (fun K hK=>?_)
 have HK:=Lib.hid hK
 clear hK
 go_wp2_with (first|(go_at_call 60;refine (laid60b _ i.f3).mono ?_;rintro e wa ⟨AL,cL,rfl,hl,hb⟩;have HL:=Lib.hid hl;have HBb:=Lib.hid (bdT HBa.out hb);have BKb:=Lib.hid (Blk.below BKa.out hb);have HQb:=Lib.hid (HQ.out.ch (Ch.below hb (fun _=>False)) (fun _ _ h=>h));clear hl hb)|(at_builtin;refine Bt.row rfl _ _ rfl HQb.out HL.out rfl rfl HL2.out HBb.out ?_))
 intro v3 w3 hg1 hb1 hc1 ho1
 generalize hq3:q2 ++ [i.f3 % 256,i.f3 / 256 % 256]=q3 at hg1
 have HE3:=Lib.hid hq3
 have HL4:=Lib.hid (show q3.length+(lay4 i.f4).length≤1099511627776 from by rw [← hq3,← HE2.out];simp [lay4])
 clear hq3
 have BK3:=Lib.hid (hc1.blk BKb.out (HQb.out.ne3 BKb.out (by decide)))
 have HQ3:=Lib.hid hg1
 have HB3:=Lib.hid hb1
 clear hg1 hb1 hc1 ho1 z3 HL HBb BKb HQb HQ HBa BKa
 go_wp2
 refine HK.out _ _ ?_
 clear HK
 have z4:=BK3.out.cell 4
 simp only [List.getElem?_toArray,List.getElem?_cons_zero,List.getElem?_cons_succ] at z4
 refine wp_seq_k (fun K hK=>?_)
 have HK:=Lib.hid hK
 clear hK
 go_wp2_with (first|(go_at_call 60;refine (laid60 _ i.f4).mono ?_;rintro e wa ⟨AL,cL,rfl,hl,hb⟩;have HL:=Lib.hid hl;have HBb:=Lib.hid (bdT HB3.out hb);have BKb:=Lib.hid (BK3.out.below hb);have HQb:=Lib.hid (HQ3.out.ch (Ch.below hb (fun _=>False)) (fun _ _ h=>h));clear hl hb)|(at_builtin;refine Bt.row rfl _ _ rfl HQb.out HL.out rfl rfl HL4.out HBb.out ?_))
 intro v4 w4 hg1 hb1 hc1 ho1
 generalize hq4:q3 ++ lay4 i.f4=q4 at hg1
 have HE4:=Lib.hid hq4
 have HL5:=Lib.hid (show q4.length+([0,0,0,0]:List Int).length≤1099511627776 from by rw [← hq4,← HE3.out,← HE2.out];simp [lay4])
 clear hq4
 have BK4:=Lib.hid (hc1.blk BKb.out (HQb.out.ne3 BKb.out (by decide)))
 have HQ4:=Lib.hid hg1
 have HB4:=Lib.hid hb1
 clear hg1 hb1 hc1 ho1 z4 HL HBb BKb HQb HQ3 HB3 BK3
 go_wp2
 refine HK.out _ _ ?_
 clear HK
 have z0:=BK4.out.cell 0
 have z1:=BK4.out.cell 1
 have z2:=BK4.out.cell 2
 have z3:=BK4.out.cell 3
 have z4:=BK4.out.cell 4
 simp only [List.getElem?_toArray,List.getElem?_cons_zero,List.getElem?_cons_succ] at z0 z1 z2 z3 z4
 refine wp_seq_k (fun KC hKC=>?_)
 have HKC:=Lib.hid hKC
 clear hKC
 refine wp_seq_k (fun K hK=>?_)
 have HK:=Lib.hid hK
 clear hK
 go_wp2_with (go_at_call 84;refine (spindleref17_wide.calls _ _ _ _ _ _ _ rfl).mono ?_;rintro e w5 ⟨rfl,hb⟩;have HB5:=Lib.hid (bdT HB4.out hb);have BK5:=Lib.hid (BK4.out.below hb);have HQ5:=Lib.hid (HQ4.out.ch (Ch.below hb (fun _=>False)) (fun _ _ h=>h));clear hb z0 z1 z2 z3 z4 HB4 BK4 HQ4)
 refine HK.out _ _ ?_
 clear HK
 by_cases hz:i.f0=24
 ·have e24:(i.f0 == 24)=true:=beq_iff_eq.2 hz
  have z0:=BK5.out.cell 0
  have z4:=BK5.out.cell 4
  simp only [List.getElem?_toArray,List.getElem?_cons_zero,List.getElem?_cons_succ] at z0 z4
  have HU:=Lib.hid (show Bt (w5.alloc (.cells #[.int .u8 0,.int .u8 0,.int .u8 0,.int .u8 0] 5)) w.heap.size (.slice (some ⟨w5.heap.size,0,none⟩) 4 4) [0,0,0,0] from own_lit w5 w.heap.size 5 .u8 [0,0,0,0] HB5.out.size (by decide))
  have HQ6:=Lib.hid (HQ5.out.ch ((Ch.refl w5 (fun _=>False)).alloc (.cells #[.int .u8 0,.int .u8 0,.int .u8 0,.int .u8 0] 5)) (fun _ _ h=>h))
  have HB6:=Lib.hid (bdA HB5.out (.cells #[.int .u8 0,.int .u8 0,.int .u8 0,.int .u8 0] 5))
  have BK6:=Lib.hid (((Ch.refl w5 (fun _=>False)).alloc (.cells #[.int .u8 0,.int .u8 0,.int .u8 0,.int .u8 0] 5)).blk BK5.out (fun h=>h))
  clear HQ5 HB5 BK5
  refine wp_cond_true (by first|rfl|exact congrArg Value.bool e24) ?_
  refine wp_seq_k (fun K hK=>?_)
  have HK:=Lib.hid hK
  clear hK
  go_wp2_with (at_builtin;refine Bt.row rfl _ _ rfl HQ6.out HU.out rfl rfl HL5.out HB6.out ?_)
  intro v6 w6 hg1 hb1 hc1 ho1
  generalize hq5:q4 ++ [0,0,0,0]=q5 at hg1
  have HE5:=Lib.hid hq5
  have HL6:=Lib.hid (show q5.length+(lay4 (i.f4 / 4294967296)).length≤1099511627776 from by rw [← hq5,← HE4.out,← HE3.out,← HE2.out];simp [lay4])
  clear hq5
  have BK7:=Lib.hid (hc1.blk BK6.out (HQ6.out.ne3 BK6.out (by decide)))
  have HQ7:=Lib.hid hg1
  have HB7:=Lib.hid hb1
  clear hg1 hb1 hc1 ho1 z0 z4 HQ6 HB6 BK6 HU
  go_wp2
  refine HK.out _ _ ?_
  clear HK
  have z4:=BK7.out.cell 4
  simp only [List.getElem?_toArray,List.getElem?_cons_zero,List.getElem?_cons_succ] at z4
  go_wp2_with (first|(go_at_call 60;refine (laid60 _ (i.f4 / 4294967296)).mono ?_;rintro e wa ⟨AL,cL,rfl,hl,hb⟩;have HL:=Lib.hid hl;have HBb:=Lib.hid (bdT HB7.out hb);have HQb:=Lib.hid (HQ7.out.ch (Ch.below hb (fun _=>False)) (fun _ _ h=>h));clear hl hb)|(at_builtin;refine Bt.row rfl _ _ rfl HQb.out HL.out rfl rfl HL6.out HBb.out ?_))
  intro v8 w8 hg1 hb1 hc1 ho1
  have e:q5 ++ lay4 (i.f4 / 4294967296)=insB i:=by rw [← HE5.out,← HE4.out,← HE3.out,← HE2.out];unfold insB;rw [if_pos hz];simp [lay4]
  rw [e] at hg1
  obtain ⟨A,c,rfl⟩:=shape hg1
  go_wp2
  refine HKC.out _ _ ?_
  go_wp2
  go_ret
  exact ⟨A,c,rfl,hg1,hb1⟩
 ·have e24:(i.f0 == 24)=false:=beq_eq_false_iff_ne.2 hz
  have e:q4=insB i:=by rw [← HE4.out,← HE3.out,← HE2.out];unfold insB;rw [if_neg hz];simp [lay4]
  have hg1:=HQ5.out
  rw [e] at hg1
  obtain ⟨A,c,rfl⟩:=shape hg1
  clear HQ5
  refine wp_cond_false (by first|rfl|exact congrArg Value.bool e24) ?_
  go_wp2
  refine HKC.out _ _ ?_
  go_wp2
  go_ret
  exact ⟨A,c,rfl,hg1,HB5.out⟩
theorem slots59 (w:World) (A:Option Addr) (c:Nat) (xs:List S54) (hc:Kd.C k54 w A xs.length xs) (hl:xs.length≤c) (hx:xs.length≤1000000000) (n:Nat) (en:n=xs.length):Calls Try.prog 59 #[.slice A n c] w fun e w'=>e=.returned (.int .i64 (slots xs:Nat))∧Below w.heap.size w w':=by
 subst en
 exact spindleref17_Slots.calls (xs.length+1) A c xs _ w hc hl (slotsR xs (by omega) _ (by omega))
theorem fits_regs (x:S54) (h:spindleref17_fits.f x.f0 x.f1 x.f2 x.f3 x.f4=some true):(0≤x.f1∧x.f1≤15)∧(0≤x.f2∧x.f2≤15):=by
 unfold spindleref17_fits.f spindleref17_wide.f at h
 simp only [Option.bind_some] at h
 repeat' split at h
 all_goals first|(refine ⟨⟨?_,?_⟩,⟨?_,?_⟩⟩ <;> omega)|exact absurd h (by simp)
theorem ins_of (xs:List S54):∀ (d i:Nat),i+d=xs.length→(insE xs d i).2=false→∀ j,i≤j→(hj:j<xs.length)→(0≤xs[j].f1∧xs[j].f1≤15)∧(0≤xs[j].f2∧xs[j].f2≤15)
 | 0,i,h,hc,j,hij,hj=>by omega
 | d+1,i,h,hc,j,hij,hj=>by
  have e:rd_T54 xs (i:Int)=xs[i]'(by omega):=by unfold rd_T54;simp [List.getD_eq_getElem?_getD,show i<xs.length from by omega]
  unfold insE at hc
  rw [e] at hc
  split at hc
  ·rename_i h2
   by_cases hij2:i=j
   ·subst hij2
    rw [held_fits] at h2
    exact fits_regs _ h2
   ·exact ins_of xs d (i+1) (by omega) hc j (by omega) hj
  ·cases hc
end Go.Proofs.Ytbeikcckcjadbaa.Im
end
section
namespace Go.Proofs.Ytbeikcckcjadbaa.Im
open Go.RowKit Go.Proofs.YtbeikcckcjadbaaW.PrintWords Go.Proofs.Ytbeikcckcjadbaa.PI Go.Proofs.Ytbeikcckcjadbaa.Ln Go.Proofs.Ytbeikcckcjadbaa.Bk Go.ChangeMaps Go.MapKept
attribute [local go_sem] isSome_setCell
theorem names_small {xs:List S54} {fs:List S68} {ts:List S56} (hG:Gd xs fs ts):∀ x∈(stT xs fs ts).1,x.size≤64:=by
 have h:∀ (l st:List ByteArray),(∀ x∈l,x.size≤64)→(∀ x∈st,x.size≤64)→∀ x∈l.foldl putS st,x.size≤64:=by
  intro l
  induction l with
  | nil=>intro st _ h2;exact h2
  | cons y r ih=>intro st h1 h2;exact ih (putS st y) (fun x hx=>h1 x (List.mem_cons_of_mem _ hx)) (putS_small h2 (h1 y List.mem_cons_self))
 rw [stT_names]
 refine h _ _ (fun x hx=>?_) (fun x hx=>by cases hx)
 rcases List.mem_append.1 hx with hx|hx
 ·obtain ⟨f,hf,rfl⟩:=List.mem_map.1 hx;exact nm_size (hG.fn f hf)
 ·obtain ⟨f,hf,rfl⟩:=List.mem_map.1 hx;exact nm_size (hG.tn f hf)
theorem own_low {w:World} {base base' n:Nat} {e:TypeId} {v:Value} {xs:List Value} (h:w.ownsRow base e 1 v n xs) (hb:base'≤base):w.ownsRow base' e 1 v n xs:=by
 refine ⟨h.1,?_⟩
 rcases h.2 with hn|⟨g,cap,cur,hv,hg,rest⟩
 ·exact .inl hn
 ·exact .inr ⟨g,cap,cur,hv,Nat.le_trans hb hg,rest⟩
theorem own64_of_R {w:World} {base:Nat} {ok:Nat→Prop} {v:Value} {l:List Int} (h:Kd.R (Kd.int .i64) 3 w base ok v l):w.ownsRow base 3 1 v l.length (nums .i64 l):=by
 obtain ⟨h1,inner,h2,h3,h4⟩:=h
 have e:inner=nums .i64 l:=by
  apply List.ext_getElem?
  intro i
  by_cases hi:i<l.length
  ·have h5:(inner.drop (i*1)).take 1=[.int .i64 l[i]]:=h4 i l[i] (List.getElem?_eq_getElem hi)
   have h6:=congrArg (fun z=>z[0]?) h5
   simp only [List.getElem?_take,List.getElem?_drop] at h6
   simp at h6
   rw [h6]
   simp [nums,hi]
  ·have h3':inner.length=l.length*1:=h3
   rw [List.getElem?_eq_none (by omega),List.getElem?_eq_none (by rw [nums_length];omega)]
 rw [e] at h2
 exact h2
theorem refw_ok (w:World) (A0 A1 A2:Option Addr) (c0 c1 c2:Nat) (xs:List S54) (fs:List S68) (ts:List S56) (en:Int)
  (h0:Kd.C k54 w A0 xs.length xs) (h1:Kd.C k68 w A1 fs.length fs) (h2:Kd.C k56 w A2 ts.length ts) (l0:xs.length≤c0) (l1:fs.length≤c1) (l2:ts.length≤c2)
  (hr:RefIs xs fs ts en 0 0) (hG:Gd xs fs ts) (hI:∀ j,(hj:j<xs.length)→(0≤xs[j].f1∧xs[j].f1≤15)∧(0≤xs[j].f2∧xs[j].f2≤15)) :
  Calls Try.prog 25 #[.agg #[.slice A0 xs.length c0,.slice A1 fs.length c1,.slice A2 ts.length c2,.int .i64 en]] w fun e w'=>∃ v:Value,e=.returned (.tuple #[v,.int .i64 0,.int .i64 0])∧Bt w' w.heap.size v (wrB xs fs ts en)∧Below w.heap.size w w':=by
 have hxl:xs.length≤1048576:=Nat.le_trans (slots_le xs).1 hG.sl
 have hsl:=hG.sl
 have hfl:=hG.fl
 have htl:=hG.tl
 obtain ⟨F,hF⟩:=hr
 have HFF:=Lib.hid (hF F (Nat.le_refl _))
 have HG:=Lib.hid hG
 have HI:=Lib.hid hI
 have HC0:=Lib.hid h0
 have HC1:=Lib.hid h1
 have HC2:=Lib.hid h2
 clear hF hG hI h0 h1 h2
 go_enter Try.func25,Try.ntmps25
 refine wp_seq_k (fun K hK=>?_)
 have HK:=Lib.hid hK
 clear hK
 go_wp2
 refine HK.out _ _ ?_
 clear HK
 obtain ⟨img,himg⟩:∃ img:Array Value,img=#[.slice A0 xs.length c0,.slice A1 fs.length c1,.slice A2 ts.length c2,.int .i64 en]:=⟨_,rfl⟩
 have HB0:=Lib.hid (bdA (Below.refl w.heap.size w) (.cells #[.slice A0 xs.length c0,.slice A1 fs.length c1,.slice A2 ts.length c2,.int .i64 en] 26))
 have HX0:=Lib.hid (show Blk (w.alloc (.cells #[.slice A0 xs.length c0,.slice A1 fs.length c1,.slice A2 ts.length c2,.int .i64 en] 26)) w.heap.size 26 img from himg ▸ Blk.new w 26 _)
 generalize w.alloc (.cells #[.slice A0 xs.length c0,.slice A1 fs.length c1,.slice A2 ts.length c2,.int .i64 en] 26)=w1 at HB0 HX0 ⊢
 have c_0:=HX0.out.cell 0
 have c_1:=HX0.out.cell 1
 have c_2:=HX0.out.cell 2
 have c_3:=HX0.out.cell 3
 simp only [himg,List.getElem?_toArray,List.getElem?_cons_zero,List.getElem?_cons_succ] at c_0 c_1 c_2 c_3
 have HL:=Lib.hid (sr17c.calls F A0 c0 xs A1 c1 fs A2 c2 ts en 0 0 w1 (Kd.CbW HC0.out HB0.out) l0 (Kd.CbW HC1.out HB0.out) l1 (Kd.CbW HC2.out HB0.out) l2 HFF.out)
 refine wp_seq_k (fun K hK=>?_)
 have HK:=Lib.hid hK
 clear hK
 go_wp2_with (go_at_call 20;refine HL.out.mono ?_;rintro e w2 ⟨rfl,hb2⟩;have HB2:=Lib.hid hb2;clear hb2)
 refine HK.out _ _ ?_
 clear HK c_0 c_1 c_2 c_3 HL
 have HB1:=Lib.hid (bdT HB0.out HB2.out)
 have HX1:=Lib.hid ((Ch.below HB2.out (fun _=>False)).blk HX0.out (fun h=>h))
 clear HB0 HX0 HB2
 have c_0:=HX1.out.cell 0
 have c_1:=HX1.out.cell 1
 have c_2:=HX1.out.cell 2
 have c_3:=HX1.out.cell 3
 simp only [himg,List.getElem?_toArray,List.getElem?_cons_zero,List.getElem?_cons_succ] at c_0 c_1 c_2 c_3
 refine wp_seq_k (fun K hK=>?_)
 have HK:=Lib.hid hK
 clear hK
 go_wp2
 refine HK.out _ _ ?_
 clear HK
 obtain ⟨NN,hNN⟩:∃ NN,NN=(stT xs fs ts).1:=⟨_,rfl⟩
 obtain ⟨PP,hPP⟩:∃ PP,PP=plsL fs ts:=⟨_,rfl⟩
 have hstr:sr17s.f 30000 xs fs ts en=some (NN,PP):=by rw [stringsR HG.out en,hNN,hPP,← stP_all];rfl
 have HNN:=Lib.hid hNN
 have HPP:=Lib.hid hPP
 have HL:=Lib.hid (sr17s.calls 30000 A0 c0 xs A1 c1 fs A2 c2 ts en NN PP w2 (Kd.CbW HC0.out HB1.out) l0 (Kd.CbW HC1.out HB1.out) l1 (Kd.CbW HC2.out HB1.out) l2 hstr)
 have HNS:=Lib.hid (show (∀ x∈NN,x.size≤64)∧NN.length≤5120 from by
  rw [hNN]
  have:=stT_le HG.out ts.length (Nat.le_refl _)
  rw [List.take_length] at this
  exact ⟨names_small HG.out,by omega⟩)
 clear hstr hNN hPP
 refine wp_seq_k (fun K hK=>?_)
 have HK:=Lib.hid hK
 clear hK
 go_wp2_with (go_at_call 57;refine HL.out.mono ?_;rintro e w3 ⟨v7,v8,rfl,hR7,hR8,hb⟩;obtain ⟨A7,c7,rfl,hc7,hC7⟩:=Kd.R_reads hR7;obtain ⟨A8,c8,rfl,hc8,_⟩:=Kd.R_reads hR8;have HR8:=Lib.hid hR8;have HC7:=Lib.hid hC7;have HL7:=Lib.hid hc7;have HB3:=Lib.hid hb;clear hR7 hR8 hb hC7 hc7 hc8)
 refine HK.out _ _ ?_
 clear HK c_0 c_1 c_2 c_3 HL
 have HB4:=Lib.hid (bdT HB1.out HB3.out)
 have HX4:=Lib.hid ((Ch.below HB3.out (fun _=>False)).blk HX1.out (fun h=>h))
 have HZ2:=Lib.hid (show w.heap.size≤w2.heap.size from HB1.out.size)
 clear HB1 HX1
 have HC7b:=Lib.hid (Kd.CbW HC7.out (bdA (Below.refl _ w3) (.cells #[.slice A7 NN.length c7] 90)))
 have HB5:=Lib.hid (bdA HB4.out (.cells #[.slice A7 NN.length c7] 90))
 have HX5:=Lib.hid (((Ch.refl w3 (fun _=>False)).alloc (.cells #[.slice A7 NN.length c7] 90)).blk HX4.out (fun h=>h))
 have HP5:=Lib.hid (own_ch (own64_of_R HR8.out) ((Ch.refl w3 (fun _=>False)).alloc (.cells #[.slice A7 NN.length c7] 90)) (fun _ _ h=>h))
 have HY5:=Lib.hid (Blk.new w3 90 #[.slice A7 NN.length c7])
 clear HR8 HC7 HB4 HX4 HB3
 generalize w3.alloc (.cells #[.slice A7 NN.length c7] 90)=w4 at HC7b HB5 HX5 HP5 HY5 ⊢
 generalize w3.heap.size=g7 at HY5 ⊢
 have HL:=Lib.hid (sr8b.calls (NN.length+1) A7 c7 NN (0 :: tbytes NN) w4 HC7b.out HL7.out (bytesR NN (by have:=HNS.out.2;omega) HNS.out.1 _ (by omega)))
 have c_0:=HY5.out.cell 0
 simp only [List.getElem?_toArray,List.getElem?_cons_zero,List.getElem?_cons_succ] at c_0
 refine wp_seq_k (fun K hK=>?_)
 have HK:=Lib.hid hK
 clear hK
 go_wp2_with (go_at_call 58;refine HL.out.mono ?_;rintro e w5 ⟨v9,rfl,hR,hb⟩;have HV9:=Lib.hid (Bt.of_R hR).1;have HB6:=Lib.hid hb;clear hR hb)
 refine HK.out _ _ ?_
 clear HK c_0 HL HC7b HY5 HL7
 refine wp_seq_k (fun K hK=>?_)
 have HK:=Lib.hid hK
 clear hK
 go_wp2
 refine HK.out _ _ ?_
 clear HK
 have HD:=Lib.hid (show DS w (w5.alloc (.cells #[.int .u8 83,.int .u8 80,.int .u8 73,.int .u8 78] 5)) img (.slice A8 PP.length c8) v9 (.slice (some ⟨w5.heap.size,0,none⟩) 4 4) PP (0 :: tbytes NN) [83,80,73,78] from by
  have hal:=(Ch.refl w5 (fun _=>False)).alloc (.cells #[.int .u8 83,.int .u8 80,.int .u8 73,.int .u8 78] 5)
  have hbl:=Ch.below HB6.out (fun _=>False)
  have hb5:=bdT HB5.out HB6.out
  refine ⟨bdA hb5 _,hal.blk (hbl.blk HX5.out (fun h=>h)) (fun h=>h),own_ch (own_ch (own_low HP5.out HZ2.out) hbl (fun _ _ h=>h)) hal (fun _ _ h=>h),(HV9.out.lower HB5.out.size).ch hal (fun _ _ h=>h),own_lit w5 w.heap.size 5 .u8 [83,80,73,78] hb5.size (by decide),fun k hk h9=>?_⟩
  have e:w5.heap.size=k:=by simpa [Value.ownBlock] using hk
  have:=HV9.out.lt h9
  omega)
 clear HP5 HV9 HB6 HX5 HB5 HZ2
 generalize w5.alloc (.cells #[.int .u8 83,.int .u8 80,.int .u8 73,.int .u8 78] 5)=w6 at HD ⊢
 generalize w5.heap.size=g10 at HD ⊢
 have hpl:=plsL_len fs ts
 rw [← HPP.out] at hpl
 have HPL:=Lib.hid hpl
 clear hpl
 obtain ⟨A9,c9,e9⟩:=shape HD.out.nam
 obtain ⟨n9,hn9⟩:∃ n9,n9=(0 :: tbytes NN).length:=⟨_,rfl⟩
 rw [← hn9] at e9
 subst e9
 have HN9:=Lib.hid hn9
 clear hn9
 refine wp_seq_k (fun K hK=>?_)
 have HK:=Lib.hid hK
 clear hK
 have q0:=HD.out.box.cell 0
 have q1:=HD.out.box.cell 1
 have q2:=HD.out.box.cell 2
 have q3:=HD.out.box.cell 3
 simp only [himg,List.getElem?_toArray,List.getElem?_cons_zero,List.getElem?_cons_succ] at q0 q1 q2 q3
 have HSA:=Lib.hid (show ∀ W,Below w6.heap.size w6 W→(fun W=>W.cell? ⟨w.heap.size,0,none⟩=some (.slice A0 xs.length c0)∧W.cell? ⟨w.heap.size,1,none⟩=some (.slice A1 fs.length c1)∧W.cell? ⟨w.heap.size,2,none⟩=some (.slice A2 ts.length c2)∧W.cell? ⟨w.heap.size,3,none⟩=some (.int .i64 en)) W from fun W hW=>⟨(hW.cell (World.block_lt_of_cell? w6 _ q0)).trans q0,(hW.cell (World.block_lt_of_cell? w6 _ q1)).trans q1,(hW.cell (World.block_lt_of_cell? w6 _ q2)).trans q2,(hW.cell (World.block_lt_of_cell? w6 _ q3)).trans q3⟩)
 clear q0 q1 q2 q3
 have HFC:=Lib.hid (show ∀ W,Below w6.heap.size w6 W→Calls Try.prog 59 #[.slice A0 xs.length c0] W fun e w'=>e=.returned (.int .i64 (slots xs:Nat))∧Below W.heap.size W w' from fun W hW=>slots59 W A0 c0 xs (Kd.CbW HC0.out (bdT HD.out.bel hW)) l0 (by omega) _ rfl)
 have HD0:=Lib.hid (below_drew (Below.refl w6.heap.size w6))
 have HD1:=Lib.hid (show ∀ o,Below w6.heap.size w6 (w6.alloc o).drew from fun o=>bd1 (bdA (Below.refl _ w6) o))
 have HS0:=Lib.hid (HSA.out _ HD0.out)
 have HS1:=Lib.hid (fun o=>HSA.out _ (HD1.out o))
 refine Code.wp_mono (Q:=Norm fun a W=>∃ r,a={ tmps:=#[Value.agg #[Value.slice A0 xs.length c0,Value.slice A1 fs.length c1,Value.slice A2 ts.length c2,Value.int IntKind.i64 en],Value.pointer (some { block:=w.heap.size,off:=0 }),Value.slice none 0 0,Value.int IntKind.i64 0,Value.int IntKind.i64 0,Value.int IntKind.i64 0,Value.int IntKind.i64 0,Value.pointer (some { block:=g7,off:=0 }),Value.slice A8 PP.length c8,Value.slice A9 n9 c9,Value.slice (some { block:=g10,off:=0 }) 4 4,Value.pointer (some { block:=r,off:=0 }),undef,undef,undef,undef,undef,undef,undef,undef,undef,undef,undef,Value.tuple #[Value.int IntKind.i64 0,Value.int IntKind.i64 0],Value.agg #[Value.slice A0 xs.length c0,Value.slice A1 fs.length c1,Value.slice A2 ts.length c2,Value.int IntKind.i64 en],Value.tuple #[Value.int IntKind.i64 0,Value.int IntKind.i64 0],Value.int IntKind.i64 0,Value.int IntKind.i64 0,Value.int IntKind.i64 0,Value.bool false,undef,undef,Value.tuple #[Value.agg #[Value.slice A7 NN.length c7],Value.slice A8 PP.length c8],Value.agg #[Value.slice A0 xs.length c0,Value.slice A1 fs.length c1,Value.slice A2 ts.length c2,Value.int IntKind.i64 en],Value.tuple #[Value.agg #[Value.slice A7 NN.length c7],Value.slice A8 PP.length c8],Value.agg #[Value.slice A7 NN.length c7],Value.slice A8 PP.length c8,Value.agg #[Value.slice A7 NN.length c7],Value.slice A9 n9 c9,Value.slice (some { block:=g10,off:=0 }) 4 4,Value.pointer (some { block:=w.heap.size,off:=0 }),Value.slice A0 xs.length c0,Value.int IntKind.i64 ↑(slots xs),Value.pointer (some { block:=w.heap.size,off:=1 }),Value.slice A1 fs.length c1,Value.int IntKind.i64 ↑fs.length,Value.pointer (some { block:=w.heap.size,off:=2 }),Value.slice A2 ts.length c2,Value.int IntKind.i64 ↑ts.length,Value.slice A9 n9 c9,Value.int IntKind.i64 ↑n9,Value.pointer (some { block:=w.heap.size,off:=3 }),Value.int IntKind.i64 en,Value.agg #[Value.int IntKind.i64 1,Value.int IntKind.i64 ↑(slots xs),Value.int IntKind.i64 ↑fs.length,Value.int IntKind.i64 ↑ts.length,Value.int IntKind.i64 ↑n9,Value.int IntKind.i64 en],undef,undef,undef,undef,undef,undef,undef,undef,undef,undef,undef,undef,undef,undef,undef,undef,undef,undef,undef,undef,undef,undef,undef,undef,undef,undef,undef,undef,undef,undef,undef,undef,undef,undef,undef,undef,undef,undef,undef,undef,undef,undef,undef,undef,undef,undef,undef,undef,undef,undef,undef,undef,undef,undef,undef,undef,undef,undef,undef,undef,undef,undef,undef,undef,undef,undef,undef,undef,undef,undef,undef,undef,undef,undef,undef,undef,undef,undef,undef,undef,undef,undef,undef,undef,undef,undef,undef,undef,undef,undef,undef,undef,undef,undef,undef,undef,undef,undef,undef,undef,undef,undef,undef,undef,undef,undef,undef,undef,undef,undef,undef,undef],defers:=[] }∧Hid (Blk W r 94 #[Value.int IntKind.i64 1,Value.int IntKind.i64 ↑(slots xs),Value.int IntKind.i64 ↑fs.length,Value.int IntKind.i64 ↑ts.length,Value.int IntKind.i64 ↑n9,Value.int IntKind.i64 en]∧Below w6.heap.size w6 W)) ?_ ?_
 rotate_left
 ·go_region_held3 (fun W=>W.cell? ⟨w.heap.size,0,none⟩=some (.slice A0 xs.length c0)∧W.cell? ⟨w.heap.size,1,none⟩=some (.slice A1 fs.length c1)∧W.cell? ⟨w.heap.size,2,none⟩=some (.slice A2 ts.length c2)∧W.cell? ⟨w.heap.size,3,none⟩=some (.int .i64 en)) (first|with_reducible exact HS0.out|with_reducible exact HS1.out _|with_reducible exact HSA.out _ HB7.out|with_reducible exact HSA.out _ (bdA HB7.out _)|with_reducible exact HSA.out _ (bdS (bdS (bdS (bdS (bdS (bdS HB7.out (Nat.le_refl _)) (Nat.le_refl _)) (Nat.le_refl _)) (Nat.le_refl _)) (Nat.le_refl _)) (Nat.le_refl _))) (first|(go_at_call 59;refine (HFC.out _ HD0.out).mono ?_;rintro e w7 ⟨rfl,hb⟩;have HB7:=Lib.hid (bdT HD0.out hb);clear hb)|(go_at_call 59;refine (HFC.out _ (HD1.out _)).mono ?_;rintro e w7 ⟨rfl,hb⟩;have HB7:=Lib.hid (bdT (HD1.out _) hb);have HZ:=Lib.hid (show Blk w7 w6.heap.size 94 #[.int .i64 0,.int .i64 0,.int .i64 0,.int .i64 0,.int .i64 0,.int .i64 0] from (show Blk (w6.alloc (.cells #[.int .i64 0,.int .i64 0,.int .i64 0,.int .i64 0,.int .i64 0,.int .i64 0] 94)).drew w6.heap.size 94 #[.int .i64 0,.int .i64 0,.int .i64 0,.int .i64 0,.int .i64 0,.int .i64 0] from Blk.new w6 94 #[.int .i64 0,.int .i64 0,.int .i64 0,.int .i64 0,.int .i64 0,.int .i64 0]).below hb);have z0:=HZ.out.cell 0;have y0:=HZ.out.frozen 0;have z1:=HZ.out.cell 1;have y1:=HZ.out.frozen 1;have z2:=HZ.out.cell 2;have y2:=HZ.out.frozen 2;have z3:=HZ.out.cell 3;have y3:=HZ.out.frozen 3;have z4:=HZ.out.cell 4;have y4:=HZ.out.frozen 4;have z5:=HZ.out.cell 5;have y5:=HZ.out.frozen 5;simp only [List.getElem?_toArray,List.getElem?_cons_zero,List.getElem?_cons_succ] at z0 z1 z2 z3 z4 z5;clear hb))
  ·exact ⟨_,rfl,Lib.hid ⟨Blk.new _ _ _,bdA HB7.out _⟩⟩
  ·exact ⟨_,rfl,Lib.hid ⟨(((((HZ.out.set_ 0 _).set_ 1 _).set_ 2 _).set_ 3 _).set_ 4 _).set_ 5 _,(bdS (bdS (bdS (bdS (bdS (bdS HB7.out (Nat.le_refl _)) (Nat.le_refl _)) (Nat.le_refl _)) (Nat.le_refl _)) (Nat.le_refl _)) (Nat.le_refl _))⟩⟩
 refine Norm.elim ?_
 rintro a W7 ⟨r11,rfl,hr⟩
 refine HK.out _ _ ?_
 obtain ⟨hs,hhs⟩:∃ hs:List Int,hs=[1,((slots xs:Nat):Int),(fs.length:Int),(ts.length:Int),(n9:Int),en]:=⟨_,rfl⟩
 have hhl:hs.length=6:=by rw [hhs];rfl
 have HHL:=Lib.hid hhl
 have HB7:=Lib.hid (show Blk W7 r11 94 (nums .i64 hs).toArray from by rw [hhs];exact hr.out.1)
 have HHS:=Lib.hid hhs
 have HD7:=Lib.hid (HD.out.below hr.out.2)
 clear HK hr HD HSA HFC HD0 HD1 HS0 HS1 hhs hhl
 refine wp_seq_k (fun KL hKL=>?_)
 have HKL:=Lib.hid hKL
 clear hKL
 go_wp2
 go_loopw [10,12] (fun vo iv wq=>∃ k:Nat,k≤6∧iv=.int .i64 (k:Int)∧Hid (DS w wq img (.slice A8 PP.length c8) (.slice A9 n9 c9) vo PP (0 :: tbytes NN) ([83,80,73,78] ++ (hs.take k).flatMap lay4))∧Hid (Blk wq r11 94 (nums .i64 hs).toArray)) (fun _ iv _=>6 - (RowKit.intOf iv).toNat)
 case atStart=>exact ⟨0,Nat.zero_le _,rfl,HD7,HB7⟩
 case round =>
  obtain ⟨k,hk,rfl,HDq,HBq⟩:=hrel
  clear HD7 HB7
  by_cases hlt:k<6
  ·obtain ⟨x,hx⟩:∃ x,hs[k]?=some x:=⟨_,List.getElem?_eq_getElem (by rw [HHL.out];exact hlt)⟩
   have hc:=HBq.out.cell k
   rw [List.getElem?_toArray,show (nums .i64 hs)[k]?=some (.int .i64 x) from by unfold nums;rw [List.getElem?_map,hx];rfl] at hc
   have hnx:=Lib.hid (show (hs.take (k+1)).flatMap lay4=(hs.take k).flatMap lay4 ++ lay4 x from by rw [List.take_add_one,hx];simp)
   clear hx
   have HQ1:=Lib.hid (show ([83,80,73,78] ++ (hs.take k).flatMap lay4:List Int).length+(lay4 x).length≤1099511627776 from by rw [List.length_append,lay4s_length,List.length_take];simp [lay4];omega)
   go_wp2_with (first|(go_at_call 60;refine (laid60 _ x).mono ?_;rintro e wa ⟨AL,cL,rfl,hl,hb⟩;have HL:=Lib.hid hl;have HDa:=Lib.hid (HDq.out.below hb);have HBa:=Lib.hid (HBq.out.below hb);clear hl hb)|(at_builtin;refine Bt.row rfl _ _ rfl HDa.out.out HL.out rfl rfl HQ1.out HDa.out.bel ?_))
   intro v5 wf hg1 hb1 hc1 ho1
   have HBf:=Lib.hid (HDa.out.blk hc1 HBa.out (by decide))
   have HDf:=Lib.hid (HDa.out.app hg1 hb1 hc1 ho1)
   clear hg1 hb1 hc1 ho1 HDa HBa HL HDq HBq
   go_wp2
   go_roundw
   case rel=>exact ⟨k+1,by omega,by go_num,by rw [hnx.out,← List.append_assoc];exact HDf,HBf⟩
   case measure=>simp [RowKit.intOf];omega
  ·have hk6:k=6:=by omega
   rw [hk6] at HDq
   have HK6:=Lib.hid hk6
   clear hk6
   go_wp2
   refine HKL.out _ _ ?_
   clear HKL hk hlt
   generalize Value.int IntKind.i64 (k:Int)=v12
   generalize Value.bool (decide ((k:Int)<6))=v55
   obtain ⟨O1,hO1⟩:∃ O1:List Int,O1=[83,80,73,78] ++ (hs.take 6).flatMap lay4:=⟨_,rfl⟩
   have HO1:=Lib.hid hO1
   have HOL:=Lib.hid (show O1.length≤28 from by rw [hO1,List.length_append,lay4s_length,List.length_take];simp;omega)
   have HD8:=Lib.hid (show DS w wr img (.slice A8 PP.length c8) (.slice A9 n9 c9) u10 PP (0 :: tbytes NN) (O1 ++ texB (xs.take 0)) from by rw [hO1];simp only [texB,List.take_zero,List.flatMap_nil,List.append_nil];exact HDq.out)
   clear HDq HBq hO1
   refine wp_seq_k (fun KX hKX=>?_)
   have HKX:=Lib.hid hKX
   clear hKX
   go_wp2
   go_loopw [10,13] (fun vo iv wq=>∃ k:Nat,k≤xs.length∧iv=.int .i64 (k:Int)∧Hid (DS w wq img (.slice A8 PP.length c8) (.slice A9 n9 c9) vo PP (0 :: tbytes NN) (O1 ++ texB (xs.take k)))) (fun _ iv _=>xs.length - (RowKit.intOf iv).toNat)
   case atStart=>exact ⟨0,Nat.zero_le _,rfl,HD8⟩
   case round =>
    obtain ⟨k,hk,rfl,HDq⟩:=hrel
    clear HD8
    have q0:=HDq.out.box.cell 0
    simp only [himg,List.getElem?_toArray,List.getElem?_cons_zero,List.getElem?_cons_succ] at q0
    by_cases hlt:k<xs.length
    ·obtain ⟨ad,rfl,hx0,hx1,hx2,hx3,hx4⟩:=at_T54 HC0.out (k:Int) (Int.natCast_nonneg k) (by exact_mod_cast hlt)
     simp only [Int.toNat_natCast] at hx0 hx1 hx2 hx3 hx4
     obtain ⟨i,ei⟩:∃ i,i=rd_T54 xs (k:Int):=⟨_,rfl⟩
     have hxe:i=xs[k]:=by rw [ei];unfold rd_T54;rw [Int.toNat_natCast,List.getD_eq_getElem?_getD,List.getElem?_eq_getElem hlt];rfl
     have hxk:xs[k]?=some i:=by rw [hxe];exact List.getElem?_eq_getElem hlt
     have HR:=Lib.hid (hxe ▸ HI.out k hlt)
     rw [← ei] at hx0 hx1 hx2 hx3 hx4
     have d0:=(HDq.out.bel.cell (World.block_lt_of_cell? w _ hx0)).trans hx0
     have d1:=(HDq.out.bel.cell (World.block_lt_of_cell? w _ hx1)).trans hx1
     have d2:=(HDq.out.bel.cell (World.block_lt_of_cell? w _ hx2)).trans hx2
     have d3:=(HDq.out.bel.cell (World.block_lt_of_cell? w _ hx3)).trans hx3
     have d4:=(HDq.out.bel.cell (World.block_lt_of_cell? w _ hx4)).trans hx4
     have hnx:=Lib.hid (texB_next xs k i hxk)
     have HQ1:=Lib.hid (show (O1 ++ texB (xs.take k)).length+(insB i).length≤1099511627776 from by
      have:=slots_take_le xs k
      have:=HOL.out
      have:=sl1_le i
      rw [List.length_append,texB_length,insB_length]
      omega)
     clear hx0 hx1 hx2 hx3 hx4 ei hxk hxe
     go_wp2_with (first|(go_at_call 61;refine (slot61 _ i HR.out.1 HR.out.2).mono ?_;rintro e wa ⟨AL,cL,rfl,hl,hb⟩;have HL:=Lib.hid hl;have HDa:=Lib.hid (HDq.out.below hb);clear hl hb)|(at_builtin;refine Bt.row rfl _ _ rfl HDa.out.out HL.out rfl rfl HQ1.out HDa.out.bel ?_))
     intro v5 wf hg1 hb1 hc1 ho1
     have HDf:=Lib.hid (HDa.out.app hg1 hb1 hc1 ho1)
     clear hg1 hb1 hc1 ho1 HDa HL HDq q0 d0 d1 d2 d3 d4
     go_wp2
     go_roundw
     case rel=>exact ⟨k+1,by omega,by go_num,by rw [hnx.out];exact HDf⟩
     case measure=>simp [RowKit.intOf];omega
    ·obtain rfl:k=xs.length:=by omega
     go_wp2
     refine HKX.out _ _ ?_
     clear HKX q0
     rw [List.take_length] at HDq
     obtain ⟨O2,hO2⟩:∃ O2:List Int,O2=O1 ++ texB xs:=⟨_,rfl⟩
     have HO2:=Lib.hid hO2
     have HOL2:=Lib.hid (show O2.length≤8388640 from by have:=HOL.out;rw [hO2,List.length_append,texB_length];omega)
     have HF0:=Lib.hid (show DS w wr img (.slice A8 PP.length c8) (.slice A9 n9 c9) u10 PP (0 :: tbytes NN) (O2 ++ (stF xs (fs.take 0)).2.1) from by rw [hO2];show DS _ _ _ _ _ _ _ _ (_ ++ []);rw [List.append_nil];exact HDq.out)
     clear HDq hO2
     refine wp_seq_k (fun K hK=>?_)
     have HK:=Lib.hid hK
     clear hK
     go_wp2
     refine HK.out _ _ ?_
     clear HK
     refine wp_seq_k (fun KF hKF=>?_)
     have HKF:=Lib.hid hKF
     clear hKF
     go_wp2
     go_loopw [10,14,15] (fun vo va iv wq=>∃ k:Nat,k≤fs.length∧iv=.int .i64 (k:Int)∧va=.int .i64 (((stF xs (fs.take k)).2.2:Nat):Int)∧Hid (DS w wq img (.slice A8 PP.length c8) (.slice A9 n9 c9) vo PP (0 :: tbytes NN) (O2 ++ (stF xs (fs.take k)).2.1))) (fun _ _ iv _=>fs.length - (RowKit.intOf iv).toNat)
     case atStart=>exact ⟨0,Nat.zero_le _,rfl,rfl,HF0⟩
     case round =>
      obtain ⟨k,hk,rfl,rfl,HDq⟩:=hrel
      clear HF0
      by_cases hlt:k<fs.length
      ·obtain ⟨ad,rfl,hx0,hx1,hx2,hx3⟩:=at_T68 HC1.out (k:Int) (Int.natCast_nonneg k) (by exact_mod_cast hlt)
       simp only [Int.toNat_natCast] at hx0 hx1 hx2 hx3
       obtain ⟨f,ef⟩:∃ f,f=rd_T68 fs (k:Int):=⟨_,rfl⟩
       have hfk:fs[k]?=some f:=by rw [ef];unfold rd_T68;rw [Int.toNat_natCast,List.getD_eq_getElem?_getD,List.getElem?_eq_getElem hlt];rfl
       have hfm:f∈fs:=List.mem_of_getElem? hfk
       rw [← ef] at hx0 hx1 hx2 hx3
       have d0:=(HDq.out.bel.cell (World.block_lt_of_cell? w _ hx0)).trans hx0
       have d1:=(HDq.out.bel.cell (World.block_lt_of_cell? w _ hx1)).trans hx1
       have d2:=(HDq.out.bel.cell (World.block_lt_of_cell? w _ hx2)).trans hx2
       have d3:=(HDq.out.bel.cell (World.block_lt_of_cell? w _ hx3)).trans hx3
       have q1:=HDq.out.box.cell 1
       simp only [himg,List.getElem?_toArray,List.getElem?_cons_zero,List.getElem?_cons_succ] at q1
       obtain ⟨pl,hpl⟩:∃ pl,pl=plcF 1 (stF xs (fs.take k)).1 f.f0:=⟨_,rfl⟩
       have hplk:PP[k]?=some pl:=by rw [HPP.out,hpl];exact plsL_F xs fs ts k f hfk
       have HPLK:=Lib.hid hplk
       obtain ⟨o0,o1,o2⟩:=HG.out.cut f hfm
       obtain ⟨b1,b2,b3,b4⟩:=stF_le HG.out k hk
       have hnx:=Lib.hid (stF_next xs fs k f hfk)
       have hpc:=piece_le HG.out f
       obtain ⟨i54,hi54,hz0,hz1,hz2⟩:=info_parts PI.info54
       have hsl0:=cut_mid (P:=Try.prog) 22 54 .i64 .i64 Try.underlying22 hi54 5 hz1 A0 xs.length c0 f.f2 (f.f2+f.f3) o0 (by omega) (by omega) l0
       have hCm:=fun W (h:Kd.C k54 W A0 xs.length xs)=>Kd.C_mid (lo:=f.f2.toNat) (hi:=(f.f2+f.f3).toNat) (c:=c0) h (by omega) (by omega) l0
       have hyl:((xs.take (f.f2+f.f3).toNat).drop f.f2.toNat).length=(f.f2+f.f3).toNat - f.f2.toNat:=by rw [List.length_drop,List.length_take];omega
       rw [← hyl] at hsl0
       have hw:IntKind.i64.wrap (f.f2+f.f3)=f.f2+f.f3:=IntWalk.i64_in (f.f2+f.f3) (by omega)
       change ∀ W,Kd.C k54 W A0 xs.length xs→Kd.C k54 W (if c0=f.f2.toNat then A0 else A0.map (·.add (f.f2.toNat*5))) _ _ at hCm
       obtain ⟨ys,eys⟩:∃ ys,ys=(xs.take (f.f2+f.f3).toNat).drop f.f2.toNat:=⟨_,rfl⟩
       obtain ⟨AM,eAM⟩:∃ AM,AM=(if c0=f.f2.toNat then A0 else A0.map (·.add (f.f2.toNat*5))):=⟨_,rfl⟩
       rw [← eys,← eAM] at hsl0 hCm
       have hsl1:=hsl0
       rw [← hw] at hsl0
       rw [← eys] at hyl hpc
       have HCM:=Lib.hid hCm
       have HSTEP:=Lib.hid (And.intro eys hpl)
       have hyl1:ys.length≤c0 - f.f2.toNat:=by omega
       have hyl2:ys.length≤1000000000:=by omega
       have HYL:=Lib.hid (And.intro hyl1 hyl2)
       have HBD:=Lib.hid (And.intro hk (And.intro b1 (And.intro b2 (And.intro b3 b4))))
       have HSL:=Lib.hid (show slots ys≤1048576 by omega)
       clear hx0 hx1 hx2 hx3 ef hfm hfk hCm eys eAM hi54 hz0 hz1 hz2 hw b1 b2 b3 b4 hpc hyl hyl1 hyl2 hpl hplk o0 o1 o2
       refine wp_seq_k (fun K hK=>?_)
       have HK:=Lib.hid hK
       clear hK
       go_wp2
       refine HK.out _ _ ?_
       clear HK
       refine wp_seq_k (fun KB hKB=>?_)
       have HKB:=Lib.hid hKB
       clear hKB
       refine wp_block ?_
       refine wp_seq_k (fun K hK=>?_)
       have HK:=Lib.hid hK
       clear hK
       go_wp2
       refine HK.out _ _ ?_
       clear HK d0 d1 d2 d3 q1
       have HDa:=Lib.hid (HDq.out.alloc (.cells #[.string f.f0,.int .i64 f.f1,.int .i64 f.f2,.int .i64 f.f3] 68))
       have HFb:=Lib.hid (Blk.new wr 68 #[.string f.f0,.int .i64 f.f1,.int .i64 f.f2,.int .i64 f.f3])
       clear HDq
       generalize wr.alloc (.cells #[.string f.f0,.int .i64 f.f1,.int .i64 f.f2,.int .i64 f.f3] 68)=wa at HDa HFb ⊢
       generalize wr.heap.size=gf at HFb ⊢
       obtain ⟨gp,egp,hgp,hpn,hpi⟩:=HDa.out.place rfl HPLK.out
       have HPN:=Lib.hid hpn
       clear hpn
       subst egp
       have q0:=HDa.out.box.cell 0
       have q1:=HFb.out.cell 1
       have q2:=HFb.out.cell 2
       have q3:=HFb.out.cell 3
       simp only [himg,List.getElem?_toArray,List.getElem?_cons_zero,List.getElem?_cons_succ] at q0 q1 q2 q3
       have HSA:=Lib.hid (show ∀ W,Below wa.heap.size wa W→(fun W=>W.cell? ⟨w.heap.size,0,none⟩=some (.slice A0 xs.length c0)∧W.cell? ⟨gf,1,none⟩=some (.int .i64 f.f1)∧W.cell? ⟨gf,2,none⟩=some (.int .i64 f.f2)∧W.cell? ⟨gf,3,none⟩=some (.int .i64 f.f3)∧W.cell? ⟨gp,k,none⟩=some (.int .i64 pl)) W from fun W hW=>⟨(hW.cell (World.block_lt_of_cell? wa _ q0)).trans q0,(hW.cell (World.block_lt_of_cell? wa _ q1)).trans q1,(hW.cell (World.block_lt_of_cell? wa _ q2)).trans q2,(hW.cell (World.block_lt_of_cell? wa _ q3)).trans q3,(hW.cell (World.block_lt_of_cell? wa _ hgp)).trans hgp⟩)
       clear q0 q1 q2 q3 hgp
       have HFC:=Lib.hid (show ∀ W,Below wa.heap.size wa W→Calls Try.prog 59 #[.slice AM ys.length (c0 - f.f2.toNat)] W fun e w'=>e=.returned (.int .i64 (slots ys:Nat))∧Below W.heap.size W w' from fun W hW=>slots59 W AM _ ys (HCM.out W (Kd.CbW HC0.out (bdT HDa.out.bel hW))) HYL.out.1 HYL.out.2 _ rfl)
       have HD0:=Lib.hid (below_drew (Below.refl wa.heap.size wa))
       have HD1:=Lib.hid (show ∀ o,Below wa.heap.size wa (wa.alloc o).drew from fun o=>bd1 (bdA (Below.refl _ wa) o))
       have HS0:=Lib.hid (HSA.out _ HD0.out)
       have HS1:=Lib.hid (fun o=>HSA.out _ (HD1.out o))
       refine wp_seq_k (fun K hK=>?_)
       have HK:=Lib.hid hK
       clear hK
       refine Code.wp_mono (Q:=Norm fun a W=>∃ r s106,a={ tmps:=#[Value.agg #[Value.slice A0 xs.length c0,Value.slice (some ad) fs.length c1,Value.slice A2 ts.length c2,Value.int IntKind.i64 en],Value.pointer (some { block:=w.heap.size,off:=0 }),Value.slice none 0 0,Value.int IntKind.i64 0,Value.int IntKind.i64 0,Value.int IntKind.i64 0,Value.int IntKind.i64 0,Value.pointer (some { block:=g7,off:=0 }),Value.slice (some { block:=gp,off:=0 }) PP.length c8,Value.slice A9 n9 c9,u10,Value.pointer (some { block:=r11,off:=0 }),v12,Value.int IntKind.i64 ↑xs.length,Value.int IntKind.i64 ↑(stF xs (List.take k fs)).snd.snd,Value.int IntKind.i64 ↑k,Value.pointer (some { block:=gf,off:=0 }),Value.pointer (some { block:=r,off:=0 }),u18,undef,undef,undef,undef,Value.tuple #[Value.int IntKind.i64 0,Value.int IntKind.i64 0],Value.agg #[Value.slice A0 xs.length c0,Value.slice (some ad) fs.length c1,Value.slice A2 ts.length c2,Value.int IntKind.i64 en],Value.tuple #[Value.int IntKind.i64 0,Value.int IntKind.i64 0],Value.int IntKind.i64 0,Value.int IntKind.i64 0,Value.int IntKind.i64 0,Value.bool false,undef,undef,Value.tuple #[Value.agg #[Value.slice A7 NN.length c7],Value.slice (some { block:=gp,off:=0 }) PP.length c8],Value.agg #[Value.slice A0 xs.length c0,Value.slice (some ad) fs.length c1,Value.slice A2 ts.length c2,Value.int IntKind.i64 en],Value.tuple #[Value.agg #[Value.slice A7 NN.length c7],Value.slice (some { block:=gp,off:=0 }) PP.length c8],Value.agg #[Value.slice A7 NN.length c7],Value.slice (some { block:=gp,off:=0 }) PP.length c8,Value.agg #[Value.slice A7 NN.length c7],Value.slice A9 n9 c9,Value.slice (some { block:=g10,off:=0 }) 4 4,Value.pointer (some { block:=w.heap.size,off:=0 }),Value.slice A0 xs.length c0,Value.int IntKind.i64 ↑(slots xs),Value.pointer (some { block:=w.heap.size,off:=1 }),Value.slice (some ad) fs.length c1,Value.int IntKind.i64 ↑fs.length,Value.pointer (some { block:=w.heap.size,off:=2 }),Value.slice A2 ts.length c2,Value.int IntKind.i64 ↑ts.length,Value.slice A9 n9 c9,Value.int IntKind.i64 ↑n9,Value.pointer (some { block:=w.heap.size,off:=3 }),Value.int IntKind.i64 en,Value.agg #[Value.int IntKind.i64 1,Value.int IntKind.i64 ↑(slots xs),Value.int IntKind.i64 ↑fs.length,Value.int IntKind.i64 ↑ts.length,Value.int IntKind.i64 ↑n9,Value.int IntKind.i64 en],v12,v55,u56,u57,u58,u59,u60,u61,u62,u63,Value.int IntKind.i64 ↑xs.length,Value.pointer (some { block:=w.heap.size,off:=0 }),Value.slice A0 xs.length c0,Value.int IntKind.i64 ↑xs.length,Value.bool false,u69,u70,u71,u72,u73,u74,u75,u76,u77,u78,Value.int IntKind.i64 ↑k,Value.pointer (some { block:=w.heap.size,off:=1 }),Value.slice (some ad) fs.length c1,Value.int IntKind.i64 ↑fs.length,Value.bool true,u84,u85,Value.pointer (some { block:=w.heap.size,off:=1 }),Value.slice (some ad) fs.length c1,Value.int IntKind.i64 ↑k,Value.pointer (some (ad.add (k*4))),Value.agg #[Value.string f.f0,Value.int IntKind.i64 f.f1,Value.int IntKind.i64 f.f2,Value.int IntKind.i64 f.f3],Value.slice (some { block:=gp,off:=0 }) PP.length c8,Value.int IntKind.i64 ↑k,Value.pointer (some { block:=gp,off:=k }),Value.int IntKind.i64 pl,Value.pointer (some { block:=gf,off:=1 }),Value.int IntKind.i64 f.f1,Value.int IntKind.i64 ↑(stF xs (List.take k fs)).snd.snd,Value.pointer (some { block:=w.heap.size,off:=0 }),Value.slice A0 xs.length c0,Value.pointer (some { block:=gf,off:=2 }),Value.int IntKind.i64 f.f2,Value.pointer (some { block:=gf,off:=2 }),Value.int IntKind.i64 f.f2,Value.pointer (some { block:=gf,off:=3 }),Value.int IntKind.i64 f.f3,s106,Value.slice AM ys.length (c0 - f.f2.toNat),Value.int IntKind.i64 ↑(slots ys),Value.agg #[Value.int IntKind.i64 pl,Value.int IntKind.i64 f.f1,Value.int IntKind.i64 ↑(stF xs (List.take k fs)).snd.snd,Value.int IntKind.i64 ↑(slots ys)],u110,u111,u112,u113,u114,u115,u116,u117,u118,u119,u120,u121,u122,u123,undef,undef,undef,undef,undef,undef,undef,undef,undef,undef,undef,undef,undef,undef,undef,undef,undef,undef,undef,undef,undef,undef,undef,undef,undef,undef,undef,undef,undef,undef,undef,undef,undef,undef,undef,undef,undef,undef,undef,undef,undef,undef],defers:=[] }∧Hid (Blk W r 97 #[Value.int IntKind.i64 pl,Value.int IntKind.i64 f.f1,Value.int IntKind.i64 ↑(stF xs (List.take k fs)).snd.snd,Value.int IntKind.i64 ↑(slots ys)]∧Below wa.heap.size wa W)) ?_ ?_
       rotate_left
       ·go_region_held3 (fun W=>W.cell? ⟨w.heap.size,0,none⟩=some (.slice A0 xs.length c0)∧W.cell? ⟨gf,1,none⟩=some (.int .i64 f.f1)∧W.cell? ⟨gf,2,none⟩=some (.int .i64 f.f2)∧W.cell? ⟨gf,3,none⟩=some (.int .i64 f.f3)∧W.cell? ⟨gp,k,none⟩=some (.int .i64 pl)) (first|with_reducible exact HS0.out|with_reducible exact HS1.out _|with_reducible exact HSA.out _ HB7.out|with_reducible exact HSA.out _ (bdA HB7.out _)|with_reducible exact HSA.out _ (bdS (bdS (bdS (bdS HB7.out (Nat.le_refl _)) (Nat.le_refl _)) (Nat.le_refl _)) (Nat.le_refl _))) (first|(go_at_call 59;refine (HFC.out _ HD0.out).mono ?_;rintro e w7 ⟨rfl,hb⟩;have HB7:=Lib.hid (bdT HD0.out hb);clear hb)|(go_at_call 59;refine (HFC.out _ (HD1.out _)).mono ?_;rintro e w7 ⟨rfl,hb⟩;have HB7:=Lib.hid (bdT (HD1.out _) hb);have HZ:=Lib.hid (show Blk w7 wa.heap.size 97 #[.int .i64 0,.int .i64 0,.int .i64 0,.int .i64 0] from (show Blk (wa.alloc (.cells #[.int .i64 0,.int .i64 0,.int .i64 0,.int .i64 0] 97)).drew wa.heap.size 97 #[.int .i64 0,.int .i64 0,.int .i64 0,.int .i64 0] from Blk.new wa 97 #[.int .i64 0,.int .i64 0,.int .i64 0,.int .i64 0]).below hb);have z0:=HZ.out.cell 0;have y0:=HZ.out.frozen 0;have z1:=HZ.out.cell 1;have y1:=HZ.out.frozen 1;have z2:=HZ.out.cell 2;have y2:=HZ.out.frozen 2;have z3:=HZ.out.cell 3;have y3:=HZ.out.frozen 3;simp only [List.getElem?_toArray,List.getElem?_cons_zero,List.getElem?_cons_succ] at z0 z1 z2 z3;clear hb))
        ·exact ⟨_,_,rfl,Lib.hid ⟨Blk.new _ _ _,bdA HB7.out _⟩⟩
        ·exact ⟨_,_,rfl,Lib.hid ⟨((((HZ.out.set_ 0 _).set_ 1 _).set_ 2 _).set_ 3 _),(bdS (bdS (bdS (bdS HB7.out (Nat.le_refl _)) (Nat.le_refl _)) (Nat.le_refl _)) (Nat.le_refl _))⟩⟩
       refine Norm.elim ?_
       rintro a W7 ⟨r17,s106,rfl,hr⟩
       refine HK.out _ _ ?_
       have hc3:=hr.out.1.cell 3
       simp only [List.getElem?_toArray,List.getElem?_cons_zero,List.getElem?_cons_succ] at hc3
       obtain ⟨O3,hO3⟩:∃ O3:List Int,O3=O2 ++ (stF xs (fs.take k)).2.1:=⟨_,rfl⟩
       have HO3:=Lib.hid hO3
       have HOL3:=Lib.hid (show O3.length≤9000000 from by have:=HOL2.out;have:=HBD.out;rw [hO3,List.length_append];omega)
       obtain ⟨h2,hh2⟩:∃ h2:List Int,h2=[pl,f.f1,(((stF xs (fs.take k)).2.2:Nat):Int),((slots ys:Nat):Int)]:=⟨_,rfl⟩
       have HHL2:=Lib.hid (show h2.length=4 from by rw [hh2];rfl)
       have HBi:=Lib.hid (show Blk W7 r17 97 (nums .i64 h2).toArray from by rw [hh2];exact hr.out.1)
       have HH2:=Lib.hid hh2
       have HDi:=Lib.hid (show DS w W7 img (.slice (some ⟨gp,0,none⟩) PP.length c8) (.slice A9 n9 c9) u10 PP (0 :: tbytes NN) (O3 ++ (h2.take 0).flatMap lay4) from by rw [List.take_zero,List.flatMap_nil,List.append_nil,hO3];exact HDa.out.below hr.out.2)
       have hat:wrap64 (((stF xs (fs.take k)).2.2:Nat)+(slots ys:Nat))=(((stF xs (fs.take (k+1))).2.2:Nat):Int):=by
        rw [hnx.out]
        have:=HBD.out
        have:=HSL.out
        unfold stepF
        rw [← HSTEP.out.1,w64 _ (by omega) (by omega)]
        exact (Int.natCast_add _ _).symm
       have HROW:=Lib.hid (show O2 ++ (stF xs (fs.take (k+1))).2.1=O3 ++ (h2.take 4).flatMap lay4 from by
        rw [hnx.out,hO3,hh2]
        unfold stepF
        rw [← HSTEP.out.1,← HSTEP.out.2,List.append_assoc]
        rfl)
       clear hO3 hh2 HK HDa hr HSA HFC HD0 HD1 HS0 HS1 HFb hsl0 hsl1
       refine wp_seq_k (fun K hK=>?_)
       have HK:=Lib.hid hK
       clear hK
       go_wp2
       refine HK.out _ _ ?_
       clear HK hc3
       go_wp2
       go_loopw [10,18] (fun vo iv wq=>∃ j:Nat,j≤4∧iv=.int .i64 (j:Int)∧Hid (DS w wq img (.slice (some ⟨gp,0,none⟩) PP.length c8) (.slice A9 n9 c9) vo PP (0 :: tbytes NN) (O3 ++ (h2.take j).flatMap lay4))∧Hid (Blk wq r17 97 (nums .i64 h2).toArray)) (fun _ iv _=>4 - (RowKit.intOf iv).toNat)
       case atStart=>exact ⟨0,Nat.zero_le _,rfl,HDi,HBi⟩
       case round =>
        obtain ⟨j,hj,rfl,HDq,HBq⟩:=hrel
        clear HDi HBi
        by_cases hlj:j<4
        ·obtain ⟨x,hx⟩:∃ x,h2[j]?=some x:=⟨_,List.getElem?_eq_getElem (by rw [HHL2.out];exact hlj)⟩
         have hc:=HBq.out.cell j
         rw [List.getElem?_toArray,show (nums .i64 h2)[j]?=some (.int .i64 x) from by unfold nums;rw [List.getElem?_map,hx];rfl] at hc
         have hnj:=Lib.hid (show (h2.take (j+1)).flatMap lay4=(h2.take j).flatMap lay4 ++ lay4 x from by rw [List.take_add_one,hx];simp)
         clear hx
         have HQ1:=Lib.hid (show (O3 ++ (h2.take j).flatMap lay4:List Int).length+(lay4 x).length≤1099511627776 from by have:=HOL3.out;rw [List.length_append,lay4s_length,List.length_take];simp [lay4];omega)
         go_wp2_with (first|(go_at_call 60;refine (laid60 _ x).mono ?_;rintro e wa ⟨AL,cL,rfl,hl,hb⟩;have HL:=Lib.hid hl;have HDb:=Lib.hid (HDq.out.below hb);have HBb:=Lib.hid (HBq.out.below hb);clear hl hb)|(at_builtin;refine Bt.row rfl _ _ rfl HDb.out.out HL.out rfl rfl HQ1.out HDb.out.bel ?_))
         intro v5 wf hg1 hb1 hc1 ho1
         have HBf:=Lib.hid (HDb.out.blk hc1 HBb.out (by decide))
         have HDf:=Lib.hid (HDb.out.app hg1 hb1 hc1 ho1)
         clear hg1 hb1 hc1 ho1 HDb HBb HL HDq HBq
         go_wp2
         go_roundw
         case rel=>exact ⟨j+1,by omega,by go_num,by rw [hnj.out];exact HDf,HBf⟩
         case measure=>simp [RowKit.intOf];omega
        ·have hj4:j=4:=by omega
         rw [hj4] at HDq
         have HJ4:=Lib.hid hj4
         clear hj4
         go_wp2
         clear HBq hj hlj
         refine HKB.out _ _ ?_
         clear HKB
         go_wp2
         go_roundw
         case rel=>exact ⟨k+1,by omega,by go_num,by rw [← hat],by rw [HROW.out];exact HDq⟩
         case measure=>simp [RowKit.intOf];omega
      ·obtain rfl:k=fs.length:=by omega
       have q1:=HDq.out.box.cell 1
       simp only [himg,List.getElem?_toArray,List.getElem?_cons_zero,List.getElem?_cons_succ] at q1
       go_wp2
       refine HKF.out _ _ ?_
       clear HKF q1
       rw [List.take_length] at HDq
       generalize Value.int .i64 (((stF xs (fs.take fs.length)).2.2:Nat):Int)=v14
       have HT0:=Lib.hid (show DS w wr img (.slice A8 PP.length c8) (.slice A9 n9 c9) u10 PP (0 :: tbytes NN) (O2 ++ (stT xs fs (ts.take 0)).2) from HDq.out)
       clear HDq
       refine wp_seq_k (fun KT hKT=>?_)
       have HKT:=Lib.hid hKT
       clear hKT
       go_wp2
       go_loopw [10,19] (fun vo iv wq=>∃ k:Nat,k≤ts.length∧iv=.int .i64 (k:Int)∧Hid (DS w wq img (.slice A8 PP.length c8) (.slice A9 n9 c9) vo PP (0 :: tbytes NN) (O2 ++ (stT xs fs (ts.take k)).2))) (fun _ iv _=>ts.length - (RowKit.intOf iv).toNat)
       case atStart=>exact ⟨0,Nat.zero_le _,rfl,HT0⟩
       case round =>
        obtain ⟨k,hk,rfl,HDq⟩:=hrel
        clear HT0
        by_cases hlt:k<ts.length
        ·obtain ⟨ad,rfl,hx0,hx1,hx2,hx3,hx4⟩:=at_T56 HC2.out (k:Int) (Int.natCast_nonneg k) (by exact_mod_cast hlt)
         simp only [Int.toNat_natCast] at hx0 hx1 hx2 hx3 hx4
         obtain ⟨f,ef⟩:∃ f,f=rd_T56 ts (k:Int):=⟨_,rfl⟩
         have hfk:ts[k]?=some f:=by rw [ef];unfold rd_T56;rw [Int.toNat_natCast,List.getD_eq_getElem?_getD,List.getElem?_eq_getElem hlt];rfl
         rw [← ef] at hx0 hx1 hx2 hx3 hx4
         have d0:=(HDq.out.bel.cell (World.block_lt_of_cell? w _ hx0)).trans hx0
         have d1:=(HDq.out.bel.cell (World.block_lt_of_cell? w _ hx1)).trans hx1
         have d2:=(HDq.out.bel.cell (World.block_lt_of_cell? w _ hx2)).trans hx2
         have d3:=(HDq.out.bel.cell (World.block_lt_of_cell? w _ hx3)).trans hx3
         have d4:=(HDq.out.bel.cell (World.block_lt_of_cell? w _ hx4)).trans hx4
         have q2:=HDq.out.box.cell 2
         simp only [himg,List.getElem?_toArray,List.getElem?_cons_zero,List.getElem?_cons_succ] at q2
         obtain ⟨pl,hpl⟩:∃ pl,pl=plcF 1 (stT xs fs (ts.take k)).1 f.f0:=⟨_,rfl⟩
         have hplk:PP[fs.length+k]?=some pl:=by rw [HPP.out,hpl];exact plsL_T xs fs ts k f hfk
         have HPLK:=Lib.hid hplk
         have hnx:=Lib.hid (stT_next xs fs ts k f hfk)
         have HBD:=Lib.hid (And.intro hk (stT_le HG.out k hk))
         have HSTEP:=Lib.hid hpl
         clear hx0 hx1 hx2 hx3 hx4 ef hfk hpl hplk
         refine wp_seq_k (fun K hK=>?_)
         have HK:=Lib.hid hK
         clear hK
         go_wp2
         refine HK.out _ _ ?_
         clear HK
         refine wp_seq_k (fun KB hKB=>?_)
         have HKB:=Lib.hid hKB
         clear hKB
         refine wp_block ?_
         refine wp_seq_k (fun K hK=>?_)
         have HK:=Lib.hid hK
         clear hK
         go_wp2
         refine HK.out _ _ ?_
         clear HK d0 d1 d2 d3 d4 q2
         have HDa:=Lib.hid (HDq.out.alloc (.cells #[.string f.f0,.int .i64 f.f1,.int .i64 f.f2,.int .i64 f.f3,.int .i64 f.f4] 56))
         have HFb:=Lib.hid (Blk.new wr 56 #[.string f.f0,.int .i64 f.f1,.int .i64 f.f2,.int .i64 f.f3,.int .i64 f.f4])
         clear HDq
         generalize wr.alloc (.cells #[.string f.f0,.int .i64 f.f1,.int .i64 f.f2,.int .i64 f.f3,.int .i64 f.f4] 56)=wa at HDa HFb ⊢
         generalize wr.heap.size=gf at HFb ⊢
         obtain ⟨gp,egp,hgp,hpn,hpi⟩:=HDa.out.place rfl HPLK.out
         have HPN:=Lib.hid hpn
         clear hpn
         subst egp
         have q1:=HDa.out.box.cell 1
         have p1:=HFb.out.cell 1
         have p2:=HFb.out.cell 2
         have p3:=HFb.out.cell 3
         have p4:=HFb.out.cell 4
         simp only [himg,List.getElem?_toArray,List.getElem?_cons_zero,List.getElem?_cons_succ] at q1 p1 p2 p3 p4
         have hwi:IntKind.i64.wrap ((fs.length:Int)+(k:Int))=(fs.length:Int)+(k:Int):=IntWalk.i64_in _ (by omega)
         have hwp:(0:Int)≤(fs.length:Int)+(k:Int):=by omega
         have hwb:(fs.length:Int)+(k:Int)<(PP.length:Int):=by omega
         have hwt:((fs.length:Int)+(k:Int)).toNat=fs.length+k:=by omega
         have HSA:=Lib.hid (show ∀ W,Below wa.heap.size wa W→(fun W=>W.cell? ⟨w.heap.size,1,none⟩=some (.slice A1 fs.length c1)∧W.cell? ⟨gf,1,none⟩=some (.int .i64 f.f1)∧W.cell? ⟨gf,2,none⟩=some (.int .i64 f.f2)∧W.cell? ⟨gf,3,none⟩=some (.int .i64 f.f3)∧W.cell? ⟨gf,4,none⟩=some (.int .i64 f.f4)∧W.cell? ⟨gp,fs.length+k,none⟩=some (.int .i64 pl)) W from fun W hW=>⟨(hW.cell (World.block_lt_of_cell? wa _ q1)).trans q1,(hW.cell (World.block_lt_of_cell? wa _ p1)).trans p1,(hW.cell (World.block_lt_of_cell? wa _ p2)).trans p2,(hW.cell (World.block_lt_of_cell? wa _ p3)).trans p3,(hW.cell (World.block_lt_of_cell? wa _ p4)).trans p4,(hW.cell (World.block_lt_of_cell? wa _ hgp)).trans hgp⟩)
         clear q1 p1 p2 p3 p4 hgp
         have HD0:=Lib.hid (below_drew (Below.refl wa.heap.size wa))
         have HD1:=Lib.hid (show ∀ o,Below wa.heap.size wa (wa.alloc o).drew from fun o=>bd1 (bdA (Below.refl _ wa) o))
         have HS0:=Lib.hid (HSA.out _ HD0.out)
         have HS1:=Lib.hid (fun o=>HSA.out _ (HD1.out o))
         refine wp_seq_k (fun K hK=>?_)
         have HK:=Lib.hid hK
         clear hK
         refine Code.wp_mono (Q:=Norm fun a W=>∃ r s141 s142,a={ tmps:=#[Value.agg #[Value.slice A0 xs.length c0,Value.slice A1 fs.length c1,Value.slice (some ad) ts.length c2,Value.int IntKind.i64 en],Value.pointer (some { block:=w.heap.size,off:=0 }),Value.slice none 0 0,Value.int IntKind.i64 0,Value.int IntKind.i64 0,Value.int IntKind.i64 0,Value.int IntKind.i64 0,Value.pointer (some { block:=g7,off:=0 }),Value.slice (some { block:=gp,off:=0 }) PP.length c8,Value.slice A9 n9 c9,u10,Value.pointer (some { block:=r11,off:=0 }),v12,Value.int IntKind.i64 ↑xs.length,v14,Value.int IntKind.i64 ↑fs.length,u16,u17,u18,Value.int IntKind.i64 ↑k,Value.pointer (some { block:=gf,off:=0 }),Value.pointer (some { block:=r,off:=0 }),u22,Value.tuple #[Value.int IntKind.i64 0,Value.int IntKind.i64 0],Value.agg #[Value.slice A0 xs.length c0,Value.slice A1 fs.length c1,Value.slice (some ad) ts.length c2,Value.int IntKind.i64 en],Value.tuple #[Value.int IntKind.i64 0,Value.int IntKind.i64 0],Value.int IntKind.i64 0,Value.int IntKind.i64 0,Value.int IntKind.i64 0,Value.bool false,undef,undef,Value.tuple #[Value.agg #[Value.slice A7 NN.length c7],Value.slice (some { block:=gp,off:=0 }) PP.length c8],Value.agg #[Value.slice A0 xs.length c0,Value.slice A1 fs.length c1,Value.slice (some ad) ts.length c2,Value.int IntKind.i64 en],Value.tuple #[Value.agg #[Value.slice A7 NN.length c7],Value.slice (some { block:=gp,off:=0 }) PP.length c8],Value.agg #[Value.slice A7 NN.length c7],Value.slice (some { block:=gp,off:=0 }) PP.length c8,Value.agg #[Value.slice A7 NN.length c7],Value.slice A9 n9 c9,Value.slice (some { block:=g10,off:=0 }) 4 4,Value.pointer (some { block:=w.heap.size,off:=0 }),Value.slice A0 xs.length c0,Value.int IntKind.i64 ↑(slots xs),Value.pointer (some { block:=w.heap.size,off:=1 }),Value.slice A1 fs.length c1,Value.int IntKind.i64 ↑fs.length,Value.pointer (some { block:=w.heap.size,off:=2 }),Value.slice (some ad) ts.length c2,Value.int IntKind.i64 ↑ts.length,Value.slice A9 n9 c9,Value.int IntKind.i64 ↑n9,Value.pointer (some { block:=w.heap.size,off:=3 }),Value.int IntKind.i64 en,Value.agg #[Value.int IntKind.i64 1,Value.int IntKind.i64 ↑(slots xs),Value.int IntKind.i64 ↑fs.length,Value.int IntKind.i64 ↑ts.length,Value.int IntKind.i64 ↑n9,Value.int IntKind.i64 en],v12,v55,u56,u57,u58,u59,u60,u61,u62,u63,Value.int IntKind.i64 ↑xs.length,Value.pointer (some { block:=w.heap.size,off:=0 }),Value.slice A0 xs.length c0,Value.int IntKind.i64 ↑xs.length,Value.bool false,u69,u70,u71,u72,u73,u74,u75,u76,u77,u78,Value.int IntKind.i64 ↑fs.length,Value.pointer (some { block:=w.heap.size,off:=1 }),Value.slice A1 fs.length c1,Value.int IntKind.i64 ↑fs.length,Value.bool false,u84,u85,u86,u87,u88,u89,u90,u91,u92,u93,u94,u95,u96,u97,u98,u99,u100,u101,u102,u103,u104,u105,u106,u107,u108,u109,u110,u111,u112,u113,u114,u115,u116,u117,u118,u119,u120,u121,u122,u123,Value.int IntKind.i64 ↑k,Value.pointer (some { block:=w.heap.size,off:=2 }),Value.slice (some ad) ts.length c2,Value.int IntKind.i64 ↑ts.length,Value.bool true,u129,u130,Value.pointer (some { block:=w.heap.size,off:=2 }),Value.slice (some ad) ts.length c2,Value.int IntKind.i64 ↑k,Value.pointer (some (ad.add (k*5))),Value.agg #[Value.string f.f0,Value.int IntKind.i64 f.f1,Value.int IntKind.i64 f.f2,Value.int IntKind.i64 f.f3,Value.int IntKind.i64 f.f4],Value.slice (some { block:=gp,off:=0 }) PP.length c8,Value.pointer (some { block:=w.heap.size,off:=1 }),Value.slice A1 fs.length c1,Value.int IntKind.i64 ↑fs.length,Value.int IntKind.i64 ↑k,s141,s142,Value.int IntKind.i64 pl,Value.pointer (some { block:=gf,off:=1 }),Value.int IntKind.i64 f.f1,Value.pointer (some { block:=gf,off:=2 }),Value.int IntKind.i64 f.f2,Value.pointer (some { block:=gf,off:=3 }),Value.int IntKind.i64 f.f3,Value.pointer (some { block:=gf,off:=4 }),Value.int IntKind.i64 f.f4,Value.agg #[Value.int IntKind.i64 pl,Value.int IntKind.i64 f.f1,Value.int IntKind.i64 f.f2,Value.int IntKind.i64 f.f3,Value.int IntKind.i64 f.f4],u153,u154,u155,u156,u157,u158,u159,u160,u161,u162,undef,undef,undef],defers:=[] }∧Hid (Blk W r 98 #[Value.int IntKind.i64 pl,Value.int IntKind.i64 f.f1,Value.int IntKind.i64 f.f2,Value.int IntKind.i64 f.f3,Value.int IntKind.i64 f.f4]∧Below wa.heap.size wa W)) ?_ ?_
         rotate_left
         ·go_region_held3 (fun W=>W.cell? ⟨w.heap.size,1,none⟩=some (.slice A1 fs.length c1)∧W.cell? ⟨gf,1,none⟩=some (.int .i64 f.f1)∧W.cell? ⟨gf,2,none⟩=some (.int .i64 f.f2)∧W.cell? ⟨gf,3,none⟩=some (.int .i64 f.f3)∧W.cell? ⟨gf,4,none⟩=some (.int .i64 f.f4)∧W.cell? ⟨gp,fs.length+k,none⟩=some (.int .i64 pl)) (first|with_reducible exact HS0.out|with_reducible exact HS1.out _) (first|(go_at_call 9999;skip))
          all_goals exact ⟨_,_,_,rfl,Lib.hid ⟨(show Blk (wa.alloc _).drew _ 98 _ from Blk.new wa 98 _),HD1.out _⟩⟩
         refine Norm.elim ?_
         rintro a W7 ⟨r21,s141,s142,rfl,hr⟩
         refine HK.out _ _ ?_
         obtain ⟨O3,hO3⟩:∃ O3:List Int,O3=O2 ++ (stT xs fs (ts.take k)).2:=⟨_,rfl⟩
         have HO3:=Lib.hid hO3
         have HOL3:=Lib.hid (show O3.length≤9000000 from by have:=HOL2.out;have:=HBD.out;rw [hO3,List.length_append];omega)
         obtain ⟨h2,hh2⟩:∃ h2:List Int,h2=[pl,f.f1,f.f2,f.f3,f.f4]:=⟨_,rfl⟩
         have HHL2:=Lib.hid (show h2.length=5 from by rw [hh2];rfl)
         have HBi:=Lib.hid (show Blk W7 r21 98 (nums .i64 h2).toArray from by rw [hh2];exact hr.out.1)
         have HH2:=Lib.hid hh2
         have HDi:=Lib.hid (show DS w W7 img (.slice (some ⟨gp,0,none⟩) PP.length c8) (.slice A9 n9 c9) u10 PP (0 :: tbytes NN) (O3 ++ (h2.take 0).flatMap lay4) from by rw [List.take_zero,List.flatMap_nil,List.append_nil,hO3];exact HDa.out.below hr.out.2)
         have HROW:=Lib.hid (show O2 ++ (stT xs fs (ts.take (k+1))).2=O3 ++ (h2.take 5).flatMap lay4 from by
          rw [hnx.out,hO3,hh2]
          unfold stepT
          rw [← HSTEP.out,List.append_assoc]
          rfl)
         clear hO3 hh2 HK HDa hr HSA HD0 HD1 HS0 HS1 HFb hwi
         go_wp2
         go_loopw [10,22] (fun vo iv wq=>∃ j:Nat,j≤5∧iv=.int .i64 (j:Int)∧Hid (DS w wq img (.slice (some ⟨gp,0,none⟩) PP.length c8) (.slice A9 n9 c9) vo PP (0 :: tbytes NN) (O3 ++ (h2.take j).flatMap lay4))∧Hid (Blk wq r21 98 (nums .i64 h2).toArray)) (fun _ iv _=>5 - (RowKit.intOf iv).toNat)
         case atStart=>exact ⟨0,Nat.zero_le _,rfl,HDi,HBi⟩
         case round =>
          obtain ⟨j,hj,rfl,HDq,HBq⟩:=hrel
          clear HDi HBi
          by_cases hlj:j<5
          ·obtain ⟨x,hx⟩:∃ x,h2[j]?=some x:=⟨_,List.getElem?_eq_getElem (by rw [HHL2.out];exact hlj)⟩
           have hc:=HBq.out.cell j
           rw [List.getElem?_toArray,show (nums .i64 h2)[j]?=some (.int .i64 x) from by unfold nums;rw [List.getElem?_map,hx];rfl] at hc
           have hnj:=Lib.hid (show (h2.take (j+1)).flatMap lay4=(h2.take j).flatMap lay4 ++ lay4 x from by rw [List.take_add_one,hx];simp)
           clear hx
           have HQ1:=Lib.hid (show (O3 ++ (h2.take j).flatMap lay4:List Int).length+(lay4 x).length≤1099511627776 from by have:=HOL3.out;rw [List.length_append,lay4s_length,List.length_take];simp [lay4];omega)
           go_wp2_with (first|(go_at_call 60;refine (laid60 _ x).mono ?_;rintro e wa ⟨AL,cL,rfl,hl,hb⟩;have HL:=Lib.hid hl;have HDb:=Lib.hid (HDq.out.below hb);have HBb:=Lib.hid (HBq.out.below hb);clear hl hb)|(at_builtin;refine Bt.row rfl _ _ rfl HDb.out.out HL.out rfl rfl HQ1.out HDb.out.bel ?_))
           intro v5 wf hg1 hb1 hc1 ho1
           have HBf:=Lib.hid (HDb.out.blk hc1 HBb.out (by decide))
           have HDf:=Lib.hid (HDb.out.app hg1 hb1 hc1 ho1)
           clear hg1 hb1 hc1 ho1 HDb HBb HL HDq HBq
           go_wp2
           go_roundw
           case rel=>exact ⟨j+1,by omega,by go_num,by rw [hnj.out];exact HDf,HBf⟩
           case measure=>simp [RowKit.intOf];omega
          ·have hj4:j=5:=by omega
           rw [hj4] at HDq
           have HJ4:=Lib.hid hj4
           clear hj4
           go_wp2
           clear HBq hj hlj
           refine HKB.out _ _ ?_
           clear HKB
           go_wp2
           go_roundw
           case rel=>exact ⟨k+1,by omega,by go_num,by rw [HROW.out];exact HDq⟩
           case measure=>simp [RowKit.intOf];omega
        ·obtain rfl:k=ts.length:=by omega
         have q2:=HDq.out.box.cell 2
         simp only [himg,List.getElem?_toArray,List.getElem?_cons_zero,List.getElem?_cons_succ] at q2
         go_wp2
         refine HKT.out _ _ ?_
         clear HKT q2
         rw [List.take_length] at HDq
         have HLN:=Lib.hid (show (O2 ++ (stT xs fs ts).2).length+(0 :: tbytes NN).length≤1099511627776 from by
          have:=HOL2.out
          have h3:=stT_le HG.out ts.length (Nat.le_refl _)
          rw [List.take_length,← HNN.out] at h3
          rw [List.length_append,List.length_cons]
          omega)
         go_wp2_with (at_builtin;refine Bt.row rfl _ _ rfl HDq.out.out HDq.out.nam rfl rfl HLN.out HDq.out.bel ?_)
         intro v7 wh hg1 hb1 hc1 ho1
         go_wp2
         go_ret3
         refine ⟨v7,rfl,?_,hb1⟩
         have e:wrB xs fs ts en=O2 ++ (stT xs fs ts).2 ++ 0 :: tbytes NN:=by
          rw [HO2.out,HO1.out,HHS.out,HN9.out,HNN.out]
          unfold wrB headB
          simp only [List.append_assoc]
          rfl
         rw [e,List.append_assoc]
         exact hg1
end Go.Proofs.Ytbeikcckcjadbaa.Im
end
section
namespace Go.Proofs.Ytbeikcckcjadbaa.Im
open Go.RowKit Go.Proofs.YtbeikcckcjadbaaW.PrintWords Go.Proofs.Ytbeikcckcjadbaa.PI Go.Proofs.Ytbeikcckcjadbaa.Ln Go.Proofs.Ytbeikcckcjadbaa.Bk Go.ChangeMaps Go.MapKept
attribute [local go_sem] isSome_setCell
theorem refw_bad (w:World) (A0 A1 A2:Option Addr) (c0 c1 c2:Nat) (xs:List S54) (fs:List S68) (ts:List S56) (en r1 r2:Int)
  (h0:Kd.C k54 w A0 xs.length xs) (h1:Kd.C k68 w A1 fs.length fs) (h2:Kd.C k56 w A2 ts.length ts) (l0:xs.length≤c0) (l1:fs.length≤c1) (l2:ts.length≤c2)
  (hr:RefIs xs fs ts en r1 r2) (hne:¬ r2=0) :
  Calls Try.prog 25 #[.agg #[.slice A0 xs.length c0,.slice A1 fs.length c1,.slice A2 ts.length c2,.int .i64 en]] w fun e w'=>e=.returned (.tuple #[.slice none 0 0,.int .i64 r1,.int .i64 r2])∧Below w.heap.size w w':=by
 obtain ⟨F,hF⟩:=hr
 have HFF:=Lib.hid (hF F (Nat.le_refl _))
 have HC0:=Lib.hid h0
 have HC1:=Lib.hid h1
 have HC2:=Lib.hid h2
 clear hF h0 h1 h2
 have hne2:(r2 == 0)=false:=beq_eq_false_iff_ne.2 hne
 go_enter Try.func25,Try.ntmps25
 refine wp_seq_k (fun K hK=>?_)
 have HK:=Lib.hid hK
 clear hK
 go_wp2
 refine HK.out _ _ ?_
 clear HK
 have HB0:=Lib.hid (bdA (Below.refl w.heap.size w) (.cells #[.slice A0 xs.length c0,.slice A1 fs.length c1,.slice A2 ts.length c2,.int .i64 en] 26))
 have HX0:=Lib.hid (Blk.new w 26 #[.slice A0 xs.length c0,.slice A1 fs.length c1,.slice A2 ts.length c2,.int .i64 en])
 generalize w.alloc (.cells #[.slice A0 xs.length c0,.slice A1 fs.length c1,.slice A2 ts.length c2,.int .i64 en] 26)=w1 at HB0 HX0 ⊢
 have c_0:=HX0.out.cell 0
 have c_1:=HX0.out.cell 1
 have c_2:=HX0.out.cell 2
 have c_3:=HX0.out.cell 3
 simp only [List.getElem?_toArray,List.getElem?_cons_zero,List.getElem?_cons_succ] at c_0 c_1 c_2 c_3
 have HL:=Lib.hid (sr17c.calls F A0 c0 xs A1 c1 fs A2 c2 ts en r1 r2 w1 (Kd.CbW HC0.out HB0.out) l0 (Kd.CbW HC1.out HB0.out) l1 (Kd.CbW HC2.out HB0.out) l2 HFF.out)
 go_wp2_with (go_at_call 20;refine HL.out.mono ?_;rintro e w2 ⟨rfl,hb2⟩;have HB2:=Lib.hid hb2;clear hb2)
 go_ret3
 exact ⟨rfl,bdT HB0.out HB2.out⟩
def wOut (xs:List S54) (fs:List S68) (ts:List S56) (en r2:Int):List Int:=if r2=0 then wrB xs fs ts en else []
theorem gdi_of (xs:List S54) (fs:List S68) (ts:List S56) (en r1:Int) (hx:xs.length≤1152921504606846976) (hf:fs.length≤4611686018427387904) (ht:ts.length≤4611686018427387904) (hr:RefIs xs fs ts en r1 0):∀ j,(hj:j<xs.length)→(0≤xs[j].f1∧xs[j].f1≤15)∧(0≤xs[j].f2∧xs[j].f2≤15):=by
 obtain ⟨nk,nb,hb⟩:=bad_ex fs ts
 have h:=((ref_chk xs fs ts en (by omega) hf ht nk nb (.inr hb)).inj hr).2
 unfold chkv at h
 have hi:(insE xs xs.length 0).2=false:=by
  by_cases hi:(insE xs xs.length 0).2=true
  ·rw [if_pos hi] at h
   repeat' split at h
   all_goals exact absurd h (by simp)
  ·simpa using hi
 exact fun j hj=>ins_of xs xs.length 0 (by omega) hi j (Nat.zero_le _) hj
def Wrote (w:World) (xs:List S54) (fs:List S68) (ts:List S56) (en r1 r2:Int) (e:Ending) (w':World):Prop:=
 ∃ A c,e=.returned (.tuple #[.slice A (wOut xs fs ts en r2).length c,.int .i64 r1,.int .i64 r2])∧Bt w' w.heap.size (.slice A (wOut xs fs ts en r2).length c) (wOut xs fs ts en r2)∧Below w.heap.size w w'
section
variable (w:World) (A0 A1 A2:Option Addr) (c0 c1 c2:Nat) (xs:List S54) (fs:List S68) (ts:List S56) (en r1 r2:Int)
theorem write_ (h0:Kd.C k54 w A0 xs.length xs) (h1:Kd.C k68 w A1 fs.length fs) (h2:Kd.C k56 w A2 ts.length ts) (l0:xs.length≤c0) (l1:fs.length≤c1) (l2:ts.length≤c2) (hg:∀ f∈fs,FitF f) (hx:xs.length≤1000000000) (hf:fs.length≤1000000000) (ht:ts.length≤1000000000)
  (hr:RefIs xs fs ts en r1 r2) :
  Calls Try.prog 15 #[.agg #[.slice A0 xs.length c0,.slice A1 fs.length c1,.slice A2 ts.length c2,.int .i64 en]] w (Wrote w xs fs ts en r1 r2):=by
 by_cases hz:r2=0
 ·subst hz
  obtain ⟨hG,rfl⟩:=gd_of xs fs ts en r1 (by omega) (by omega) (by omega) hr
  refine (write_ok w A0 A1 A2 c0 c1 c2 xs fs ts en h0 h1 h2 l0 l1 l2 hg hr hG).mono ?_
  rintro e w' ⟨v,rfl,hv,hb⟩
  have e1:wOut xs fs ts en 0=wrB xs fs ts en:=if_pos rfl
  rw [← e1] at hv
  obtain ⟨A,c,rfl⟩:=shape hv
  exact ⟨A,c,rfl,hv,hb⟩
 ·refine (write_bad w A0 A1 A2 c0 c1 c2 xs fs ts en r1 r2 h0 h1 h2 l0 l1 l2 hg (by omega) (by omega) (by omega) hr hz).mono ?_
  rintro e w' ⟨rfl,hb⟩
  have e1:wOut xs fs ts en r2=[]:=if_neg hz
  unfold Wrote
  rw [e1]
  exact ⟨none,0,rfl,Bt.nil _ _,hb⟩
theorem refw_ (h0:Kd.C k54 w A0 xs.length xs) (h1:Kd.C k68 w A1 fs.length fs) (h2:Kd.C k56 w A2 ts.length ts) (l0:xs.length≤c0) (l1:fs.length≤c1) (l2:ts.length≤c2) (hx:xs.length≤1000000000) (hf:fs.length≤1000000000) (ht:ts.length≤1000000000)
  (hr:RefIs xs fs ts en r1 r2) :
  Calls Try.prog 25 #[.agg #[.slice A0 xs.length c0,.slice A1 fs.length c1,.slice A2 ts.length c2,.int .i64 en]] w (Wrote w xs fs ts en r1 r2):=by
 by_cases hz:r2=0
 ·subst hz
  have hI:=gdi_of xs fs ts en r1 (by omega) (by omega) (by omega) hr
  obtain ⟨hG,rfl⟩:=gd_of xs fs ts en r1 (by omega) (by omega) (by omega) hr
  refine (refw_ok w A0 A1 A2 c0 c1 c2 xs fs ts en h0 h1 h2 l0 l1 l2 hr hG hI).mono ?_
  rintro e w' ⟨v,rfl,hv,hb⟩
  have e1:wOut xs fs ts en 0=wrB xs fs ts en:=if_pos rfl
  rw [← e1] at hv
  obtain ⟨A,c,rfl⟩:=shape hv
  exact ⟨A,c,rfl,hv,hb⟩
 ·refine (refw_bad w A0 A1 A2 c0 c1 c2 xs fs ts en r1 r2 h0 h1 h2 l0 l1 l2 hr hz).mono ?_
  rintro e w' ⟨rfl,hb⟩
  have e1:wOut xs fs ts en r2=[]:=if_neg hz
  unfold Wrote
  rw [e1]
  exact ⟨none,0,rfl,Bt.nil _ _,hb⟩
end
end Go.Proofs.Ytbeikcckcjadbaa.Im
end
section
namespace Go.Proofs.Ytbeikcckcjadbaa.Ln
open Go.RowKit Go.Proofs.YtbeikcckcjadbaaW.PrintWords Go.Proofs.Ytbeikcckcjadbaa.PI Go.Proofs.Ytbeikcckcjadbaa.Im Go.Proofs.Ytbeikcckcjadbaa.Bk
attribute [local go_sem] isSome_setCell
theorem pl_lt54 {w:World} {v:Value} {ys:List S54} (h:Pl54 w v ys) {k:Nat} (hk:v.ownBlock=some k):k<w.heap.size:=by
 rcases h with ⟨rfl,_⟩|⟨gb,rfl,hb⟩
 ·simp [Value.ownBlock] at hk
 ·have e:gb=k:=by simpa [Value.ownBlock] using hk
  exact e ▸ hb.lt
theorem pl_lt68 {w:World} {v:Value} {ys:List S68} (h:Pl68 w v ys) {k:Nat} (hk:v.ownBlock=some k):k<w.heap.size:=by
 rcases h with ⟨rfl,_⟩|⟨gb,rfl,hb⟩
 ·simp [Value.ownBlock] at hk
 ·have e:gb=k:=by simpa [Value.ownBlock] using hk
  exact e ▸ hb.lt
theorem pl_lt56 {w:World} {v:Value} {ys:List S56} (h:Pl56 w v ys) {k:Nat} (hk:v.ownBlock=some k):k<w.heap.size:=by
 rcases h with ⟨rfl,_⟩|⟨gb,rfl,hb⟩
 ·simp [Value.ownBlock] at hk
 ·have e:gb=k:=by simpa [Value.ownBlock] using hk
  exact e ▸ hb.lt
theorem written_ (w:World) (g n0 n1 n2 c0 c1 c2:Nat) (A0 A1 A2:Option Addr) (en:Int) (v0 v1 v2:Value) (xs:List S54) (fs:List S68) (ts:List S56) (e0:n0=xs.length) (e1:n1=fs.length) (e2:n2=ts.length)
  (hs:LSt w g v0 v1 v2) (h0:Kd.C k54 w A0 n0 xs) (h1:Kd.C k68 w A1 n1 fs) (h2:Kd.C k56 w A2 n2 ts) (f0:Far A0 n0 (Own g v0 v1 v2)) (f1:Far A1 n1 (Own g v0 v1 v2)) (f2:Far A2 n2 (Own g v0 v1 v2)) (k0:n0≤2000000) (k1:n1≤2000000) (k2:n2≤2000000)
  (l0:n0≤c0) (l1:n1≤c1) (l2:n2≤c2) (hf:∀ f∈fs,FitF f) :
  Calls Try.prog 11 #[.pointer (some ⟨g,0,none⟩),.agg #[.slice A0 n0 c0,.slice A1 n1 c1,.slice A2 n2 c2,.int .i64 en]] w (Chkd w g v0 v1 v2):=by
 subst e0 e1 e2
 obtain ⟨r1,r2,hr⟩:=ref_ex xs fs ts en (by omega) (by omega) (by omega)
 have HR:=Lib.hid hr
 have HS:=Lib.hid hs
 have HC0:=Lib.hid h0
 have HC1:=Lib.hid h1
 have HC2:=Lib.hid h2
 have HF0:=Lib.hid f0
 have HF1:=Lib.hid f1
 have HF2:=Lib.hid f2
 have HFI:=Lib.hid hf
 clear hr hs h0 h1 h2 f0 f1 f2 hf
 go_enter Try.func11,Try.ntmps11
 refine wp_seq_k (fun K hK=>?_)
 have HK:=Lib.hid hK
 clear hK
 go_wp2
 refine HK.out _ _ ?_
 clear HK
 have HQ:=Lib.hid (Blk.new w 26 #[.slice A0 xs.length c0,.slice A1 fs.length c1,.slice A2 ts.length c2,.int .i64 en])
 have HCH:=Lib.hid (show Ch w (w.alloc (.cells #[.slice A0 xs.length c0,.slice A1 fs.length c1,.slice A2 ts.length c2,.int .i64 en] 26)) (fun _=>False) from (Ch.refl w _).alloc _)
 generalize w.alloc (.cells #[.slice A0 xs.length c0,.slice A1 fs.length c1,.slice A2 ts.length c2,.int .i64 en] 26)=w1 at HQ HCH ⊢
 refine wp_seq_k (fun K hK=>?_)
 have HK:=Lib.hid hK
 clear hK
 have q0:=HQ.out.cell 0
 have q1:=HQ.out.cell 1
 have q2:=HQ.out.cell 2
 have q3:=HQ.out.cell 3
 simp only [List.getElem?_toArray,List.getElem?_cons_zero,List.getElem?_cons_succ] at q0 q1 q2 q3
 have HREF:=Lib.hid (refw_ w1 A0 A1 A2 c0 c1 c2 xs fs ts en r1 r2 (C_ch54 HC0.out HCH.out (fun _ _ _ h=>h)) (C_ch68 HC1.out HCH.out (fun _ _ _ h=>h)) (C_ch56 HC2.out HCH.out (fun _ _ _ h=>h)) l0 l1 l2 (by omega) (by omega) (by omega) HR.out)
 go_wp2_with (go_at_call 25;refine HREF.out.mono ?_;rintro e w2 ⟨AW,cW,rfl,hv,hb⟩;have HV2:=Lib.hid hv;have HB2:=Lib.hid hb;clear hv hb)
 refine HK.out _ _ ?_
 clear HK q0 q1 q2 q3
 have HQ2:=Lib.hid (HQ.out.below HB2.out)
 have HCH2:=Lib.hid (HCH.out.trans (Ch.below' HB2.out) (fun _ _ h=>h))
 have HN2:=Lib.hid (show ∀ k,Value.ownBlock (.slice AW (wOut xs fs ts en r2).length cW)=some k→¬ Own g v0 v1 v2 k from fun k hk h=>by
  have h1:=own_base HV2.out k hk
  have h2:=(HS.out.ch HCH.out)
  obtain ⟨y0,a0,_⟩:=HS.out.p0
  obtain ⟨y1,a1,_⟩:=HS.out.p1
  obtain ⟨y2,a2,_⟩:=HS.out.p2
  have h3:k<w.heap.size:=by
   rcases h with h|h|h|h
   ·rw [h];exact HS.out.hd.lt
   ·exact pl_lt54 a0 h
   ·exact pl_lt68 a1 h
   ·exact pl_lt56 a2 h
  have:=HCH.out.size
  omega)
 clear HQ HCH HB2 HREF
 refine wp_seq_k (fun K hK=>?_)
 have HK:=Lib.hid hK
 clear hK
 have q0:=HQ2.out.cell 0
 have q1:=HQ2.out.cell 1
 have q2:=HQ2.out.cell 2
 have q3:=HQ2.out.cell 3
 simp only [List.getElem?_toArray,List.getElem?_cons_zero,List.getElem?_cons_succ] at q0 q1 q2 q3
 obtain ⟨y0,a0,m0⟩:=(HS.out.ch HCH2.out).p0
 obtain ⟨y1,a1,m1⟩:=(HS.out.ch HCH2.out).p1
 obtain ⟨y2,a2,m2⟩:=(HS.out.ch HCH2.out).p2
 have HLAY:=Lib.hid (lay_ w2 g xs.length fs.length ts.length c0 c1 c2 A0 A1 A2 en v0 v1 v2 y0 y1 y2 xs fs ts rfl rfl rfl (HS.out.ch HCH2.out).hd a0 a1 a2 m0 m1 m2 (C_ch54 HC0.out HCH2.out (fun _ _ _ h=>h)) (C_ch68 HC1.out HCH2.out (fun _ _ _ h=>h)) (C_ch56 HC2.out HCH2.out (fun _ _ _ h=>h)) HF0.out HF1.out HF2.out k0 k1 k2)
 clear a0 a1 a2 m0 m1 m2
 go_wp2_with (first|(go_at_call 21;refine HLAY.out.mono ?_;rintro e w3 ⟨b0,b1,b2,L0,L1,L2,rfl,hl⟩;have HL:=Lib.hid hl;clear hl)|(go_at_call 15;refine (write_ w3 (some ⟨b0,0,none⟩) (some ⟨b1,0,none⟩) (some ⟨b2,0,none⟩) L0 L1 L2 xs fs ts en r1 r2 (taken54 HL.out.2.1 (by have:=HL.out.2.2.2.2.1;omega) HL.out.2.2.2.2.1.2) (taken68 HL.out.2.2.1 (by have:=HL.out.2.2.2.2.2.1;omega) HL.out.2.2.2.2.2.1.2) (taken56 HL.out.2.2.2.1 (by have:=HL.out.2.2.2.2.2.2.1;omega) HL.out.2.2.2.2.2.2.1.2) (by have:=HL.out.2.2.2.2.1;omega) (by have:=HL.out.2.2.2.2.2.1;omega) (by have:=HL.out.2.2.2.2.2.2.1;omega) HFI.out (by omega) (by omega) (by omega) HR.out).mono ?_;rintro e w4 ⟨AX,cX,rfl,hv,hb⟩;have HV4:=Lib.hid hv;have HB4:=Lib.hid hb;clear hv hb))
 refine HK.out _ _ ?_
 clear HK q0 q1 q2 q3
 have hnq:¬ Own g v0 v1 v2 w.heap.size:=by
  have hst:=HS.out.ch HCH2.out
  obtain ⟨y0,a0,_⟩:=hst.p0
  obtain ⟨y1,a1,_⟩:=hst.p1
  obtain ⟨y2,a2,_⟩:=hst.p2
  rintro (h|h|h|h)
  ·exact HQ2.out.ne hst.hd (by decide) h
  ·exact a0.far HQ2.out (by decide) _ h rfl
  ·exact a1.far HQ2.out (by decide) _ h rfl
  ·exact a2.far HQ2.out (by decide) _ h rfl
 have HQ4:=Lib.hid ((HL.out.2.2.2.2.2.2.2.1.blk HQ2.out hnq).below HB4.out)
 have HC4:=Lib.hid (((HCH2.out.mono (S2:=Own g v0 v1 v2) (fun _ h=>h.elim)).trans HL.out.2.2.2.2.2.2.2.1 (fun _ _ h=>h)).trans (Ch.below' HB4.out) (fun _ _ h=>h.elim))
 have HN4:=Lib.hid (show ∀ k,Own g (.slice (some ⟨b0,0,none⟩) L0 L0) (.slice (some ⟨b1,0,none⟩) L1 L1) (.slice (some ⟨b2,0,none⟩) L2 L2) k→Own g v0 v1 v2 k∨w.heap.size≤k from fun k hk=>by
  have hz:w.heap.size≤w2.heap.size:=HCH2.out.size
  obtain ⟨m0,m1,m2⟩:=HL.out.2.2.2.2.2.2.2.2
  rcases hk with h|h|h|h
  ·exact .inl (.inl h)
  ·have e:=Option.some.inj h;subst e
   exact m0.elim (fun h=>.inl (.inr (.inl h))) (fun h=>.inr (Nat.le_trans hz h))
  ·have e:=Option.some.inj h;subst e
   exact m1.elim (fun h=>.inl (.inr (.inr (.inl h)))) (fun h=>.inr (Nat.le_trans hz h))
  ·have e:=Option.some.inj h;subst e
   exact m2.elim (fun h=>.inl (.inr (.inr (.inr h)))) (fun h=>.inr (Nat.le_trans hz h)))
 have HV5:=Lib.hid ((HV2.out.ch HL.out.2.2.2.2.2.2.2.1 HN2.out).ch (Ch.below' HB4.out) (fun _ _ h=>h))
 refine wp_seq_k (fun K hK=>?_)
 have HK:=Lib.hid hK
 clear hK hnq
 have q0:=HQ4.out.cell 0
 have q1:=HQ4.out.cell 1
 have q2:=HQ4.out.cell 2
 have q3:=HQ4.out.cell 3
 simp only [List.getElem?_toArray,List.getElem?_cons_zero,List.getElem?_cons_succ] at q0 q1 q2 q3
 have HBACK:=Lib.hid (back_ w4 g b0 b1 b2 L0 L1 L2 xs.length fs.length ts.length c0 c1 c2 A0 A1 A2 en xs fs ts rfl rfl rfl (HL.out.1.below HB4.out) (HL.out.2.1.below HB4.out) (HL.out.2.2.1.below HB4.out) (HL.out.2.2.2.1.below HB4.out) (C_ch54 HC0.out HC4.out HF0.out) (C_ch68 HC1.out HC4.out HF1.out) (C_ch56 HC2.out HC4.out HF2.out)
  (by have:=HL.out.2.2.2.2.1;omega) (by have:=HL.out.2.2.2.2.2.1;omega) (by have:=HL.out.2.2.2.2.2.2.1;omega) HL.out.2.2.2.2.1.2 HL.out.2.2.2.2.2.1.2 HL.out.2.2.2.2.2.2.1.2 l0 l1 l2)
 go_wp2_with (go_at_call 22;refine HBACK.out.mono ?_;rintro e w5 ⟨rfl,hgn⟩;have HGN:=Lib.hid hgn;clear hgn)
 refine HK.out _ _ ?_
 clear HK q0 q1 q2 q3
 have hnb:∀ (v:Value) (l:List Int) (bs:Nat),Bt w4 bs v l→∀ k,v.ownBlock=some k→¬ (k=b0∨k=b1∨k=b2):=fun v l bs hv k hk h=>by
  rcases h with rfl|rfl|rfl
  ·exact hv.ne3 (HL.out.2.1.below HB4.out) (by decide) hk
  ·exact hv.ne3 (HL.out.2.2.1.below HB4.out) (by decide) hk
  ·exact hv.ne3 (HL.out.2.2.2.1.below HB4.out) (by decide) hk
 have hx1:=HV5.out.ch HGN.out.2.2.2.2 (hnb _ _ _ HV5.out)
 have hx2:=HV4.out.ch HGN.out.2.2.2.2 (hnb _ _ _ HV4.out)
 obtain ⟨B1,d1,eb1,hd1,hC1⟩:=Kd.R_reads hx1.R
 obtain ⟨B2,d2,eb2,hd2,hC2⟩:=Kd.R_reads hx2.R
 injection eb1 with eb1 _ ec1
 injection eb2 with eb2 _ ec2
 subst eb1 ec1 eb2 ec2
 have HSB:=Lib.hid (spindlelaw0_SameBytes.calls AX cX (wOut xs fs ts en r2) AW cW (wOut xs fs ts en r2) true _ hC2 hd2 hC1 hd1 (by unfold spindlelaw0_SameBytes.f;rw [beq_self_eq_true]))
 clear hnb hx1 hx2 hC1 hC2 hd1 hd2
 refine wp_seq_k (fun K hK=>?_)
 have HK:=Lib.hid hK
 clear hK
 go_wp2_with (first|(go_at_call 18;refine HSB.out.mono ?_;rintro e w6 ⟨rfl,⟨nd,rfl⟩⟩)|(go_at_call 19;refine (spindlelaw0_Num.calls r2 r2 _ rfl).mono ?_;rintro e w6 ⟨rfl,⟨nd,rfl⟩⟩))
 refine HK.out _ _ ?_
 clear HK
 go_wp2
 go_ret
 have hown:∀ k,k<w.heap.size→(k=b0∨k=b1∨k=b2)→Own g v0 v1 v2 k:=fun k hk h=>by
  have h2:=HN4.out k (by
   rcases h with rfl|rfl|rfl
   ·exact .inr (.inl rfl)
   ·exact .inr (.inr (.inl rfl))
   ·exact .inr (.inr (.inr rfl)))
  exact h2.elim id fun h=>absurd h (by omega)
 obtain ⟨hg5,⟨z0,d0,e0⟩,⟨z1,d1,e1⟩,⟨z2,d2,e2⟩,hc5⟩:=HGN.out
 refine ⟨by first|rfl|simp,.slice (some ⟨b0,0,none⟩) L0 L0,.slice (some ⟨b1,0,none⟩) L1 L1,.slice (some ⟨b2,0,none⟩) L2 L2,⟨hg5,⟨z0,.inr ⟨b0,by rw [d0],e0⟩,by rw [d0];exact HL.out.2.2.2.2.1.2⟩,⟨z1,.inr ⟨b1,by rw [d1],e1⟩,by rw [d1];exact HL.out.2.2.2.2.2.1.2⟩,⟨z2,.inr ⟨b2,by rw [d2],e2⟩,by rw [d2];exact HL.out.2.2.2.2.2.2.1.2⟩⟩,(HC4.out.trans hc5 hown).drewN _,HN4.out⟩
end Go.Proofs.Ytbeikcckcjadbaa.Ln
end
section
namespace Go.Proofs.Ytbeikcckcjadbaa.Im
open Go.RowKit Go.Proofs.YtbeikcckcjadbaaW.PrintWords Go.Proofs.Ytbeikcckcjadbaa.PI Go.Proofs.Ytbeikcckcjadbaa.Ln Go.Proofs.Ytbeikcckcjadbaa.Bk Go.ChangeMaps Go.MapKept
attribute [local go_sem] isSome_setCell
theorem asks11:Asks 11:=fun w g n0 n1 n2 c0 c1 c2 A0 A1 A2 en v0 v1 v2 xs fs ts e0 e1 e2 hs h0 h1 h2 f0 f1 f2 k0 k1 k2 l0 l1 l2 hf=>written_ w g n0 n1 n2 c0 c1 c2 A0 A1 A2 en v0 v1 v2 xs fs ts e0 e1 e2 hs h0 h1 h2 f0 f1 f2 k0 k1 k2 l0 l1 l2 hf
theorem writes_ (w:World) (A0 A1 A2:Option Addr) (c0 c1 c2:Nat) (xs:List S54) (fs:List S68) (ts:List S56) (en:Int)
  (h0:Kd.C k54 w A0 xs.length xs) (h1:Kd.C k68 w A1 fs.length fs) (h2:Kd.C k56 w A2 ts.length ts) (l0:xs.length≤c0) (l1:fs.length≤c1) (l2:ts.length≤c2) (hg:∀ f∈fs,FitF f)
  (k0:xs.length≤2000000) (k1:fs.length≤2000000) (k2:ts.length≤2000000) :
  Calls Try.prog 4 #[.agg #[.slice A0 xs.length c0,.slice A1 fs.length c1,.slice A2 ts.length c2,.int .i64 en]] w fun e w'=>e=.returned (.bool true)∧Below w.heap.size w w':=by
 obtain ⟨r1,r3,hT,hr1,hr3⟩:=turned_f xs fs ts en (by omega) (by omega) (by omega)
 have HT:=Lib.hid hT
 have HL1:=Lib.hid hr1
 have HL3:=Lib.hid hr3
 have HC0:=Lib.hid h0
 have HC1:=Lib.hid h1
 have HC2:=Lib.hid h2
 have HG:=Lib.hid hg
 have HK0:=Lib.hid k0
 have HK1:=Lib.hid k1
 have HK2:=Lib.hid k2
 clear hT hr1 hr3 h0 h1 h2 hg k0 k1 k2
 go_enter Try.func4,Try.ntmps4
 refine wp_seq_k (fun K hK=>?_)
 have HK:=Lib.hid hK
 clear hK
 go_wp2
 refine HK.out _ _ ?_
 clear HK
 refine wp_seq_k (fun K hK=>?_)
 have HK:=Lib.hid hK
 clear hK
 go_wp2
 refine HK.out _ _ ?_
 clear HK
 obtain ⟨img,himg⟩:∃ img:Array Value,img=#[.slice A0 xs.length c0,.slice A1 fs.length c1,.slice A2 ts.length c2,.int .i64 en]:=⟨_,rfl⟩
 have hz:(w.alloc (.cells #[.slice A0 xs.length c0,.slice A1 fs.length c1,.slice A2 ts.length c2,.int .i64 en] 26)).heap.size=w.heap.size+1:=World.size_alloc w _
 have HLW0:=Lib.hid (show LW w ((w.alloc (.cells #[.slice A0 xs.length c0,.slice A1 fs.length c1,.slice A2 ts.length c2,.int .i64 en] 26)).alloc (.cells #[.slice none 0 0,.slice none 0 0,.slice none 0 0] 29)) (w.heap.size+1) img (fun k=>k=w.heap.size+1) from by
  have hb:=Blk.new (w.alloc (.cells #[.slice A0 xs.length c0,.slice A1 fs.length c1,.slice A2 ts.length c2,.int .i64 en] 26)) 29 #[.slice none 0 0,.slice none 0 0,.slice none 0 0]
  rw [hz] at hb
  refine ⟨bdA (bdA (Below.refl _ w) _) _,((Ch.refl _ (fun _=>False)).alloc _).blk (himg ▸ Blk.new w 26 _) (fun h=>h),.slice none 0 0,.slice none 0 0,.slice none 0 0,⟨hb,⟨[],.inl ⟨rfl,rfl⟩,by simp⟩,⟨[],.inl ⟨rfl,rfl⟩,by simp⟩,⟨[],.inl ⟨rfl,rfl⟩,by simp⟩⟩,fun k hk=>?_⟩
  rcases hk with rfl|h|h|h
  ·exact ⟨rfl,by omega⟩
  all_goals simp [Value.ownBlock] at h)
 have hz2:((w.alloc (.cells #[.slice A0 xs.length c0,.slice A1 fs.length c1,.slice A2 ts.length c2,.int .i64 en] 26)).alloc (.cells #[.slice none 0 0,.slice none 0 0,.slice none 0 0] 29)).heap.size=w.heap.size+2:=by rw [World.size_alloc,hz]
 have HZ:=Lib.hid hz2
 clear hz hz2
 generalize (w.alloc (.cells #[.slice A0 xs.length c0,.slice A1 fs.length c1,.slice A2 ts.length c2,.int .i64 en] 26)).alloc (.cells #[.slice none 0 0,.slice none 0 0,.slice none 0 0] 29)=W0 at HLW0 HZ ⊢
 refine wp_seq_k (fun K hK=>?_)
 have HK:=Lib.hid hK
 clear hK
 have q0:=HLW0.out.box.cell 0;have q1:=HLW0.out.box.cell 1;have q2:=HLW0.out.box.cell 2;have q3:=HLW0.out.box.cell 3;simp only [himg,List.getElem?_toArray,List.getElem?_cons_zero,List.getElem?_cons_succ] at q0 q1 q2 q3
 go_wp2_with (first
  | (go_at_call 9;refine (sl17t.calls (xs.length+ts.length+2) A0 c0 xs A1 c1 fs A2 c2 ts en r1 fs r3 en W0 (Kd.CbW HC0.out HLW0.out.bel) l0 (Kd.CbW HC1.out HLW0.out.bel) l1 (Kd.CbW HC2.out HLW0.out.bel) l2 HT.out).mono ?_;rintro e W1 ⟨v0,v1,v2,rfl,hR0,hR1,hR2,hb⟩;obtain ⟨B0,d0,rfl,hd0,hD0⟩:=Kd.R_reads hR0;obtain ⟨B1,d1,rfl,hd1,hD1⟩:=Kd.R_reads hR1;obtain ⟨B2,d2,rfl,hd2,hD2⟩:=Kd.R_reads hR2;have HLW1:=Lib.hid (HLW0.out.below hb);have HA1:=Lib.hid (HLW1.out.ask asks11 r1.length fs.length r3.length d0 d1 d2 B0 B1 B2 en r1 fs r3 rfl rfl rfl hD0 hD1 hD2 (far_sub (R_far hR0) (fun k hk=>by have:=HZ.out;omega)) (far_sub (R_far hR1) (fun k hk=>by have:=HZ.out;omega)) (far_sub (R_far hR2) (fun k hk=>by have:=HZ.out;omega)) (by rw [HL1.out];exact HK0.out) HK1.out (by rw [HL3.out];exact HK2.out) hd0 hd1 hd2 HG.out);clear hR0 hR1 hR2 hb hD0 hD1 hD2 hd0 hd1 hd2)
  | (go_at_call 11;refine HA1.out.mono ?_;rintro e W2 ⟨rfl,hlw⟩;have HLW2:=Lib.hid hlw;clear hlw HA1 HLW1;have HA3:=Lib.hid (HLW2.out.ask asks11 xs.length fs.length ts.length c0 c1 c2 A0 A1 A2 en xs fs ts rfl rfl rfl (Kd.CbW HC0.out HLW2.out.bel) (Kd.CbW HC1.out HLW2.out.bel) (Kd.CbW HC2.out HLW2.out.bel) (far_old54 HC0.out) (far_old68 HC1.out) (far_old56 HC2.out) HK0.out HK1.out HK2.out l0 l1 l2 HG.out);have q0:=HLW2.out.box.cell 0;have q1:=HLW2.out.box.cell 1;have q2:=HLW2.out.box.cell 2;have q3:=HLW2.out.box.cell 3;simp only [himg,List.getElem?_toArray,List.getElem?_cons_zero,List.getElem?_cons_succ] at q0 q1 q2 q3)
  | (go_at_call 11;refine HA3.out.mono ?_;rintro e W3 ⟨rfl,hlw⟩;have HLW3:=Lib.hid hlw;clear hlw HA3 HLW2;have HA4:=Lib.hid (HLW3.out.ask asks11 xs.length fs.length ts.length c0 c1 c2 A0 A1 A2 en xs fs ts rfl rfl rfl (Kd.CbW HC0.out HLW3.out.bel) (Kd.CbW HC1.out HLW3.out.bel) (Kd.CbW HC2.out HLW3.out.bel) (far_old54 HC0.out) (far_old68 HC1.out) (far_old56 HC2.out) HK0.out HK1.out HK2.out l0 l1 l2 HG.out);have q0:=HLW3.out.box.cell 0;have q1:=HLW3.out.box.cell 1;have q2:=HLW3.out.box.cell 2;have q3:=HLW3.out.box.cell 3;simp only [himg,List.getElem?_toArray,List.getElem?_cons_zero,List.getElem?_cons_succ] at q0 q1 q2 q3)
  | (go_at_call 11;refine HA4.out.mono ?_;rintro e W4 ⟨rfl,hlw⟩;have HLW4:=Lib.hid hlw;clear hlw HA4 HLW3)
  | (go_at_call 10;refine (awake_ W4).mono ?_;rintro e W5 ⟨rfl,hb⟩;have HLW5:=Lib.hid (HLW4.out.below hb);clear hb HLW4))
 refine HK.out _ _ ?_
 clear HK
 go_wp2
 go_ret
 exact ⟨by first|rfl|simp,HLW5.out.bel⟩
end Go.Proofs.Ytbeikcckcjadbaa.Im
end
