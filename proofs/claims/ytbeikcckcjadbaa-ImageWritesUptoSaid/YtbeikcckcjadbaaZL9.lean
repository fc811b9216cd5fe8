/- Parts of the proof, laid together by a program of this session (pack.py): Wr1, Wr2, Wr3, Wr4, Wr5, Lw1. -/
import Derived.Test.YtbeikcckcjadbaaZL8
set_option linter.unusedVariables false
set_option linter.unusedSimpArgs false
set_option maxRecDepth 100000
set_option maxHeartbeats 16000000
section
namespace Go.Proofs.Ytbeikcckcjadbaa.Im
open Go.RowKit Go.Proofs.YtbeikcckcjadbaaW.PrintWords Go.Proofs.Ytbeikcckcjadbaa.PI Go.Proofs.Ytbeikcckcjadbaa.Ln Go.Proofs.Ytbeikcckcjadbaa.Bk Go.ChangeMaps Go.MapKept
def lay4 (x:Int):List Int:=[x % 256,x / 256 % 256,x / 65536 % 256,x / 16777216 % 256]
def insB (i:S54):List Int:=[i.f0 % 256,Go.bits .or .i64 i.f1 (wrap64 (i.f2*16)) % 256,i.f3 % 256,i.f3 / 256 % 256] ++ (lay4 i.f4 ++ (if i.f0=24 then lay4 0 ++ lay4 (i.f4 / 4294967296) else []))
def texB (xs:List S54):List Int:=xs.flatMap insB
def sl1 (i:S54):Nat:=if i.f0=24 then 2 else 1
def slots (xs:List S54):Nat:=(xs.map sl1).sum
theorem insB_length (i:S54):(insB i).length=8*sl1 i:=by
 unfold insB sl1
 split <;> simp [lay4]
theorem slots_cons (x:S54) (r:List S54):slots (x :: r)=sl1 x+slots r:=rfl
theorem slots_append (a b:List S54):slots (a ++ b)=slots a+slots b:=by simp [slots]
theorem sl1_le (i:S54):1≤sl1 i∧sl1 i≤2:=by unfold sl1;split <;> omega
theorem slots_le:∀ xs:List S54,xs.length≤slots xs∧slots xs≤2*xs.length
 | []=>⟨Nat.le_refl _,Nat.le_refl _⟩
 | x :: r=>by
  have:=slots_le r
  have:=sl1_le x
  rw [slots_cons,List.length_cons]
  omega
theorem texB_length:∀ xs:List S54,(texB xs).length=8*slots xs
 | []=>rfl
 | x :: r=>by
  show (insB x ++ texB r).length=_
  rw [List.length_append,insB_length,texB_length r,slots_cons]
  omega
theorem texB_next (xs:List S54) (k:Nat) (x:S54) (h:xs[k]?=some x):texB (xs.take (k+1))=texB (xs.take k) ++ insB x:=by
 rw [List.take_add_one,h]
 simp [texB]
theorem slots_take_le (xs:List S54) (k:Nat):slots (xs.take k)≤slots xs:=by
 conv=>rhs;rw [← List.take_append_drop k xs,slots_append]
 omega
theorem slE_plain (xs:List S54) (hx:xs.length≤1152921504606846976):∀ (d i:Nat) (s:Int),i+d=xs.length→0≤s→s+2*d≤4611686018427387904→slE xs d i s=s+(slots (xs.drop i):Nat)
 | 0,i,s,h,_,_=>by
  unfold slE
  rw [List.drop_eq_nil_of_le (by omega)]
  simp [slots]
 | d+1,i,s,h,h0,h2=>by
  unfold slE
  have e:rd_T54 xs (i:Int)=xs[i]'(by omega):=by unfold rd_T54;simp [List.getD_eq_getElem?_getD,show i<xs.length from by omega]
  have e2:(if (rd_T54 xs (i:Int)).f0=24 then (2:Int) else 1)=(sl1 (rd_T54 xs (i:Int)):Nat):=by unfold sl1;split <;> rfl
  have:=sl1_le (rd_T54 xs (i:Int))
  rw [e2,w64 _ (by omega) (by omega),slE_plain xs hx d (i+1) _ (by omega) (by omega) (by omega),e,List.drop_eq_getElem_cons (show i<xs.length from by omega),slots_cons]
  omega
theorem slE_all (xs:List S54) (hx:xs.length≤1152921504606846976):slE xs xs.length 0 0=(slots xs:Nat):=by
 rw [slE_plain xs hx xs.length 0 0 (by omega) (by omega) (by omega),List.drop_zero]
 omega
def stepF (xs:List S54) (st:List ByteArray × List Int × Nat) (f:S68):List ByteArray × List Int × Nat:=
 (putS st.1 f.f0,st.2.1 ++ [plcF 1 st.1 f.f0,f.f1,(st.2.2:Int),((slots ((xs.take (f.f2+f.f3).toNat).drop f.f2.toNat):Nat):Int)].flatMap lay4,st.2.2+slots ((xs.take (f.f2+f.f3).toNat).drop f.f2.toNat))
def stF (xs:List S54) (fs:List S68):List ByteArray × List Int × Nat:=fs.foldl (stepF xs) ([],[],0)
def stepT (st:List ByteArray × List Int) (d:S56):List ByteArray × List Int:=
 (putS st.1 d.f0,st.2 ++ [plcF 1 st.1 d.f0,d.f1,d.f2,d.f3,d.f4].flatMap lay4)
def stT (xs:List S54) (fs:List S68) (ts:List S56):List ByteArray × List Int:=ts.foldl stepT ((stF xs fs).1,(stF xs fs).2.1)
theorem stF_next (xs:List S54) (fs:List S68) (k:Nat) (f:S68) (h:fs[k]?=some f):stF xs (fs.take (k+1))=stepF xs (stF xs (fs.take k)) f:=by
 rw [List.take_add_one,h]
 simp [stF,List.foldl_append]
theorem stT_next (xs:List S54) (fs:List S68) (ts:List S56) (k:Nat) (d:S56) (h:ts[k]?=some d):stT xs fs (ts.take (k+1))=stepT (stT xs fs (ts.take k)) d:=by
 rw [List.take_add_one,h]
 simp [stT,List.foldl_append]
def headB (xs:List S54) (fs:List S68) (ts:List S56) (en:Int) (n:Nat):List Int:=([1313427539,1,((slots xs:Nat):Int),(fs.length:Int),(ts.length:Int),(n:Int),en]:List Int).flatMap lay4
def wrB (xs:List S54) (fs:List S68) (ts:List S56) (en:Int):List Int:=
 headB xs fs ts en (0 :: tbytes (stT xs fs ts).1).length ++ (texB xs ++ ((stT xs fs ts).2 ++ 0 :: tbytes (stT xs fs ts).1))
theorem lay4s_length:∀ l:List Int,(l.flatMap lay4).length=4*l.length
 | []=>rfl
 | x :: r=>by
  show (lay4 x ++ r.flatMap lay4).length=_
  rw [List.length_append,lay4s_length r,List.length_cons]
  show 4+_=_
  omega
theorem laid_l (l1:List Int) (hl1:l1.length≤1000):∀ (d i k:Nat) (l0:List Int),i+d=l1.length→d<k→l0.length+4*d<140737488355328→image_laid.l0 k l0 l1 (l1.length:Int) (i:Int)=some (l0 ++ (l1.drop i).flatMap lay4)
 | 0,i,k+1,l0,h,hk,hl=>by
  unfold image_laid.l0
  rw [if_neg (by omega),List.drop_eq_nil_of_le (by omega)]
  simp
 | d+1,i,k+1,l0,h,hk,hl=>by
  unfold image_laid.l0
  have e:Go.Proofs.YtbeikcckcjadbaaW.PrintWords.rd l1 (i:Int)=l1[i]'(by omega):=by unfold Go.Proofs.YtbeikcckcjadbaaW.PrintWords.rd;simp [List.getD_eq_getElem?_getD,show i<l1.length from by omega]
  rw [if_pos (by omega),if_pos (by omega),if_pos (by omega),Option.bind_some,if_pos (by simp only [List.length_cons,List.length_nil];omega),w64_succ i (by omega)]
  rw [laid_l l1 hl1 d (i+1) k _ (by omega) (by omega) (by simp only [List.length_append,List.length_cons,List.length_nil];omega),e,List.drop_eq_getElem_cons (show i<l1.length from by omega),List.flatMap_cons,List.append_assoc]
  rfl
theorem laid_f (l0 l1:List Int) (k:Nat) (hl1:l1.length≤1000) (hk:l1.length<k) (hl:l0.length≤100000000000000):image_laid.f k l0 l1=some (l0 ++ l1.flatMap lay4):=by
 unfold image_laid.f
 exact laid_l l1 hl1 l1.length 0 k l0 (by omega) hk (by omega)
theorem insn_f (l0:List Int) (i:S54) (k:Nat) (hk:5≤k) (hl:l0.length≤10000000000000):image_insn.f k l0 i.f0 i.f1 i.f2 i.f3 i.f4=some (l0 ++ insB i):=by
 unfold image_insn.f insB
 rw [Option.bind_some,if_pos (by simp only [List.length_cons,List.length_nil];omega),laid_f _ _ k (by simp) (by simp;omega) (by simp only [List.length_append,List.length_cons,List.length_nil];omega)]
 rw [Option.bind_some]
 by_cases e:i.f0=24
 ·rw [if_pos e,if_pos e,laid_f _ _ k (by simp) (by simp;omega) (by rw [List.length_append,lay4s_length];simp only [List.length_append,List.length_cons,List.length_nil];omega)]
  simp
 ·rw [if_neg e,if_neg e]
  simp
theorem length_f (xs:List S54) (hx:xs.length≤1152921504606846976) (k:Nat) (hk:xs.length<k):image_length.f k xs=some ((slots xs:Nat):Int):=by
 unfold image_length.f
 have:=length_l xs (by omega) xs.length 0 k 0 (by omega) hk
 rw [show ((0:Nat):Int)=0 from rfl] at this
 rw [this,slE_all xs hx]
def Grew (w0 w:World) (v:Value) (l:List Int) (e:Ending) (w':World):Prop:=
 ∃ v':Value,e=.returned v'∧Bt w' w0.heap.size v' l∧Below w0.heap.size w0 w'∧Ch w w' (fun k=>v.ownBlock=some k)∧∀ k,v'.ownBlock=some k→v.ownBlock=some k∨w.heap.size≤k
theorem insn_ (w0 w:World) (v:Value) (l:List Int) (i:S54) (hB:Below w0.heap.size w0 w) (hb:Bt w w0.heap.size v l) (hl:l.length≤10000000000000) :
  Calls Try.prog 36 #[v,.agg #[.int .i64 i.f0,.int .i64 i.f1,.int .i64 i.f2,.int .i64 i.f3,.int .i64 i.f4]] w (Grew w0 w v (l ++ insB i)):=by
 refine (image_insn.calls 5 (fun k=>v.ownBlock=some k) v l i.f0 i.f1 i.f2 i.f3 i.f4 _ w0 w hB hb.R (insn_f l i 5 (Nat.le_refl _) hl)).mono ?_
 rintro e w' ⟨v',rfl,h1,h2,h3⟩
 have h4:=Bt.of_R h1
 exact ⟨v',rfl,h4.1,h2,Ch.of_kept hB h2 h3,h4.2⟩
theorem C_i64 {w:World} {g:Nat} {ns:List Int} (h:Blk w g 3 (nums .i64 ns).toArray) (hl:ns.length≤1000):Kd.C (Kd.int .i64) w (some ⟨g,0,none⟩) ns.length ns:=by
 refine ⟨rfl,by omega,fun _=>⟨_,rfl,fun j p hj=>⟨[.int .i64 p],rfl,rfl,fun i u hu=>?_⟩⟩⟩
 rw [add_zero_block,h.cell]
 match i,hu with
 | 0,hu =>
  have hu:Value.int .i64 p=u:=by simpa using hu
  subst hu
  simp [nums,Kd.int,Kd.scalar,hj]
 | i+1,hu=>simp at hu
theorem laid_ (w0 w:World) (v:Value) (l ns:List Int) (g:Nat) (hB:Below w0.heap.size w0 w) (hb:Bt w w0.heap.size v l) (hl:l.length≤10000000000000) (hg:Blk w g 3 (nums .i64 ns).toArray) (hn:ns.length≤1000) (hne:¬ v.ownBlock=some g) (n:Nat) (en:n=ns.length) :
  Calls Try.prog 39 #[v,.slice (some ⟨g,0,none⟩) n n] w (Grew w0 w v (l ++ ns.flatMap lay4)):=by
 subst en
 refine (image_laid.calls 1001 (fun k=>v.ownBlock=some k) v l (some ⟨g,0,none⟩) ns.length ns _ w0 w hB hb.R (fun W hW=>C_i64 ((hW.2 g hg.lt hne).trans hg) hn) (Nat.le_refl _) (laid_f l ns 1001 hn (by omega) (by omega))).mono ?_
 rintro e w' ⟨v',rfl,h1,h2,h3⟩
 have h4:=Bt.of_R h1
 exact ⟨v',rfl,h4.1,h2,Ch.of_kept hB h2 h3,h4.2⟩
theorem Bt.ne3 {w:World} {base:Nat} {v:Value} {l:List Int} (h:Bt w base v l) {g:Nat} {ty:TypeId} {cs:Array Value} (hg:Blk w g ty cs) (ht:ty≠5):¬ v.ownBlock=some g:=fun hk=>by
 obtain ⟨cur,h1⟩:=own_obj h hk
 unfold Blk at hg
 rw [h1] at hg
 injection hg with hg
 injection hg with _ h2 _
 exact ht h2.symm
theorem Bt.lt {w:World} {base:Nat} {v:Value} {l:List Int} (h:Bt w base v l) {k:Nat} (hk:v.ownBlock=some k):k<w.heap.size:=by
 obtain ⟨cur,h1⟩:=own_obj h hk
 exact blk_lt h1
theorem Bt.nil (w:World) (base:Nat):Bt w base (.slice none 0 0) []:=own_nil _ _ _ _
end Go.Proofs.Ytbeikcckcjadbaa.Im
end
section
namespace Go.Proofs.Ytbeikcckcjadbaa.Im
open Go.RowKit Go.Proofs.YtbeikcckcjadbaaW.PrintWords Go.Proofs.Ytbeikcckcjadbaa.PI Go.Proofs.Ytbeikcckcjadbaa.Ln Go.Proofs.Ytbeikcckcjadbaa.Bk Go.ChangeMaps Go.MapKept
structure Gd (xs:List S54) (fs:List S68) (ts:List S56):Prop where
 fn:∀ f∈fs,nm f.f0=true
 tn:∀ d∈ts,nm d.f0=true
 cut:∀ f∈fs,0≤f.f2∧0≤f.f3∧f.f2+f.f3≤(xs.length:Int)
 sl:slots xs≤1048576
 fl:fs.length≤4096
 tl:ts.length≤1024
structure WS (w wr:World) (t b:Nat) (img:Array Value) (ss:List ByteArray):Prop where
 bel:Below w.heap.size w wr
 box:Blk wr w.heap.size 26 img
 tab:Sb wr w.heap.size w.heap.size t b ss
section
variable {w wr w':World} {t b:Nat} {img:Array Value} {ss ss':List ByteArray}
theorem Sb.ge {base lo:Nat} (h:Sb wr base lo t b ss):base≤t∧base≤b:=by
 obtain ⟨NV,PV,ys,rs,hT,_⟩:=h
 exact ⟨hT.bt,hT.bb⟩
theorem Sb.alloc {base lo:Nat} (h:Sb wr base lo t b ss) (o:Obj):Sb (wr.alloc o) base lo t b ss:=h.keep ((Ch.refl wr (fun _=>False)).alloc o) (fun _ h=>h.elim)
theorem WS.alloc (h:WS w wr t b img ss) (o:Obj):WS w (wr.alloc o) t b img ss:=⟨bdA h.bel o,((Ch.refl wr (fun _=>False)).alloc o).blk h.box (fun h=>h),h.tab.alloc o⟩
theorem below_ch {S:Nat→Prop} (hb:Below w.heap.size w wr) (hc:Ch wr w' S) (hs:∀ k,S k→w.heap.size≤k):Below w.heap.size w w':=
 ⟨hc.os.trans hb.os,hc.tape.trans hb.tape,hc.output.trans hb.output,Nat.le_trans hb.size hc.size,fun k hk=>(hc.block k (Nat.lt_of_lt_of_le hk hb.size) (fun h=>absurd (hs k h) (by omega))).trans (hb.block k hk)⟩
theorem WS.add (h:WS w wr t b img ss) (hs:Sb w' w.heap.size w.heap.size t b ss') (hk:Kp wr w' w.heap.size t b):WS w w' t b img ss':=by
 have hg:=h.tab.ge
 exact ⟨below_ch h.bel hk.1 (fun k hk=>by rcases hk with rfl|rfl|hk <;> omega),hk.blk (.inr (.inl rfl)) h.box,hs⟩
theorem Bt.obj {base:Nat} {v:Value} {l:List Int} (hb:Bt wr base v l):∀ k,v.ownBlock=some k→∃ cs ty,(ty=5∨ty=26∨ty=68∨ty=56)∧wr.heap[k]?=some (.cells cs ty (0,0)):=fun k hk=>by
 obtain ⟨cur,h1⟩:=own_obj hb hk
 exact ⟨cur,5,.inl rfl,h1⟩
theorem WS.grew {v:Value} {l0 l:List Int} {e:Ending} (h:WS w wr t b img ss) (hb:Bt wr w.heap.size v l0) (hg:Grew w wr v l e w'):WS w w' t b img ss:=by
 obtain ⟨v',_,h1,h2,h3,h4⟩:=hg
 exact ⟨h2,h3.blk h.box (hb.ne3 h.box (by decide)),h.tab.keep h3 hb.obj⟩
theorem WS.below (h:WS w wr t b img ss) (hb:Below wr.heap.size wr w'):WS w w' t b img ss:=⟨bdT h.bel hb,(Ch.below hb (fun _=>False)).blk h.box (fun h=>h),h.tab.keep (Ch.below hb (fun _=>False)) (fun _ h=>h.elim)⟩
structure RS (w wr:World) (t b:Nat) (img:Array Value) (ss:List ByteArray) (vt:Value) (T:List Int) (vr:Value) (R:List Int):Prop where
 ws:WS w wr t b img ss
 tx:Bt wr w.heap.size vt T
 rw_:Bt wr w.heap.size vr R
 sep:∀ k,vr.ownBlock=some k→¬ vt.ownBlock=some k
variable {vt vr:Value} {T R R':List Int}
theorem Bt.ch {base:Nat} {v:Value} {l:List Int} {S:Nat→Prop} (hb:Bt wr base v l) (hc:Ch wr w' S) (hs:∀ k,v.ownBlock=some k→¬ S k):Bt w' base v l:=own_ch hb hc hs
theorem RS.alloc (h:RS w wr t b img ss vt T vr R) (o:Obj):RS w (wr.alloc o) t b img ss vt T vr R:=
 ⟨h.ws.alloc o,h.tx.ch ((Ch.refl wr (fun _=>False)).alloc o) (fun _ _ h=>h),h.rw_.ch ((Ch.refl wr (fun _=>False)).alloc o) (fun _ _ h=>h),h.sep⟩
theorem RS.below (h:RS w wr t b img ss vt T vr R) (hb:Below wr.heap.size wr w'):RS w w' t b img ss vt T vr R:=
 ⟨h.ws.below hb,h.tx.ch (Ch.below hb (fun _=>False)) (fun _ _ h=>h),h.rw_.ch (Ch.below hb (fun _=>False)) (fun _ _ h=>h),h.sep⟩
theorem RS.add (h:RS w wr t b img ss vt T vr R) (hs:Sb w' w.heap.size w.heap.size t b ss') (hk:Kp wr w' w.heap.size t b):RS w w' t b img ss' vt T vr R:=
 ⟨h.ws.add hs hk,hk.bt h.tx,hk.bt h.rw_,h.sep⟩
theorem RS.laid (h:RS w wr t b img ss vt T vr R) {v':Value} (h1:Bt w' w.heap.size v' R') (h2:Below w.heap.size w w') (h3:Ch wr w' (fun k=>vr.ownBlock=some k)) (h4:∀ k,v'.ownBlock=some k→vr.ownBlock=some k∨wr.heap.size≤k):RS w w' t b img ss vt T v' R':=
 ⟨⟨h2,h3.blk h.ws.box (h.rw_.ne3 h.ws.box (by decide)),h.ws.tab.keep h3 h.rw_.obj⟩,h.tx.ch h3 (fun k hk h5=>h.sep k h5 hk),h1,fun k hk h5=>(h4 k hk).elim (fun h6=>h.sep k h6 h5) (fun h6=>absurd (h.tx.lt h5) (by omega))⟩
theorem RS.call (h:RS w wr t b img ss vt T vr R) (ns:List Int) {cs:Array Value} (e:cs=(nums .i64 ns).toArray) (hl:R.length≤10000000000000) (hn:ns.length≤1000) (n:Nat) (en:n=ns.length) :
  Calls Try.prog 39 #[vr,.slice (some ⟨wr.heap.size,0,none⟩) n n] (wr.alloc (.cells cs 3)) fun e w'=>∃ v':Value,e=.returned v'∧RS w w' t b img ss vt T v' (R ++ ns.flatMap lay4):=by
 have h2:=h.alloc (.cells cs 3)
 refine (laid_ w (wr.alloc (.cells cs 3)) vr R ns wr.heap.size h2.ws.bel h2.rw_ hl (by rw [← e];exact Blk.new wr 3 cs) hn (h2.rw_.ne3 (Blk.new wr 3 cs) (by decide)) n en).mono ?_
 rintro e w' ⟨v',rfl,h3,h4,h5,h6⟩
 exact ⟨v',rfl,h2.laid h3 h4 h5 h6⟩
end
theorem Bt.reads {w:World} {base m c:Nat} {A:Option Addr} {l:List Int} (h:Bt w base (.slice A m c) l) (hl:l.length≤1099511627776):m=l.length∧ReadsInt w .u8 A m l:=by
 obtain ⟨A',c',e⟩:=shape h
 injection e with e1 e2 e3
 subst e2
 refine ⟨rfl,rfl,by omega,fun hp=>?_⟩
 rcases h.2 with ⟨_,h0⟩|⟨g,cap,cur,hv,_⟩
 ·omega
 ·injection hv with e4 _ _
  subst e4
  refine ⟨_,rfl,fun j hj=>?_⟩
  have hc:=h.cells (g:=g) rfl j (.int .u8 (l.getD j 0)) (by simp [nums,List.getD_eq_getElem?_getD,hj])
  exact hc
theorem Bt.row {ops:Array Oper} {rest:List Oper} {o:Oper} {a:Act} {Q:Exit→Act→World→Prop} {w W:World} (hgd:o.guard=none) (sl x:Operand)
  (ho:o.op=.call { callee:=.builtin .append,args:=#[sl,x],argTypes:=#[33,33] }) {v:Value} {l ys:List Int} (hB:Bt W w.heap.size v l) {A:Option Addr} {m c b2:Nat} (hu:Bt W b2 (.slice A m c) ys)
  (hs:a.eval sl=v) (hx:a.eval x=.slice A m c) (hl:l.length+ys.length≤1099511627776) (hw:Below w.heap.size w W)
  (h:∀ v' w',Bt w' w.heap.size v' (l ++ ys)→Below w.heap.size w w'→Ch W w' (fun k=>v.ownBlock=some k)→(∀ k,v'.ownBlock=some k→v.ownBlock=some k∨W.heap.size≤k)→wpList Try.prog ops Q rest (a.put o.dst v') w'):wpList Try.prog ops Q (o :: rest) a W:=by
 have hr:=hu.reads (by omega)
 refine print_append_row w.heap.size hgd sl x 33 5 .u8 1 ho Try.underlying33 info5 (by decide) v l ys A m c hs hx hB hr.2 hw hw.size (by omega) ?_
 intro v1 w1 h1 h2 h3 h4
 refine h v1 w1 h1 h2 (Ch.grown h3) (fun k hk=>?_)
 rcases h4 with e|⟨b,e,hb⟩
 ·exact .inl (e ▸ hk)
 ·rw [e] at hk;cases hk;exact .inr hb
theorem Bt.lower {w:World} {base base':Nat} {v:Value} {l:List Int} (h:Bt w base v l) (hb:base'≤base):Bt w base' v l:=by
 refine ⟨h.1,?_⟩
 rcases h.2 with hn|⟨g,cap,cur,hv,hg,rest⟩
 ·exact .inl hn
 ·exact .inr ⟨g,cap,cur,hv,Nat.le_trans hb hg,rest⟩
theorem putS_le (ss:List ByteArray) (s:ByteArray) (hs:s.size≤64):(putS ss s).length≤ss.length+1∧(tbytes (putS ss s)).length≤(tbytes ss).length+65:=by
 by_cases h:s∈ss
 ·rw [putS_in h];omega
 ·rw [putS_new h,tbytes_snoc,List.length_append,List.length_append,List.length_append,bytesOf_length]
  simp only [List.length_cons,List.length_nil]
  omega
theorem nm_size {s:ByteArray} (h:nm s=true):s.size≤64:=(of_decide_eq_true h).2.1
theorem piece_le {xs:List S54} {fs:List S68} {ts:List S56} (hG:Gd xs fs ts) (f:S68):slots ((xs.take (f.f2+f.f3).toNat).drop f.f2.toNat)≤slots xs:=by
 have h1:=slots_take_le xs (f.f2+f.f3).toNat
 have h2:slots ((xs.take (f.f2+f.f3).toNat).drop f.f2.toNat)≤slots (xs.take (f.f2+f.f3).toNat):=by
  conv=>rhs;rw [← List.take_append_drop f.f2.toNat (xs.take (f.f2+f.f3).toNat),slots_append]
  omega
 omega
section
variable {xs:List S54} {fs:List S68} {ts:List S56} (hG:Gd xs fs ts)
include hG
theorem stF_le:∀ k,k≤fs.length→(stF xs (fs.take k)).1.length≤k∧(tbytes (stF xs (fs.take k)).1).length≤65*k∧(stF xs (fs.take k)).2.1.length≤16*k∧(stF xs (fs.take k)).2.2≤1048576*k
 | 0,_=>by simp [stF,tbytes]
 | k+1,h=>by
  have ih:=stF_le k (by omega)
  have hg:fs[k]?=some fs[k]:=List.getElem?_eq_getElem (by omega)
  rw [stF_next xs fs k _ hg]
  have h1:=putS_le (stF xs (fs.take k)).1 fs[k].f0 (nm_size (hG.fn _ (List.getElem_mem (by omega))))
  have h2:=piece_le hG fs[k]
  have h3:=hG.sl
  unfold stepF
  refine ⟨?_,?_,?_,?_⟩
  ·show (putS _ _).length≤_;omega
  ·show (tbytes (putS _ _)).length≤_;omega
  ·show (List.length (_ ++ _))≤_
   rw [List.length_append,lay4s_length]
   simp only [List.length_cons,List.length_nil]
   omega
  ·show _+slots _≤_;omega
theorem stT_le:∀ k,k≤ts.length→(stT xs fs (ts.take k)).1.length≤4096+k∧(tbytes (stT xs fs (ts.take k)).1).length≤65*(4096+k)∧(stT xs fs (ts.take k)).2.length≤65536+20*k
 | 0,_=>by
  have h:=stF_le hG fs.length (Nat.le_refl _)
  have:=hG.fl
  rw [List.take_length] at h
  show (stF xs fs).1.length≤_∧(tbytes (stF xs fs).1).length≤_∧(stF xs fs).2.1.length≤_
  omega
 | k+1,h=>by
  have ih:=stT_le k (by omega)
  have hg:ts[k]?=some ts[k]:=List.getElem?_eq_getElem (by omega)
  rw [stT_next xs fs ts k _ hg]
  have h1:=putS_le (stT xs fs (ts.take k)).1 ts[k].f0 (nm_size (hG.tn _ (List.getElem_mem (by omega))))
  unfold stepT
  refine ⟨?_,?_,?_⟩
  ·show (putS _ _).length≤_;omega
  ·show (tbytes (putS _ _)).length≤_;omega
  ·show (List.length (_ ++ _))≤_
   rw [List.length_append,lay4s_length]
   simp only [List.length_cons,List.length_nil]
   omega
end
end Go.Proofs.Ytbeikcckcjadbaa.Im
end
section
namespace Go.Proofs.Ytbeikcckcjadbaa.Im
open Go.RowKit Go.Proofs.YtbeikcckcjadbaaW.PrintWords Go.Proofs.Ytbeikcckcjadbaa.PI Go.Proofs.Ytbeikcckcjadbaa.Ln Go.Proofs.Ytbeikcckcjadbaa.Bk Go.ChangeMaps Go.MapKept
attribute [local go_sem] isSome_setCell
theorem write_ok (w:World) (A0 A1 A2:Option Addr) (c0 c1 c2:Nat) (xs:List S54) (fs:List S68) (ts:List S56) (en:Int)
  (h0:Kd.C k54 w A0 xs.length xs) (h1:Kd.C k68 w A1 fs.length fs) (h2:Kd.C k56 w A2 ts.length ts) (l0:xs.length≤c0) (l1:fs.length≤c1) (l2:ts.length≤c2) (hg:∀ f∈fs,FitF f)
  (hr:RefIs xs fs ts en 0 0) (hG:Gd xs fs ts) :
  Calls Try.prog 15 #[.agg #[.slice A0 xs.length c0,.slice A1 fs.length c1,.slice A2 ts.length c2,.int .i64 en]] w fun e w'=>∃ v:Value,e=.returned (.tuple #[v,.int .i64 0,.int .i64 0])∧Bt w' w.heap.size v (wrB xs fs ts en)∧Below w.heap.size w w':=by
 have hxl:xs.length≤1048576:=Nat.le_trans (slots_le xs).1 hG.sl
 have hsl:=hG.sl
 have hfl:=hG.fl
 have htl:=hG.tl
 have HG:=Lib.hid hG
 have HC0:=Lib.hid h0
 have HC1:=Lib.hid h1
 have HC2:=Lib.hid h2
 have HGF:=Lib.hid hg
 have HRF:=Lib.hid hr
 clear hG h0 h1 h2 hg hr
 go_enter Try.func15,Try.ntmps15
 refine wp_seq_k (fun K hK=>?_)
 have HK:=Lib.hid hK
 clear hK
 go_wp2
 refine HK.out _ _ ?_
 clear HK
 obtain ⟨img,himg⟩:∃ img:Array Value,img=#[.slice A0 xs.length c0,.slice A1 fs.length c1,.slice A2 ts.length c2,.int .i64 en]:=⟨_,rfl⟩
 have HB0:=Lib.hid (bdA (Below.refl w.heap.size w) (.cells #[.slice A0 xs.length c0,.slice A1 fs.length c1,.slice A2 ts.length c2,.int .i64 en] 26))
 have HX0:=Lib.hid (show Blk (w.alloc (.cells #[.slice A0 xs.length c0,.slice A1 fs.length c1,.slice A2 ts.length c2,.int .i64 en] 26)) w.heap.size 26 img from himg ▸ Blk.new w 26 _)
 generalize w.alloc (.cells #[.slice A0 xs.length c0,.slice A1 fs.length c1,.slice A2 ts.length c2,.int .i64 en] 26)=w1 at HB0 HX0 ⊢
 refine wp_seq_k (fun K hK=>?_)
 have HK:=Lib.hid hK
 clear hK
 have c_0:=HX0.out.cell 0
 have c_1:=HX0.out.cell 1
 have c_2:=HX0.out.cell 2
 have c_3:=HX0.out.cell 3
 simp only [himg,List.getElem?_toArray,List.getElem?_cons_zero,List.getElem?_cons_succ] at c_0 c_1 c_2 c_3
 go_wp2_with (go_at_call 14;refine (chk_ w1 A0 A1 A2 c0 c1 c2 xs fs ts en 0 0 (Kd.CbW HC0.out HB0.out) (Kd.CbW HC1.out HB0.out) (Kd.CbW HC2.out HB0.out) l0 l1 l2 HGF.out (by omega) (by omega) (by omega) HRF.out).mono ?_;rintro e w2 ⟨rfl,hb2⟩;have HB2:=Lib.hid hb2;clear hb2)
 refine HK.out _ _ ?_
 clear HK c_0 c_1 c_2 c_3
 have HB1:=Lib.hid (bdT HB0.out HB2.out)
 have HX1:=Lib.hid ((Ch.below HB2.out (fun _=>False)).blk HX0.out (fun h=>h))
 clear HB0 HX0 HB2
 refine wp_seq_k (fun K hK=>?_)
 have HK:=Lib.hid hK
 clear hK
 go_wp2_with (go_at_call 35;refine (new_ w2 w.heap.size HB1.out.size).mono ?_;rintro e w3 ⟨t,b,rfl,hT,hb3,ht,hbb⟩;have HT:=Lib.hid hT;have HB3:=Lib.hid hb3;clear hT hb3)
 refine HK.out _ _ ?_
 clear HK
 have HW:=Lib.hid (show WS w w3 t b img [] from ⟨bdT HB1.out HB3.out,(Ch.below HB3.out (fun _=>False)).blk HX1.out (fun h=>h),⟨nilS,nilS,[],[],HT.out,rfl,Nam.nil,fun k hk=>by rcases hk with rfl|rfl|hk|hk <;> first|exact .inl rfl|exact .inr (.inl rfl)|exact absurd hk (by simp [nilS,Value.ownBlock])⟩⟩)
 clear HB1 HX1 HT HB3 ht hbb
 refine wp_seq_k (fun K hK=>?_)
 have HK:=Lib.hid hK
 clear hK
 go_wp2
 refine HK.out _ _ ?_
 clear HK
 refine wp_seq_k (fun KL hKL=>?_)
 have HKL:=Lib.hid hKL
 clear hKL
 have c_0:=HW.out.box.cell 0
 simp only [himg,List.getElem?_toArray,List.getElem?_cons_zero,List.getElem?_cons_succ] at c_0
 go_wp2
 clear c_0
 go_loopw [8,38] (fun vt iv wr=>∃ k:Nat,k≤xs.length∧iv=.int .i64 (k:Int)∧Hid (WS w wr t b img [])∧Hid (Bt wr w.heap.size vt (texB (xs.take k)))) (fun _ iv _=>xs.length - (RowKit.intOf iv).toNat)
 case atStart=>exact ⟨0,Nat.zero_le _,rfl,HW,Lib.hid (Bt.nil _ _)⟩
 case round =>
  obtain ⟨k,hk,rfl,HWr,HT⟩:=hrel
  clear HW
  by_cases hlt:k<xs.length
  ·obtain ⟨ad,rfl,hx0,hx1,hx2,hx3,hx4⟩:=at_T54 HC0.out (k:Int) (Int.natCast_nonneg k) (by exact_mod_cast hlt)
   simp only [Int.toNat_natCast] at hx0 hx1 hx2 hx3 hx4
   obtain ⟨i,ei⟩:∃ i,i=rd_T54 xs (k:Int):=⟨_,rfl⟩
   have hxk:xs[k]?=some i:=by rw [ei];unfold rd_T54;rw [Int.toNat_natCast,List.getD_eq_getElem?_getD,List.getElem?_eq_getElem hlt];rfl
   rw [← ei] at hx0 hx1 hx2 hx3 hx4
   have d0:=(HWr.out.bel.cell (World.block_lt_of_cell? w _ hx0)).trans hx0
   have d1:=(HWr.out.bel.cell (World.block_lt_of_cell? w _ hx1)).trans hx1
   have d2:=(HWr.out.bel.cell (World.block_lt_of_cell? w _ hx2)).trans hx2
   have d3:=(HWr.out.bel.cell (World.block_lt_of_cell? w _ hx3)).trans hx3
   have d4:=(HWr.out.bel.cell (World.block_lt_of_cell? w _ hx4)).trans hx4
   have hnx:=Lib.hid (texB_next xs k i hxk)
   have hle:(texB (xs.take k)).length≤8388608:=by rw [texB_length];have:=slots_take_le xs k;omega
   clear hx0 hx1 hx2 hx3 hx4 ei hxk
   go_wp2_with (go_at_call 36;refine (insn_ w _ u8 (texB (xs.take k)) i (HWr.out.alloc _).bel (HT.out.ch ((Ch.refl wr (fun _=>False)).alloc _) (fun _ _ h=>h)) (by omega)).mono ?_;rintro e w4 ⟨v',rfl,hg1,hg2,hg3,hg4⟩;have HW4:=Lib.hid ((HWr.out.alloc _).grew (HT.out.ch ((Ch.refl wr (fun _=>False)).alloc _) (fun _ _ h=>h)) ⟨v',rfl,hg1,hg2,hg3,hg4⟩);have HT4:=Lib.hid hg1;clear hg1 hg2 hg3 hg4)
   go_roundw
   case rel=>exact ⟨k+1,by omega,by go_num,HW4,by rw [hnx.out];exact HT4⟩
   case measure=>simp [RowKit.intOf];omega
  ·obtain rfl:k=xs.length:=by omega
   go_wp2
   refine HKL.out _ _ ?_
   clear HKL
   rw [List.take_length] at HT
   have HR0:=Lib.hid (show RS w wr t b img [] u8 (texB xs) (.slice none 0 0) [] from ⟨HWr.out,HT.out,Bt.nil _ _,fun k hk=>absurd hk (by simp [Value.ownBlock])⟩)
   clear HWr HT
   refine wp_seq_k (fun K hK=>?_)
   have HK:=Lib.hid hK
   clear hK
   go_wp2
   refine HK.out _ _ ?_
   clear HK
   refine wp_seq_k (fun KF hKF=>?_)
   have HKF:=Lib.hid hKF
   clear hKF
   have c_0:=HR0.out.ws.box.cell 1
   simp only [himg,List.getElem?_toArray,List.getElem?_cons_zero,List.getElem?_cons_succ] at c_0
   go_wp2
   clear c_0
   go_loopw [9,12,49] (fun vr va iv wq=>∃ k:Nat,k≤fs.length∧iv=.int .i64 (k:Int)∧va=.int .i64 (((stF xs (fs.take k)).2.2:Nat):Int)∧Hid (RS w wq t b img (stF xs (fs.take k)).1 u8 (texB xs) vr (stF xs (fs.take k)).2.1)) (fun _ _ iv _=>fs.length - (RowKit.intOf iv).toNat)
   case atStart=>exact ⟨0,Nat.zero_le _,rfl,rfl,HR0⟩
   case round =>
    obtain ⟨k,hk,rfl,rfl,HR⟩:=hrel
    clear HR0
    by_cases hlt:k<fs.length
    ·obtain ⟨ad,rfl,hx0,hx1,hx2,hx3⟩:=at_T68 HC1.out (k:Int) (Int.natCast_nonneg k) (by exact_mod_cast hlt)
     simp only [Int.toNat_natCast] at hx0 hx1 hx2 hx3
     obtain ⟨f,ef⟩:∃ f,f=rd_T68 fs (k:Int):=⟨_,rfl⟩
     have hfk:fs[k]?=some f:=by rw [ef];unfold rd_T68;rw [Int.toNat_natCast,List.getD_eq_getElem?_getD,List.getElem?_eq_getElem hlt];rfl
     have hfm:f∈fs:=List.mem_of_getElem? hfk
     rw [← ef] at hx0 hx1 hx2 hx3
     have d0:=(HR.out.ws.bel.cell (World.block_lt_of_cell? w _ hx0)).trans hx0
     have d1:=(HR.out.ws.bel.cell (World.block_lt_of_cell? w _ hx1)).trans hx1
     have d2:=(HR.out.ws.bel.cell (World.block_lt_of_cell? w _ hx2)).trans hx2
     have d3:=(HR.out.ws.bel.cell (World.block_lt_of_cell? w _ hx3)).trans hx3
     have HNM:=Lib.hid (HG.out.fn f hfm)
     obtain ⟨q0,q1,q2⟩:=HG.out.cut f hfm
     obtain ⟨b1,b2,b3,b4⟩:=stF_le HG.out k hk
     have hnx:=Lib.hid (stF_next xs fs k f hfk)
     have hpl:=piece_le HG.out f
     obtain ⟨i54,hi54,hz0,hz1,hz2⟩:=info_parts PI.info54
     have hsl0:=cut_mid (P:=Try.prog) 22 54 .i64 .i64 Try.underlying22 hi54 5 hz1 A0 xs.length c0 f.f2 (f.f2+f.f3) q0 (by omega) (by omega) l0
     have hCm:=fun W (h:Kd.C k54 W A0 xs.length xs)=>Kd.C_mid (lo:=f.f2.toNat) (hi:=(f.f2+f.f3).toNat) (c:=c0) h (by omega) (by omega) l0
     have hyl:((xs.take (f.f2+f.f3).toNat).drop f.f2.toNat).length=(f.f2+f.f3).toNat - f.f2.toNat:=by rw [List.length_drop,List.length_take];omega
     rw [← hyl] at hsl0
     have hw:wrap64 (f.f2+f.f3)=f.f2+f.f3:=w64 _ (by omega) (by omega)
     change ∀ W,Kd.C k54 W A0 xs.length xs→Kd.C k54 W (if c0=f.f2.toNat then A0 else A0.map (·.add (f.f2.toNat*5))) _ _ at hCm
     obtain ⟨ys,eys⟩:∃ ys,ys=(xs.take (f.f2+f.f3).toNat).drop f.f2.toNat:=⟨_,rfl⟩
     obtain ⟨AM,eAM⟩:∃ AM,AM=(if c0=f.f2.toNat then A0 else A0.map (·.add (f.f2.toNat*5))):=⟨_,rfl⟩
     rw [← eys,← eAM] at hsl0 hCm
     have hsl1:=hsl0
     rw [← hw] at hsl0
     clear hw
     rw [← eys] at hyl hpl
     have HCM:=Lib.hid hCm
     have HSTEP:=Lib.hid eys
     clear hx0 hx1 hx2 hx3 ef hfm hfk hCm eys eAM hi54 hz0 hz1 hz2
     refine wp_seq_k (fun K hK=>?_)
     have HK:=Lib.hid hK
     clear hK
     go_wp2
     refine HK.out _ _ ?_
     clear HK
     refine wp_seq_k (fun K hK=>?_)
     have HK:=Lib.hid hK
     clear hK
     go_wp2
     refine HK.out _ _ ?_
     clear HK
     refine wp_seq_k (fun KB hKB=>?_)
     have HKB:=Lib.hid hKB
     clear hKB
     refine wp_block ?_
     refine wp_seq_k (fun K hK=>?_)
     have HK:=Lib.hid hK
     clear hK
     go_wp2
     refine HK.out _ _ ?_
     clear HK d0 d1 d2 d3
     have HR1:=Lib.hid (HR.out.alloc (.cells #[.string f.f0,.int .i64 f.f1,.int .i64 f.f2,.int .i64 f.f3] 68))
     have HFb:=Lib.hid (Blk.new wr 68 #[.string f.f0,.int .i64 f.f1,.int .i64 f.f2,.int .i64 f.f3])
     clear HR
     generalize wr.alloc (.cells #[.string f.f0,.int .i64 f.f1,.int .i64 f.f2,.int .i64 f.f3] 68)=wa at HR1 HFb ⊢
     generalize wr.heap.size=gf at HFb ⊢
     refine wp_seq_k (fun K hK=>?_)
     have HK:=Lib.hid hK
     clear hK
     have c_0:=HR1.out.ws.box.cell 0
     have c_2:=HFb.out.cell 2
     have c_3:=HFb.out.cell 3
     simp only [himg,List.getElem?_toArray,List.getElem?_cons_zero,List.getElem?_cons_succ] at c_0 c_2 c_3
     have hyl1:ys.length≤c0 - f.f2.toNat:=by omega
     have hyl2:ys.length≤1152921504606846976:=by omega
     have HL:=Lib.hid (image_length.calls (ys.length+1) AM (c0 - f.f2.toNat) ys _ wa (HCM.out wa (Kd.CbW HC0.out HR1.out.ws.bel)) hyl1 (length_f ys hyl2 _ (Nat.lt_succ_self _)))
     have HBD:=Lib.hid (And.intro hk (And.intro b1 (And.intro b2 (And.intro b3 b4))))
     have HSL:=Lib.hid (show slots ys≤1048576 by omega)
     clear b1 b2 b3 b4 hpl hyl hyl1 hyl2
     go_wp2_with (go_at_call 37;refine HL.out.mono ?_;rintro e wb ⟨rfl,hb2⟩;have HB2:=Lib.hid hb2;clear hb2)
     refine HK.out _ _ ?_
     clear HK c_0 c_2 c_3 hsl0 hsl1
     have HR2:=Lib.hid (HR1.out.below HB2.out)
     have HFb2:=Lib.hid ((Ch.below HB2.out (fun _=>False)).blk HFb.out (fun h=>h))
     clear HR1 HFb HB2
     refine wp_seq_k (fun K hK=>?_)
     have HK:=Lib.hid hK
     clear hK
     have c_0:=HFb2.out.cell 0
     simp only [List.getElem?_toArray,List.getElem?_cons_zero,List.getElem?_cons_succ] at c_0
     go_wp2_with (go_at_call 38;refine (add_ wb w.heap.size w.heap.size t b _ f.f0 HR2.out.ws.tab HNM.out (by have:=HBD.out;omega) (by have:=HBD.out;omega) HR2.out.ws.bel.size HR2.out.ws.bel.size).mono ?_;rintro e wc ⟨rfl,hsb,hkp⟩;have HSB:=Lib.hid hsb;have HKP:=Lib.hid hkp;clear hsb hkp)
     refine HK.out _ _ ?_
     clear HK c_0
     have HR3:=Lib.hid (HR2.out.add HSB.out HKP.out)
     have HFb3:=Lib.hid (HKP.out.blk (.inr (.inr (.inl rfl))) HFb2.out)
     clear HR2 HFb2 HSB HKP
     refine wp_seq_k (fun K hK=>?_)
     have HK:=Lib.hid hK
     clear hK
     have c_0:=HFb3.out.cell 1
     simp only [List.getElem?_toArray,List.getElem?_cons_zero,List.getElem?_cons_succ] at c_0
     have HL3:=Lib.hid (HR3.out.call [plcF 1 (stF xs (fs.take k)).1 f.f0,f.f1,((stF xs (fs.take k)).2.2:Nat),(slots ys:Nat)] (cs:=#[.int .i64 (plcF 1 (stF xs (fs.take k)).1 f.f0),.int .i64 f.f1,.int .i64 ((stF xs (fs.take k)).2.2:Nat),.int .i64 (slots ys:Nat)]) rfl (by have:=HBD.out;omega) (by simp) 4 rfl)
     go_wp2_with (go_at_call 39;refine HL3.out.mono ?_;rintro e wd ⟨v',rfl,hg⟩;have HR4:=Lib.hid hg;clear hg)
     refine HK.out _ _ ?_
     clear HK c_0 HL3 HR3 HFb3
     have hat:wrap64 (((stF xs (fs.take k)).2.2:Nat)+(slots ys:Nat))=(((stF xs (fs.take (k+1))).2.2:Nat):Int):=by
      rw [hnx.out]
      have:=HBD.out
      have:=HSL.out
      unfold stepF
      rw [← HSTEP.out,w64 _ (by omega) (by omega)]
      exact (Int.natCast_add _ _).symm
     go_wp2
     refine HKB.out _ _ ?_
     clear HKB
     go_wp2
     go_roundw
     case rel=>exact ⟨k+1,by omega,by go_num,by rw [← hat],by rw [hnx.out];unfold stepF;rw [← HSTEP.out];exact HR4⟩
     case measure=>simp [RowKit.intOf];omega
    ·obtain rfl:k=fs.length:=by omega
     go_wp2
     refine HKF.out _ _ ?_
     clear HKF
     rw [List.take_length] at HR
     generalize Value.int .i64 (((stF xs (fs.take fs.length)).2.2:Nat):Int)=v12
     have HT0:=Lib.hid (show RS w wr t b img (stT xs fs (ts.take 0)).1 u8 (texB xs) u9 (stT xs fs (ts.take 0)).2 from HR.out)
     clear HR
     refine wp_seq_k (fun KT hKT=>?_)
     have HKT:=Lib.hid hKT
     clear hKT
     have c_0:=HT0.out.ws.box.cell 2
     simp only [himg,List.getElem?_toArray,List.getElem?_cons_zero,List.getElem?_cons_succ] at c_0
     go_wp2
     clear c_0
     go_loopw [9,86] (fun vr iv wq=>∃ k:Nat,k≤ts.length∧iv=.int .i64 (k:Int)∧Hid (RS w wq t b img (stT xs fs (ts.take k)).1 u8 (texB xs) vr (stT xs fs (ts.take k)).2)) (fun _ iv _=>ts.length - (RowKit.intOf iv).toNat)
     case atStart=>exact ⟨0,Nat.zero_le _,rfl,HT0⟩
     case round =>
      obtain ⟨k,hk,rfl,HR⟩:=hrel
      clear HT0
      by_cases hlt:k<ts.length
      ·obtain ⟨ad,rfl,hx0,hx1,hx2,hx3,hx4⟩:=at_T56 HC2.out (k:Int) (Int.natCast_nonneg k) (by exact_mod_cast hlt)
       simp only [Int.toNat_natCast] at hx0 hx1 hx2 hx3 hx4
       obtain ⟨f,ef⟩:∃ f,f=rd_T56 ts (k:Int):=⟨_,rfl⟩
       have hfk:ts[k]?=some f:=by rw [ef];unfold rd_T56;rw [Int.toNat_natCast,List.getD_eq_getElem?_getD,List.getElem?_eq_getElem hlt];rfl
       have hfm:f∈ts:=List.mem_of_getElem? hfk
       rw [← ef] at hx0 hx1 hx2 hx3 hx4
       have d0:=(HR.out.ws.bel.cell (World.block_lt_of_cell? w _ hx0)).trans hx0
       have d1:=(HR.out.ws.bel.cell (World.block_lt_of_cell? w _ hx1)).trans hx1
       have d2:=(HR.out.ws.bel.cell (World.block_lt_of_cell? w _ hx2)).trans hx2
       have d3:=(HR.out.ws.bel.cell (World.block_lt_of_cell? w _ hx3)).trans hx3
       have d4:=(HR.out.ws.bel.cell (World.block_lt_of_cell? w _ hx4)).trans hx4
       have HNM:=Lib.hid (HG.out.tn f hfm)
       have HBD:=Lib.hid (And.intro hk (stT_le HG.out k hk))
       have hnx:=Lib.hid (stT_next xs fs ts k f hfk)
       clear hx0 hx1 hx2 hx3 hx4 ef hfm hfk
       refine wp_seq_k (fun K hK=>?_)
       have HK:=Lib.hid hK
       clear hK
       go_wp2
       refine HK.out _ _ ?_
       clear HK
       refine wp_seq_k (fun K hK=>?_)
       have HK:=Lib.hid hK
       clear hK
       go_wp2
       refine HK.out _ _ ?_
       clear HK
       refine wp_seq_k (fun KB hKB=>?_)
       have HKB:=Lib.hid hKB
       clear hKB
       refine wp_block ?_
       refine wp_seq_k (fun K hK=>?_)
       have HK:=Lib.hid hK
       clear hK
       go_wp2
       refine HK.out _ _ ?_
       clear HK d0 d1 d2 d3 d4
       have HR1:=Lib.hid (HR.out.alloc (.cells #[.string f.f0,.int .i64 f.f1,.int .i64 f.f2,.int .i64 f.f3,.int .i64 f.f4] 56))
       have HFb:=Lib.hid (Blk.new wr 56 #[.string f.f0,.int .i64 f.f1,.int .i64 f.f2,.int .i64 f.f3,.int .i64 f.f4])
       clear HR
       generalize wr.alloc (.cells #[.string f.f0,.int .i64 f.f1,.int .i64 f.f2,.int .i64 f.f3,.int .i64 f.f4] 56)=wa at HR1 HFb ⊢
       generalize wr.heap.size=gf at HFb ⊢
       refine wp_seq_k (fun K hK=>?_)
       have HK:=Lib.hid hK
       clear hK
       have c_0:=HFb.out.cell 0
       simp only [List.getElem?_toArray,List.getElem?_cons_zero,List.getElem?_cons_succ] at c_0
       go_wp2_with (go_at_call 38;refine (add_ wa w.heap.size w.heap.size t b _ f.f0 HR1.out.ws.tab HNM.out (by have:=HBD.out;omega) (by have:=HBD.out;omega) HR1.out.ws.bel.size HR1.out.ws.bel.size).mono ?_;rintro e wc ⟨rfl,hsb,hkp⟩;have HSB:=Lib.hid hsb;have HKP:=Lib.hid hkp;clear hsb hkp)
       refine HK.out _ _ ?_
       clear HK c_0
       have HR3:=Lib.hid (HR1.out.add HSB.out HKP.out)
       have HFb3:=Lib.hid (HKP.out.blk (.inr (.inr (.inr rfl))) HFb.out)
       clear HR1 HFb HSB HKP
       have c_1:=HFb3.out.cell 1
       have c_2:=HFb3.out.cell 2
       have c_3:=HFb3.out.cell 3
       have c_4:=HFb3.out.cell 4
       simp only [List.getElem?_toArray,List.getElem?_cons_zero,List.getElem?_cons_succ] at c_1 c_2 c_3 c_4
       have HL3:=Lib.hid (HR3.out.call [plcF 1 (stT xs fs (ts.take k)).1 f.f0,f.f1,f.f2,f.f3,f.f4] (cs:=#[.int .i64 (plcF 1 (stT xs fs (ts.take k)).1 f.f0),.int .i64 f.f1,.int .i64 f.f2,.int .i64 f.f3,.int .i64 f.f4]) rfl (by have:=HBD.out;omega) (by simp) 5 rfl)
       go_wp2_with (go_at_call 39;refine HL3.out.mono ?_;rintro e wd ⟨v',rfl,hg⟩;have HR4:=Lib.hid hg;clear hg)
       refine HKB.out _ _ ?_
       clear HKB c_1 c_2 c_3 c_4 HL3 HR3 HFb3
       go_wp2
       go_roundw
       case rel=>exact ⟨k+1,by omega,by go_num,by rw [hnx.out];exact HR4⟩
       case measure=>simp [RowKit.intOf];omega
      ·obtain rfl:k=ts.length:=by omega
       go_wp2
       refine HKT.out _ _ ?_
       clear HKT
       rw [List.take_length] at HR
       have HBD:=Lib.hid (stT_le HG.out ts.length (Nat.le_refl _))
       rw [List.take_length] at HBD
       refine wp_seq_k (fun K hK=>?_)
       have HK:=Lib.hid hK
       clear hK
       go_wp2_with (go_at_call 40;refine (bytesSb_ wr w.heap.size w.heap.size t b _ HR.out.ws.tab (by have:=HBD.out;omega) (by have:=HBD.out;omega)).mono ?_;rintro e wd ⟨v3,rfl,hg3,hb3⟩;have HV3:=Lib.hid hg3;have HB3:=Lib.hid hb3;clear hg3 hb3)
       refine HK.out _ _ ?_
       clear HK
       have HR2:=Lib.hid (HR.out.below HB3.out)
       have HS3:=Lib.hid (show (∀ k,v3.ownBlock=some k→¬ u9.ownBlock=some k) from fun k hk h5=>absurd (HR.out.rw_.lt h5) (by have:=own_base HV3.out k hk;omega))
       have HV:=Lib.hid (HV3.out.lower HR.out.ws.bel.size)
       clear HR HV3 HB3
       obtain ⟨A8,k8,e8⟩:=shape HR2.out.tx
       obtain ⟨A9,k9,e9⟩:=shape HR2.out.rw_
       obtain ⟨A3,k3,e3⟩:=shape HV.out
       rw [texB_length] at e8
       have c_1:=HR2.out.ws.box.cell 1
       have c_2:=HR2.out.ws.box.cell 2
       have c_3:=HR2.out.ws.box.cell 3
       simp only [himg,List.getElem?_toArray,List.getElem?_cons_zero,List.getElem?_cons_succ] at c_1 c_2 c_3
       subst e8 e9 e3
       refine wp_seq_k (fun K hK=>?_)
       have HK:=Lib.hid hK
       clear hK
       have HL:=Lib.hid (laid_ w (wd.alloc (.cells #[.int .i64 1313427539,.int .i64 1,.int .i64 (slots xs:Nat),.int .i64 fs.length,.int .i64 ts.length,.int .i64 (((tbytes (stT xs fs ts).1).length:Nat)+1),.int .i64 en] 3)) (.slice none 0 0) [] [1313427539,1,((slots xs:Nat):Int),(fs.length:Int),(ts.length:Int),(((tbytes (stT xs fs ts).1).length:Nat):Int)+1,en] wd.heap.size (HR2.out.alloc _).ws.bel (Bt.nil _ _) (by simp) (Blk.new wd 3 _) (by simp) (by simp [Value.ownBlock]) 7 rfl)
       go_wp2_with (go_at_call 39;refine HL.out.mono ?_;rintro e we ⟨v4,rfl,hg1,hg2,hg3,hg4⟩;have HV4:=Lib.hid hg1;have HB4:=Lib.hid hg2;have HC4:=Lib.hid hg3;have HO4:=Lib.hid hg4;clear hg1 hg2 hg3 hg4)
       refine HK.out _ _ ?_
       clear HK c_1 c_2 c_3 HL
       have hS:∀ k,¬ ((Value.slice none 0 0).ownBlock=some k):=fun k=>by simp [Value.ownBlock]
       have HT4:=Lib.hid ((HR2.out.alloc _).tx.ch HC4.out (fun k _ h=>hS k h))
       have HW4:=Lib.hid ((HR2.out.alloc _).rw_.ch HC4.out (fun k _ h=>hS k h))
       have HX4:=Lib.hid ((HV.out.ch ((Ch.refl wd (fun _=>False)).alloc _) (fun _ _ h=>h)).ch HC4.out (fun k _ h=>hS k h))
       have hNew:∀ (u:Value) (l:List Int),Bt wd w.heap.size u l→∀ k,u.ownBlock=some k→¬ v4.ownBlock=some k:=fun u l hu k hk h4=>(HO4.out k h4).elim (fun h=>hS k h) (fun h=>absurd (hu.lt hk) (by rw [World.size_alloc] at h;omega))
       have HN9:=Lib.hid (hNew _ _ HR2.out.rw_)
       have HN3:=Lib.hid (hNew _ _ HV.out)
       have hlen:(texB xs).length≤8388608∧(stT xs fs ts).2.length≤1000000∧(0 :: tbytes (stT xs fs ts).1).length≤1000000∧(([1313427539,1,((slots xs:Nat):Int),(fs.length:Int),(ts.length:Int),(((tbytes (stT xs fs ts).1).length:Nat):Int)+1,en]:List Int).flatMap lay4).length≤28:=by
        have:=HBD.out
        refine ⟨by rw [texB_length];omega,by omega,by rw [List.length_cons];omega,?_⟩
        rw [lay4s_length]
        simp
       have HLN:=Lib.hid hlen
       clear hlen hNew hS HR2 HV HC4 HO4
       generalize hh:([1313427539,1,((slots xs:Nat):Int),(fs.length:Int),(ts.length:Int),(((tbytes (stT xs fs ts).1).length:Nat):Int)+1,en]:List Int).flatMap lay4=hd at HV4 HLN
       have HHD:=Lib.hid hh
       clear hh
       go_wp2_with (at_builtin;refine Bt.row rfl _ _ rfl HV4.out HT4.out rfl rfl ?q1 HB4.out ?_)
       case q1=>have:=HLN.out;simp only [List.nil_append];omega
       intro v5 wf hg1 hb1 hc1 ho1
       have HV5:=Lib.hid hg1
       have HB5:=Lib.hid hb1
       have HW5:=Lib.hid (HW4.out.ch hc1 HN9.out)
       have HX5:=Lib.hid (HX4.out.ch hc1 HN3.out)
       have HN5:=Lib.hid (show (∀ k,(Value.slice A3 (0 :: tbytes (stT xs fs ts).1).length k3).ownBlock=some k→¬ v5.ownBlock=some k) from fun k hk h5=>(ho1 k h5).elim (fun h=>HN3.out k hk h) (fun h=>absurd (HX4.out.lt hk) (by omega)))
       clear hg1 hb1 hc1 ho1 HV4 HT4 HB4 HW4 HX4 HN9 HN3
       go_wp2_with (at_builtin;refine Bt.row rfl _ _ rfl HV5.out HW5.out rfl rfl ?q1 HB5.out ?_)
       case q1=>have:=HLN.out;simp only [List.nil_append,List.length_append];omega
       intro v6 wg hg1 hb1 hc1 ho1
       have HV6:=Lib.hid hg1
       have HB6:=Lib.hid hb1
       have HX6:=Lib.hid (HX5.out.ch hc1 HN5.out)
       clear hg1 hb1 hc1 ho1 HV5 HB5 HW5 HX5 HN5
       go_wp2_with (at_builtin;refine Bt.row rfl _ _ rfl HV6.out HX6.out rfl rfl ?q1 HB6.out ?_)
       case q1=>have:=HLN.out;simp only [List.nil_append,List.length_append];omega
       intro v7 wh hg1 hb1 hc1 ho1
       go_wp2
       go_ret3
       refine ⟨v7,rfl,?_,hb1⟩
       unfold wrB headB
       rw [show (((0 :: tbytes (stT xs fs ts).1).length:Nat):Int)=(((tbytes (stT xs fs ts).1).length:Nat):Int)+1 from by rw [List.length_cons];omega,HHD.out]
       exact hg1
end Go.Proofs.Ytbeikcckcjadbaa.Im
end
section
namespace Go.Proofs.Ytbeikcckcjadbaa.Im
open Go.RowKit Go.Proofs.YtbeikcckcjadbaaW.PrintWords Go.Proofs.Ytbeikcckcjadbaa.PI Go.Proofs.Ytbeikcckcjadbaa.Ln Go.Proofs.Ytbeikcckcjadbaa.Bk Go.ChangeMaps Go.MapKept
attribute [local go_sem] isSome_setCell
theorem cut_of (xs:List S54) (fs:List S68) (hx:xs.length≤1152921504606846976):∀ (d i:Nat) (a:Int),i+d=fs.length→0≤a→a≤xs.length→(cutE xs fs d i a).2=false→∀ j,i≤j→(hj:j<fs.length)→0≤fs[j].f2∧0≤fs[j].f3∧fs[j].f2+fs[j].f3≤(xs.length:Int)
 | 0,i,a,h,h0,h1,hc,j,hij,hj=>by omega
 | d+1,i,a,h,h0,h1,hc,j,hij,hj=>by
  have e:rd_T68 fs (i:Int)=fs[i]'(by omega):=by unfold rd_T68;simp [List.getD_eq_getElem?_getD,show i<fs.length from by omega]
  unfold cutE at hc
  rw [e] at hc
  split at hc
  ·rename_i h2
   split at hc
   ·cases hc
   ·rename_i h3
    split at hc
    ·cases hc
    ·rename_i h4
     rw [w64 _ (by omega) (by omega)] at h4
     by_cases hij2:i=j
     ·subst hij2
      omega
     ·rw [w64 _ (by omega) (by omega)] at hc
      exact cut_of xs fs hx d (i+1) _ (by omega) (by omega) (by omega) hc j (by omega) hj
  ·cases hc
theorem gd_of (xs:List S54) (fs:List S68) (ts:List S56) (en r1:Int) (hx:xs.length≤1152921504606846976) (hf:fs.length≤4611686018427387904) (ht:ts.length≤4611686018427387904) (hr:RefIs xs fs ts en r1 0):Gd xs fs ts∧r1=0:=by
 obtain ⟨nk,nb,hb⟩:=bad_ex fs ts
 have h:=(ref_chk xs fs ts en (by omega) hf ht nk nb (.inr hb)).inj hr
 unfold chkv at h
 by_cases hm:(manyE xs fs ts).2=true
 ·rw [if_pos hm] at h;exact absurd h.2 (by simp)
 rw [if_neg hm] at h
 by_cases hn:nb=true
 ·rw [if_pos (show (nk,nb).2=true from hn)] at h;exact absurd h.2 (by simp)
 rw [if_neg (show ¬ (nk,nb).2=true from hn)] at h
 by_cases hu:(cutE xs fs fs.length 0 0).2=true
 ·rw [if_pos hu] at h;exact absurd h.2 (by simp)
 rw [if_neg hu] at h
 have h1:r1=0:=by
  repeat' split at h
  all_goals first|exact h.1.symm|exact absurd h.2 (by simp)
 refine ⟨?_,h1⟩
 have hnames:(∀ j,j<fs.length→okF fs j)∧∀ j,j<ts.length→okT ts j:=by
  rcases hb with ⟨_,_,_,_,_,h⟩|⟨_,_,_,_,_,_,h⟩|⟨h1,h2,_,_⟩
  ·exact absurd h hn
  ·exact absurd h hn
  ·exact ⟨h1,h2⟩
 have hc:=cut_of xs fs hx fs.length 0 0 (by omega) (by omega) (by omega) (by simpa using hu)
 have hsl:=slE_all xs hx
 unfold manyE at hm
 rw [hsl] at hm
 split at hm
 ·exact absurd rfl hm
 split at hm
 ·exact absurd rfl hm
 split at hm
 ·exact absurd rfl hm
 refine ⟨fun f hf=>?_,fun d hd=>?_,fun f hf=>?_,by omega,by omega,by omega⟩
 ·obtain ⟨j,hj,rfl⟩:=List.mem_iff_getElem.1 hf
  have:=(hnames.1 j hj).1
  rwa [show rd_T68 fs (j:Int)=fs[j] from by unfold rd_T68;simp [List.getD_eq_getElem?_getD,hj]] at this
 ·obtain ⟨j,hj,rfl⟩:=List.mem_iff_getElem.1 hd
  have:=(hnames.2 j hj).1
  rwa [show rd_T56 ts (j:Int)=ts[j] from by unfold rd_T56;simp [List.getD_eq_getElem?_getD,hj]] at this
 ·obtain ⟨j,hj,rfl⟩:=List.mem_iff_getElem.1 hf
  exact hc j (Nat.zero_le _) hj
theorem write_bad (w:World) (A0 A1 A2:Option Addr) (c0 c1 c2:Nat) (xs:List S54) (fs:List S68) (ts:List S56) (en r1 r2:Int)
  (h0:Kd.C k54 w A0 xs.length xs) (h1:Kd.C k68 w A1 fs.length fs) (h2:Kd.C k56 w A2 ts.length ts) (l0:xs.length≤c0) (l1:fs.length≤c1) (l2:ts.length≤c2) (hg:∀ f∈fs,FitF f) (hx:xs.length≤4611686018427387904) (hf:fs.length≤4611686018427387904) (ht:ts.length≤4611686018427387904)
  (hr:RefIs xs fs ts en r1 r2) (hne:¬ r2=0) :
  Calls Try.prog 15 #[.agg #[.slice A0 xs.length c0,.slice A1 fs.length c1,.slice A2 ts.length c2,.int .i64 en]] w fun e w'=>e=.returned (.tuple #[.slice none 0 0,.int .i64 r1,.int .i64 r2])∧Below w.heap.size w w':=by
 have HC0:=Lib.hid h0
 have HC1:=Lib.hid h1
 have HC2:=Lib.hid h2
 have HGF:=Lib.hid hg
 have HRF:=Lib.hid hr
 clear h0 h1 h2 hg hr
 have hne2:(r2 == 0)=false:=beq_eq_false_iff_ne.2 hne
 go_enter Try.func15,Try.ntmps15
 refine wp_seq_k (fun K hK=>?_)
 have HK:=Lib.hid hK
 clear hK
 go_wp2
 refine HK.out _ _ ?_
 clear HK
 have HB0:=Lib.hid (bdA (Below.refl w.heap.size w) (.cells #[.slice A0 xs.length c0,.slice A1 fs.length c1,.slice A2 ts.length c2,.int .i64 en] 26))
 have HX0:=Lib.hid (Blk.new w 26 #[.slice A0 xs.length c0,.slice A1 fs.length c1,.slice A2 ts.length c2,.int .i64 en])
 generalize w.alloc (.cells #[.slice A0 xs.length c0,.slice A1 fs.length c1,.slice A2 ts.length c2,.int .i64 en] 26)=w1 at HB0 HX0 ⊢
 have c_0:=HX0.out.cell 0
 have c_1:=HX0.out.cell 1
 have c_2:=HX0.out.cell 2
 have c_3:=HX0.out.cell 3
 simp only [List.getElem?_toArray,List.getElem?_cons_zero,List.getElem?_cons_succ] at c_0 c_1 c_2 c_3
 have HL:=Lib.hid (chk_ w1 A0 A1 A2 c0 c1 c2 xs fs ts en r1 r2 (Kd.CbW HC0.out HB0.out) (Kd.CbW HC1.out HB0.out) (Kd.CbW HC2.out HB0.out) l0 l1 l2 HGF.out hx hf ht HRF.out)
 go_wp2_with (go_at_call 14;refine HL.out.mono ?_;rintro e w2 ⟨rfl,hb2⟩;have HB2:=Lib.hid hb2;clear hb2)
 go_ret3
 exact ⟨rfl,bdT HB0.out HB2.out⟩
end Go.Proofs.Ytbeikcckcjadbaa.Im
end
section
namespace Go.Proofs.Ytbeikcckcjadbaa.Im
open Go.RowKit Go.Proofs.YtbeikcckcjadbaaW.PrintWords Go.Proofs.Ytbeikcckcjadbaa.PI Go.Proofs.Ytbeikcckcjadbaa.Ln Go.Proofs.Ytbeikcckcjadbaa.Bk Go.ChangeMaps Go.MapKept
attribute [local go_sem] isSome_setCell
def ox:List S54:=[⟨149,0,0,0,0⟩]
def of_:List S68:=[⟨⟨#[102]⟩,0,0,1⟩]
theorem one_nm:nm (⟨#[102]⟩:ByteArray)=true:=by decide +kernel
theorem one_ok:∀ j,j<of_.length→okF of_ j:=by
 intro j hj
 match j,hj with
 | 0,_=>exact ⟨one_nm,by decide,by decide,by simp [keysOf]⟩
theorem one_ref:RefIs ox of_ [] 0 0 0:=by
 have h:=ref_chk ox of_ [] 0 (by decide) (by decide) (by decide) 0 false (.inr (.inr (.inr ⟨one_ok,fun j hj=>absurd hj (by simp),rfl,rfl⟩)))
 have e:chkv (manyE ox of_ []) (0,false) (cutE ox of_ of_.length 0 0) (tabE [] ([]:List S56).length 0 0) (0,decide ((0:Int)<0∨(0:Int)≥(of_.length:Int))) (insE ox ox.length 0)=(0,0):=by decide +kernel
 rw [e] at h
 exact h
theorem one_bytes:(wrB ox of_ [] 0).length=55∧(wrB ox of_ [] 0)[28]?=some 149∧(wrB ox of_ [] 0)[53]?=some 102:=by decide +kernel
theorem one_fit:∀ f∈of_,FitF f:=by
 intro f hf
 rw [List.mem_singleton.1 hf]
 exact ⟨by decide +kernel,by decide +kernel⟩
theorem oneW_ (w:World):Calls Try.prog 24 #[] w fun e w'=>∃ (A0 A1:Option Addr) (c0 c1:Nat) (A2:Option Addr) (c2:Nat),e=.returned (.agg #[.slice A0 ox.length c0,.slice A1 of_.length c1,.slice A2 ([]:List S56).length c2,.int .i64 0]) ∧
  Kd.C k54 w' A0 ox.length ox∧Kd.C k68 w' A1 of_.length of_∧Kd.C k56 w' A2 ([]:List S56).length []∧ox.length≤c0∧of_.length≤c1∧Below w.heap.size w w':=by
 refine (spindlelaw17_one.calls ox of_ [] 0 w rfl).mono ?_
 rintro e w' ⟨v0,v1,v2,rfl,h0,h1,h2,hb⟩
 obtain ⟨A0,c0,rfl,hc0,hC0⟩:=Kd.R_reads h0
 obtain ⟨A1,c1,rfl,hc1,hC1⟩:=Kd.R_reads h1
 obtain ⟨A2,c2,rfl,hc2,hC2⟩:=Kd.R_reads h2
 exact ⟨A0,A1,c0,c1,A2,c2,rfl,hC0,hC1,hC2,hc0,hc1,hb⟩
theorem awake_ (w:World):Calls Try.prog 10 #[] w fun e w'=>e=.returned (.bool true)∧Below w.heap.size w w':=by
 go_enter Try.func10,Try.ntmps10
 refine wp_seq_k (fun K hK=>?_)
 have HK:=Lib.hid hK
 clear hK
 go_wp2
 refine HK.out _ _ ?_
 clear HK
 refine wp_seq_k (fun K hK=>?_)
 have HK:=Lib.hid hK
 clear hK
 go_wp2_with (first
  | (go_at_call 24;refine (oneW_ w).mono ?_;rintro e w1 ⟨A0,A1,c0,c1,A2,c2,rfl,hC0,hC1,hC2,hc0,hc1,hb⟩;have HL:=Lib.hid (write_ok w1 A0 A1 A2 c0 c1 c2 ox of_ [] 0 hC0 hC1 hC2 hc0 hc1 (Nat.zero_le _) one_fit one_ref (gd_of ox of_ [] 0 0 (by decide) (by decide) (by decide) one_ref).1);have HB:=Lib.hid hb;clear hC0 hC1 hC2 hc0 hc1 hb)
  | (go_at_call 15;refine HL.out.mono ?_;rintro e w2 ⟨v,rfl,hv,hb⟩;have HV:=Lib.hid hv;have HB2:=Lib.hid (bdT HB.out hb);clear hv hb HL HB))
 refine HK.out _ _ ?_
 clear HK
 rcases HV.out.2 with ⟨hn,h0⟩|⟨g,cap,cur,hv,_⟩
 ·have:=one_bytes.1;omega
 have c28:=HV.out.cells (g:=g) (by rw [hv];rfl) 28 (.int .u8 149) (by unfold nums;rw [List.getElem?_map,one_bytes.2.1];rfl)
 have c53:=HV.out.cells (g:=g) (by rw [hv];rfl) 53 (.int .u8 102) (by unfold nums;rw [List.getElem?_map,one_bytes.2.2];rfl)
 rw [add_zero_block] at c28 c53
 rw [one_bytes.1] at hv
 subst hv
 clear HV
 go_wp2
 go_ret
 exact ⟨rfl,HB2.out⟩
end Go.Proofs.Ytbeikcckcjadbaa.Im
end
section
namespace Go.Proofs.Ytbeikcckcjadbaa.Im
open Go.RowKit Go.Proofs.YtbeikcckcjadbaaW.PrintWords Go.Proofs.Ytbeikcckcjadbaa.PI Go.Proofs.Ytbeikcckcjadbaa.Ln Go.Proofs.Ytbeikcckcjadbaa.Bk Go.ChangeMaps Go.MapKept
theorem turned_l1 (xs:List S54) (fs:List S68) (en:Int):∀ (d i k:Nat) (ts:List S56),ts.length≤4611686018427387904→i+d=ts.length→d<k→∃ r3,sl17t.l1 k (i:Int) xs fs ts en=some (xs,fs,r3,en)∧r3.length=ts.length
 | 0,i,k+1,ts,ht,h,hk=>by
  unfold sl17t.l1
  rw [if_neg (by omega)]
  exact ⟨ts,rfl,rfl⟩
 | d+1,i,k+1,ts,ht,h,hk=>by
  unfold sl17t.l1
  rw [if_pos (by omega),if_pos (by omega),w64_succ i (by omega)]
  obtain ⟨r3,h1,h2⟩:=turned_l1 xs fs en d (i+1) k (ts.set ((i:Int)).toNat ⟨(rd_T56 ts (i:Int)).f0,(rd_T56 ts (i:Int)).f1,(rd_T56 ts (i:Int)).f2,(rd_T56 ts (i:Int)).f3,Go.bits .xor .i64 ((rd_T56 ts (i:Int)).f4) 1⟩) (by rw [List.length_set];exact ht) (by rw [List.length_set];omega) (by omega)
  exact ⟨r3,h1,by rw [h2,List.length_set]⟩
theorem turned_l0 (fs:List S68) (ts:List S56) (en:Int) (ht:ts.length≤4611686018427387904):∀ (d i k:Nat) (xs:List S54),xs.length≤4611686018427387904→i+d=xs.length→d+ts.length+1<k→∃ r1 r3,sl17t.l0 k (i:Int) xs fs ts en=some (r1,fs,r3,en)∧r1.length=xs.length∧r3.length=ts.length
 | 0,i,k+1,xs,hx,h,hk=>by
  unfold sl17t.l0
  rw [if_neg (by omega)]
  obtain ⟨r3,h1,h2⟩:=turned_l1 xs fs en ts.length 0 k ts ht (by omega) (by omega)
  exact ⟨xs,r3,h1,rfl,h2⟩
 | d+1,i,k+1,xs,hx,h,hk=>by
  unfold sl17t.l0
  rw [if_pos (by omega),if_pos (by omega),w64_succ i (by omega)]
  obtain ⟨r1,r3,h1,h2,h3⟩:=turned_l0 fs ts en ht d (i+1) k (xs.set ((i:Int)).toNat ⟨(rd_T54 xs (i:Int)).f0,(rd_T54 xs (i:Int)).f1,(rd_T54 xs (i:Int)).f2,(rd_T54 xs (i:Int)).f3,Go.bits .xor .i64 ((rd_T54 xs (i:Int)).f4) 1⟩) (by rw [List.length_set];exact hx) (by rw [List.length_set];omega) (by omega)
  exact ⟨r1,r3,h1,by rw [h2,List.length_set],h3⟩
theorem turned_f (xs:List S54) (fs:List S68) (ts:List S56) (en:Int) (hx:xs.length≤1000000000) (hf:fs.length≤1000000000) (ht:ts.length≤1000000000):∃ r1 r3,sl17t.f (xs.length+ts.length+2) xs fs ts en=some (r1,fs,r3,en)∧r1.length=xs.length∧r3.length=ts.length:=by
 unfold sl17t.f spindlelaw0_CopyImage.f spindlelaw0_CopyInsns.f spindlelaw0_CopyImgFuncs.f spindlelaw0_CopyTables.f
 simp only [Option.bind_some,List.length_nil,List.nil_append,Nat.zero_add]
 rw [if_pos (by omega),if_pos (by omega),if_pos (by omega)]
 simp only [Option.bind_some]
 exact turned_l0 fs ts en (by omega) xs.length 0 _ xs (by omega) (by omega) (by omega)
structure LW (w W:World) (g:Nat) (img:Array Value) (S:Nat→Prop):Prop where
 bel:Below w.heap.size w W
 box:Blk W w.heap.size 26 img
 st:∃ u0 u1 u2,LSt W g u0 u1 u2∧∀ k,Own g u0 u1 u2 k→S k∧w.heap.size<k
theorem LW.mono {w W:World} {g:Nat} {img:Array Value} {S S2:Nat→Prop} (h:LW w W g img S) (hs:∀ k,w.heap.size<k→S k→S2 k):LW w W g img S2:=by
 obtain ⟨h1,h2,u0,u1,u2,h3,h4⟩:=h
 exact ⟨h1,h2,u0,u1,u2,h3,fun k hk=>⟨hs k (h4 k hk).2 (h4 k hk).1,(h4 k hk).2⟩⟩
theorem LW.below {w W W2:World} {g:Nat} {img:Array Value} {S:Nat→Prop} (h:LW w W g img S) (hb:Below W.heap.size W W2):LW w W2 g img S:=by
 obtain ⟨h1,h2,u0,u1,u2,h3,h4⟩:=h
 exact ⟨bdT h1 hb,(Ch.below hb (fun _=>False)).blk h2 (fun h=>h),u0,u1,u2,h3.ch (Ch.below' hb),h4⟩
def Asks (F:Nat):Prop:=∀ (w:World) (g n0 n1 n2 c0 c1 c2:Nat) (A0 A1 A2:Option Addr) (en:Int) (v0 v1 v2:Value) (xs:List S54) (fs:List S68) (ts:List S56),n0=xs.length→n1=fs.length→n2=ts.length →
  LSt w g v0 v1 v2→Kd.C k54 w A0 n0 xs→Kd.C k68 w A1 n1 fs→Kd.C k56 w A2 n2 ts→Far A0 n0 (Own g v0 v1 v2)→Far A1 n1 (Own g v0 v1 v2)→Far A2 n2 (Own g v0 v1 v2)→n0≤2000000→n1≤2000000→n2≤2000000 →
  n0≤c0→n1≤c1→n2≤c2→(∀ f∈fs,FitF f)→Calls Try.prog F #[.pointer (some ⟨g,0,none⟩),.agg #[.slice A0 n0 c0,.slice A1 n1 c1,.slice A2 n2 c2,.int .i64 en]] w (Chkd w g v0 v1 v2)
theorem asks8:Asks 8:=fun w g n0 n1 n2 c0 c1 c2 A0 A1 A2 en v0 v1 v2 xs fs ts e0 e1 e2 hs h0 h1 h2 f0 f1 f2 k0 k1 k2 l0 l1 l2 hf=>checked_ w g n0 n1 n2 c0 c1 c2 A0 A1 A2 en v0 v1 v2 xs fs ts e0 e1 e2 hs h0 h1 h2 f0 f1 f2 k0 k1 k2 l0 l1 l2 hf
theorem far_sub {A:Option Addr} {n:Nat} {S S2:Nat→Prop} (h:Far A n S) (hs:∀ k,S2 k→S k):Far A n S2:=fun hn ad ha h2=>h hn ad ha (hs _ h2)
theorem LW.ask {F:Nat} (hF:Asks F) {w W:World} {g:Nat} {img:Array Value} {S:Nat→Prop} (h:LW w W g img S) (n0 n1 n2 c0 c1 c2:Nat) (A0 A1 A2:Option Addr) (en:Int) (xs:List S54) (fs:List S68) (ts:List S56) (e0:n0=xs.length) (e1:n1=fs.length) (e2:n2=ts.length)
  (h0:Kd.C k54 W A0 n0 xs) (h1:Kd.C k68 W A1 n1 fs) (h2:Kd.C k56 W A2 n2 ts) (f0:Far A0 n0 S) (f1:Far A1 n1 S) (f2:Far A2 n2 S) (k0:n0≤2000000) (k1:n1≤2000000) (k2:n2≤2000000)
  (l0:n0≤c0) (l1:n1≤c1) (l2:n2≤c2) (hf:∀ f∈fs,FitF f) :
  Calls Try.prog F #[.pointer (some ⟨g,0,none⟩),.agg #[.slice A0 n0 c0,.slice A1 n1 c1,.slice A2 n2 c2,.int .i64 en]] W fun e W'=>e=.returned (.bool true)∧LW w W' g img (fun k=>w.heap.size<k):=by
 obtain ⟨hb,hx,u0,u1,u2,hl,ho⟩:=h
 refine (hF W g n0 n1 n2 c0 c1 c2 A0 A1 A2 en u0 u1 u2 xs fs ts e0 e1 e2 hl h0 h1 h2 (far_sub f0 (fun k hk=>(ho k hk).1)) (far_sub f1 (fun k hk=>(ho k hk).1)) (far_sub f2 (fun k hk=>(ho k hk).1)) k0 k1 k2 l0 l1 l2 hf).mono ?_
 rintro e W' ⟨rfl,t0,t1,t2,hl2,hc,hn⟩
 have hnew:∀ k,Own g t0 t1 t2 k→w.heap.size<k:=fun k hk=>(hn k hk).elim (fun h=>(ho k h).2) (fun h=>by have:=hx.lt;omega)
 exact ⟨rfl,below_ch hb hc (fun k hk=>Nat.le_of_lt (ho k hk).2),hc.blk hx (fun h=>absurd (ho _ h).2 (Nat.lt_irrefl _)),t0,t1,t2,hl2,fun k hk=>⟨hnew k hk,hnew k hk⟩⟩
theorem far_old54 {w:World} {A:Option Addr} {n:Nat} {a:List S54} (h:Kd.C k54 w A n a):Far A n (fun k=>w.heap.size<k):=far_sub (C_lt54 h) (fun k hk=>Nat.le_of_lt hk)
theorem far_old68 {w:World} {A:Option Addr} {n:Nat} {a:List S68} (h:Kd.C k68 w A n a):Far A n (fun k=>w.heap.size<k):=far_sub (C_lt68 h) (fun k hk=>Nat.le_of_lt hk)
theorem far_old56 {w:World} {A:Option Addr} {n:Nat} {a:List S56} (h:Kd.C k56 w A n a):Far A n (fun k=>w.heap.size<k):=far_sub (C_lt56 h) (fun k hk=>Nat.le_of_lt hk)
theorem R_far {α:Type} {d:Kd α} {e base n c:Nat} {w:World} {ok:Nat→Prop} {A:Option Addr} {l:List α} (h:Kd.R d e w base ok (.slice A n c) l):Far A n (fun k=>k<base):=by
 intro hn ad ha hk
 subst ha
 obtain ⟨inner,ho⟩:=Kd.R_own h
 have:=own_base ho ad.block rfl
 omega
end Go.Proofs.Ytbeikcckcjadbaa.Im
end
