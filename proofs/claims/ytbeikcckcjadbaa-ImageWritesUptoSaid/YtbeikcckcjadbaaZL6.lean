/- Parts of the proof, laid together by a program of this session (pack.py): Im2, Im3, Im4, Im4b, Im5, Im6, Im7, Im8, Im9, Im10, Im11. -/
import Derived.Test.YtbeikcckcjadbaaZL5
import Derived.Laws.Externs
import Derived.Lib.Bytealg
import Derived.Laws.IdiomStrings
import Derived.Laws.Closers25b
import Derived.Lib.Hide
import Derived.WideKeyEntry
import Derived.DeepKeys4
import Derived.Carry
import Derived.BigRegion
import Derived.Deep.RegionLaw
import Derived.Laws.Cover1
import Derived.IntWalk
set_option linter.unusedVariables false
set_option linter.unusedSimpArgs false
set_option maxRecDepth 100000
set_option maxHeartbeats 16000000
section
namespace Go.Proofs.Ytbeikcckcjadbaa.Im
open Go.RowKit Go.Proofs.YtbeikcckcjadbaaW.PrintWords Go.Proofs.Ytbeikcckcjadbaa.PI
attribute [local go_sem] isSome_setCell
theorem ib97 (s:ByteArray) (c:Int) (w:World) :
  Calls Try.prog 97 #[.string s,.int .u8 c] w fun e w'=>e=.returned (.int .i64 (Lib.indexByte s.data.toList c.toNat.toUInt8))∧w'=w:=by
 go_enter Try.func97,Try.ntmps97
 go_wp2
 rw [run_callFunc_extern Try.func101 (by kernel_rfl) (by kernel_rfl) (by kernel_rfl) (e:=Extern.BytealgIndexByte.indexByte) (by kernel_rfl),Lib.run_indexByteString]
 simp only [Result.andThen]
 rw [Oper.upon_value]
 go_wp2
 go_ret
 exact ⟨rfl,rfl⟩
theorem ib_ (s:ByteArray) (c:Int) (w:World) :
  Calls Try.prog 91 #[.string s,.int .u8 c] w fun e w'=>e=.returned (.int .i64 (Lib.indexByte s.data.toList c.toNat.toUInt8))∧w'=w:=by
 go_enter Try.func91,Try.ntmps91
 go_wp2_with (go_at_call 97;refine (ib97 s c w).mono ?_;rintro e w' ⟨rfl,rfl⟩)
 go_ret
 exact ⟨rfl,rfl⟩
def okc (h:Bool) (c:Int):Bool:=
 (decide (97≤Go.bits .or .u8 c 32) && decide (Go.bits .or .u8 c 32≤122)) || (decide (c=95) || (!h && decide (0≤Lib.indexByte [48,49,50,51,52,53,54,55,56,57,46,36] c.toNat.toUInt8)))
def nm (s:ByteArray):Bool:=decide (s.size≠0∧s.size≤64∧∀ j,j<s.size→okc (decide (j=0)) (bt s j)=true)
theorem size_of_toList {s:ByteArray} (h:s.toList=[]):s.size=0:=by
 rw [toList_nil_iff_emptyBytes] at h
 rw [h];rfl
theorem toList_of_size {s:ByteArray} (h:s.size=0):s.toList=[]:=by
 rw [toList_nil_iff_emptyBytes]
 cases s with
 | mk d=>cases d with
  | mk l=>cases l with
   | nil=>rfl
   | cons a r=>simp [ByteArray.size] at h
theorem isn_ (s:ByteArray) (w:World) :
  Calls Try.prog 69 #[.string s] w fun e w'=>e=.returned (.bool (nm s))∧Below w.heap.size w w':=by
 have hcv:=fun (w:World)=>run_bytes_of_string (P:=Try.prog) w 9 33 5 s Try.underlying9 Try.underlying33 Try.underlying5
 by_cases h0:s.toList=[]
 ·go_enter Try.func69,Try.ntmps69
  go_wp2
  go_ret
  exact ⟨by simp [nm,size_of_toList h0],Below.refl _ _⟩
 by_cases h64:(64:Int)<s.size
 ·go_enter Try.func69,Try.ntmps69
  go_wp2
  go_ret
  exact ⟨by simp [nm];intro _ _;omega,Below.refl _ _⟩
 have he:s.toList.isEmpty=false:=by cases hl:s.toList with
  | nil=>exact absurd hl h0
  | cons a r=>rfl
 have h6:decide ((64:Int)<s.size)=false:=decide_eq_false h64
 have hpos:0<s.size:=Nat.pos_of_ne_zero fun e=>h0 (toList_of_size e)
 go_enter Try.func69,Try.ntmps69
 go_wp2
 clear hcv he h6
 have HC:=Lib.hid (show ∀ j,j<s.size→((w.alloc (.cells (bytesRow s (grownCap w s.size 0 5)) 5 ((bytesRow s (grownCap w s.size 0 5)).size,(bytesRow s (grownCap w s.size 0 5)).size+1))).drew).cell? ⟨w.heap.size,j,none⟩=some (.int .u8 (bt s j)) from fun j hj=>by
  have h1:=World.cell?_alloc_mark w (bytesRow s (grownCap w s.size 0 5)) 5 ((bytesRow s (grownCap w s.size 0 5)).size,(bytesRow s (grownCap w s.size 0 5)).size+1) j
  refine h1.trans ?_
  rw [bytesRow_at s _ j hj]
  have:=bt_at s (j:Int) (by simpa using hj)
  rw [← this]
  rfl)
 have HB:=Lib.hid (show Below w.heap.size w ((w.alloc (.cells (bytesRow s (grownCap w s.size 0 5)) 5 ((bytesRow s (grownCap w s.size 0 5)).size,(bytesRow s (grownCap w s.size 0 5)).size+1))).drew) from bd1 (bdA (Below.refl _ _) _))
 obtain ⟨b,hb⟩:∃ b,b=w.heap.size:=⟨_,rfl⟩
 go_loopw [16] (fun iv wr=>∃ k:Nat,k≤s.size∧iv=.int .i64 (k:Int)∧(∀ j,j<k→okc (decide (j=0)) (bt s j)=true)∧Hid (∀ j,j<s.size→wr.cell? ⟨w.heap.size,j,none⟩=some (.int .u8 (bt s j)))∧Hid (Below w.heap.size w wr)) (fun iv _=>s.size - (RowKit.intOf iv).toNat)
 case atStart=>exact ⟨0,Nat.zero_le _,rfl,fun j hj=>absurd hj (Nat.not_lt_zero _),HC,HB⟩
 case round =>
  obtain ⟨k,hk,rfl,hok,hcw,hbw⟩:=hrel
  have HOK:=Lib.hid hok
  clear hok HC HB
  by_cases hlt:k<s.size
  ·have hc:=hcw.out k hlt
   obtain ⟨c,hcc⟩:∃ c,c=bt s k:=⟨_,rfl⟩
   rw [← hcc] at hc
   have HCC:=Lib.hid hcc
   clear hcc
   go_wp2_with (go_at_call 91;refine (ib_ _ c _).mono ?_;rintro e w' ⟨rfl,rfl⟩)
   all_goals first
    | (
      go_ret
      refine ⟨?_,hbw.out⟩
      have hn:okc (decide (k=0)) c=false:=by
       clear HOK hcw hbw HCC hc
       simp_all [okc] <;> omega
      have hn2:nm s=false:=decide_eq_false fun h=>by
       have h3:=h.2.2 k hlt
       rw [← HCC.out,hn] at h3
       exact absurd h3 (by decide)
      exact congrArg (fun b=>Ending.returned (.bool b)) hn2.symm)
    | (
      have hn:okc (decide (k=0)) c=true:=by
       clear HOK hcw hbw HCC hc
       simp_all [okc] <;> omega
      go_roundw
      case rel=>exact ⟨k+1,by omega,by go_num,fun j hj=>(Nat.lt_succ_iff_lt_or_eq.1 hj).elim (fun h=>HOK.out j h) (fun h=>by rw [h,← HCC.out];exact hn),hcw,hbw⟩
      case measure=>simp [RowKit.intOf];omega)
  ·obtain rfl:k=s.size:=by omega
   go_wp2
   go_ret
   have hn2:nm s=true:=decide_eq_true ⟨by omega,by omega,HOK.out⟩
   rw [hn2]
   exact ⟨rfl,hbw.out⟩
end Go.Proofs.Ytbeikcckcjadbaa.Im
end
section
namespace Go.Proofs.Ytbeikcckcjadbaa.Im
open Go.RowKit Go.Proofs.YtbeikcckcjadbaaW.PrintWords Go.Proofs.Ytbeikcckcjadbaa.PI Go.ChangeMaps Go.MapKept Go.WideElems
theorem laidOut:laidOutB Try.prog=true:=by kernel_rfl
theorem law114:WideMaps.KeyLaw Try.prog 114:=deep_law_laid laidOut (m:=2) (by omega) (of_decide_eq_true (by kernel_rfl)) (by kernel_rfl) (by kernel_rfl)
theorem zero3 (w:World):(zeroValue 3).run Try.prog w=.ok (.int .i64 0) w:=by kernel_rfl
def kv (s:ByteArray) (o:Int):Value:=.agg #[.string s,.int .i64 o]
theorem key_of (s:ByteArray) (o:Int) (hs:s.size≤maxLen) (ho:(Lit.int .i64 o).wf=true):∃ kl,keyOf Try.prog 114 (kv s o)=some kl:=by
 obtain ⟨m,hm⟩:∃ m,Try.prog.types.size=m+1+1:=⟨Try.prog.types.size - 2,by
  have:2≤Try.prog.types.size:=of_decide_eq_true (by kernel_rfl)
  omega⟩
 have hkt:Try.prog.keyType 114=true:=by kernel_rfl
 unfold keyOf kv
 rw [Try.underlying114]
 simp only
 rw [if_pos (by simp [hkt,Value.formed,Try.underlying114];kernel_rfl),hm]
 unfold Program.keyLits
 simp only [Try.underlying114,Value.cells]
 rw [if_pos (by refine ⟨by kernel_rfl,by kernel_rfl⟩)]
 unfold Program.keyLits
 have c9:Try.prog.cellsOf 9=1:=by kernel_rfl
 have c3:Try.prog.cellsOf 3=1:=by kernel_rfl
 simp [Try.underlying9,Try.underlying3,hs,ho,c9,c3]
def Seen (w:World) (b:Nat) (ks:List Value):Prop:=
 ∃ es clock,w.heap[b]?=some (.map es clock)∧Stamped es clock∧(∀ x∈es.toList,x.key∈ks∧x.val=.int .i64 1)∧(∀ v∈ks,(∃ x∈es.toList,x.key=v)∧∃ kl,keyOf Try.prog 114 v=some kl)
theorem Seen.made (w:World):Seen (w.alloc (.map #[] 0)) w.heap.size []:=
 ⟨#[],0,(MapKept.heap_alloc w _).1,stamped_empty 0,by simp,by simp⟩
theorem Seen.block {w w':World} {b:Nat} {ks:List Value} (h:Seen w b ks) (hb:w'.heap[b]?=w.heap[b]?):Seen w' b ks:=by
 obtain ⟨es,clock,h1,h2⟩:=h
 exact ⟨es,clock,hb.trans h1,h2⟩
theorem keys_ok {es:Array MapEntry} {ks:List Value} (h3:∀ x∈es.toList,x.key∈ks∧x.val=.int .i64 1) (h4:∀ v∈ks,(∃ x∈es.toList,x.key=v)∧∃ kl,keyOf Try.prog 114 v=some kl) :
  ∀ e∈es.toList,∃ l,keyOf Try.prog 114 e.key=some l:=fun e he=>(h4 _ (h3 e he).1).2
theorem Seen.look {w:World} {b:Nat} {ks:List Value} (h:Seen w b ks) {key:Value} {kl:Lit} (hkey:keyOf Try.prog 114 key=some kl) [Decidable (key∈ks)] :
  (Instr.lookup 112 (.map (some b)) key false).run Try.prog w=.ok (.int .i64 (if key∈ks then 1 else 0)) w:=by
 obtain ⟨es,clock,h1,h2,h3,h4⟩:=h
 have hz:=zero3 w
 rcases law114.find w hkey es.toList (keys_ok h3 h4) with ⟨g1,g2⟩|⟨j,e0,g1,g2,g3⟩
 ·have hn:¬ key∈ks:=fun hk=>by
   obtain ⟨⟨x,hx,e⟩,_⟩:=h4 key hk
   exact g2 x hx e
  rw [if_neg hn]
  simp [Instr.lookup,run_underlying Try.underlying112,MapKept.run_getObj_map h1,law114.check w _ hkey,g1,hz,Result.andThen]
 ·have hm:=List.mem_of_getElem? g2
  have hk:key∈ks:=g3 ▸ (h3 e0 hm).1
  rw [if_pos hk]
  simp [Instr.lookup,run_underlying Try.underlying112,MapKept.run_getObj_map h1,law114.check w _ hkey,g1,(h3 e0 hm).2,hz,Result.andThen]
theorem Seen.entry {w:World} {b:Nat} {ks:List Value} (h:Seen w b ks) {key:Value} {kl:Lit} (hkey:keyOf Try.prog 114 key=some kl) (hn:¬ key∈ks) :
  ∃ (st:Nat) (M1 M2:Obj),(∀ u:World,u.heap[b]?=w.heap[b]?→(Instr.mapEntry 112 (.map (some b)) key).run Try.prog u=.ok (.tuple #[.int .i64 0,goInt st]) (setBlock u b M1)) ∧
   (∀ u:World,u.heap[b]?=w.heap[b]?→(Instr.lookup 112 (.map (some b)) key false).run Try.prog u=.ok (.int .i64 0) u) ∧
   (∀ u:World,u.heap[b]?=some M1→(Instr.lookup 112 (.map (some b)) key false).run Try.prog u=.ok (.int .i64 0) u) ∧
   (∀ u:World,u.heap[b]?=some M1→(Instr.entryStore 112 (.map (some b)) (goInt st) (.int .i64 1)).run Try.prog u=.ok () (setBlock u b M2)) ∧
   ∀ u:World,u.heap[b]?=some M2→Seen u b (key :: ks):=by
 have hlook:∀ u:World,u.heap[b]?=w.heap[b]?→(Instr.lookup 112 (.map (some b)) key false).run Try.prog u=.ok (.int .i64 0) u:=fun u hu=>by
  have h2:Seen u b ks:=h.block hu
  haveI:Decidable (key∈ks):=.isFalse hn
  have:=h2.look hkey
  rwa [if_neg hn] at this
 obtain ⟨es,clock,h1,h2,h3,h4⟩:=h
 obtain ⟨s1,s2,_⟩:=h2
 have hk:=keys_ok h3 h4
 have hno:∀ x∈es.toList,x.key≠key:=fun x hx e=>hn (e ▸ (h3 x hx).1)
 have hf:∀ u:World,(Instr.findKey 114 key es.toList).run Try.prog u=.ok none u:=fun u=>by
  rcases law114.find u hkey es.toList hk with ⟨g1,_⟩|⟨j,e0,_,g2,g3⟩
  ·exact g1
  ·exact absurd g3 (hno e0 (List.mem_of_getElem? g2))
 have hk1:∀ x∈(es.push ⟨key,.int .i64 0,clock⟩).toList,∃ l,keyOf Try.prog 114 x.key=some l:=fun x hx=>by
  simp only [Array.toList_push,List.mem_append,List.mem_singleton] at hx
  rcases hx with hx|rfl
  ·exact hk x hx
  ·exact ⟨kl,hkey⟩
 refine ⟨clock,.map (es.push ⟨key,.int .i64 0,clock⟩) (clock+1),.map (es.push ⟨key,.int .i64 1,clock⟩) (clock+1),fun u hu=>?_,hlook,fun u hu=>?_,fun u hu=>?_,fun u hu=>?_⟩
 ·have hb:=hu.trans h1
  simp [Instr.mapEntry,run_underlying Try.underlying112,MapKept.run_getObj_map hb,law114.check u false hkey,hf u,zero3 u,MapKept.run_setObj_map _ hb,Result.andThen,setBlock]
 ·have hz:=zero3 u
  rcases law114.find u hkey (es.push ⟨key,.int .i64 0,clock⟩).toList hk1 with ⟨_,g2⟩|⟨j,e0,g1,g2,g3⟩
  ·exact absurd rfl (g2 ⟨key,.int .i64 0,clock⟩ (by simp))
  ·have hv:e0.val=.int .i64 0:=by
    have hm:=List.mem_of_getElem? g2
    simp only [Array.toList_push,List.mem_append,List.mem_singleton] at hm
    rcases hm with hm|rfl
    ·exact absurd g3 (hno e0 hm)
    ·rfl
   simp only [Array.toList_push] at g1
   simp [Instr.lookup,run_underlying Try.underlying112,MapKept.run_getObj_map hu,law114.check u _ hkey,g1,hv,hz,Result.andThen]
 ·have hidx:(es.push ⟨key,.int .i64 0,clock⟩).findIdx? (fun e=>((e.born:Nat):Int) == ((clock:Nat):Int))=some es.size:=by
   rw [findIdx_arr]
   have:=findIdx_born (l:=(es.push ⟨key,.int .i64 0,clock⟩).toList) (j:=es.size) (e0:=⟨key,.int .i64 0,clock⟩) (by
    simp only [Array.toList_push,List.map_append,List.map_cons,List.map_nil]
    refine List.nodup_append.2 ⟨s2,by simp,fun a ha c hc e1=>?_⟩
    simp only [List.mem_singleton] at hc
    obtain ⟨x,hx,rfl⟩:=List.mem_map.1 ha
    have:=s1 x hx
    omega) (by simp)
   exact this
  have hmod:(es.push ⟨key,.int .i64 0,clock⟩).modify es.size (fun e=>{ e with val:=.int .i64 1 })=es.push ⟨key,.int .i64 1,clock⟩:=by
   apply Array.ext'
   rw [Array.toList_modify,Array.toList_push,Array.toList_push,← Array.length_toList,modify_last]
  simp [Instr.entryStore,MapKept.run_getObj_map hu,asInt,asIntOf,goInt,hidx,hmod,MapKept.run_setObj_map _ hu,Result.andThen,setBlock]
 ·refine ⟨_,_,hu,stamped_push ⟨s1,s2,‹_›⟩ hno,fun x hx=>?_,fun v hv=>?_⟩
  ·simp only [Array.toList_push,List.mem_append,List.mem_singleton] at hx
   rcases hx with hx|rfl
   ·exact ⟨List.mem_cons_of_mem _ (h3 x hx).1,(h3 x hx).2⟩
   ·exact ⟨List.mem_cons_self,rfl⟩
  ·rcases List.mem_cons.1 hv with rfl|hv
   ·exact ⟨⟨⟨v,.int .i64 1,clock⟩,by simp,rfl⟩,kl,hkey⟩
   ·obtain ⟨⟨x,hx,e⟩,hl⟩:=h4 v hv
    exact ⟨⟨x,by simp [hx],e⟩,hl⟩
theorem Seen.look_in {w:World} {b:Nat} {ks:List Value} (h:Seen w b ks) {key:Value} (hk:key∈ks) :
  (Instr.lookup 112 (.map (some b)) key false).run Try.prog w=.ok (.int .i64 1) w:=by
 obtain ⟨es,clock,h1,h2,h3,h4⟩:=id h
 obtain ⟨kl,hkey⟩:=(h4 key hk).2
 haveI:Decidable (key∈ks):=.isTrue hk
 have:=h.look hkey
 rwa [if_pos hk] at this
theorem setBlock_other (w:World) (b:Nat) (o:Obj) {i:Nat} (h:i≠b):(setBlock w b o).heap[i]?=w.heap[i]?:=by
 show (w.heap.setIfInBounds b o)[i]?=_
 rw [Array.getElem?_setIfInBounds_ne (Ne.symm h)]
theorem setBlock_same {w:World} {b:Nat} (h:b<w.heap.size) (o:Obj):(setBlock w b o).heap[b]?=some o:=by
 show (w.heap.setIfInBounds b o)[b]?=_
 rw [Array.getElem?_setIfInBounds_self_of_lt h]
theorem below_setBlock (w:World) (b:Nat) (o:Obj):Below b w (setBlock w b o):=
 ⟨rfl,rfl,rfl,by simp [setBlock],fun i hi=>setBlock_other w b o (Nat.ne_of_lt hi)⟩
theorem setBlock_size (w:World) (b:Nat) (o:Obj):(setBlock w b o).heap.size=w.heap.size:=by simp [setBlock]
theorem Seen.lt {w:World} {b:Nat} {ks:List Value} (h:Seen w b ks):b<w.heap.size:=by
 obtain ⟨es,clock,hb,_⟩:=h
 exact (Array.getElem?_eq_some_iff.1 hb).1
end Go.Proofs.Ytbeikcckcjadbaa.Im
end
section
namespace Go.Proofs.Ytbeikcckcjadbaa.Im
open Go.RowKit Go.Proofs.YtbeikcckcjadbaaW.PrintWords Go.Proofs.Ytbeikcckcjadbaa.PI Go.ChangeMaps Go.MapKept
attribute [local go_sem] isSome_setCell
def left:Code→Code
 | .seq a _=>a
 | c=>c
def right:Code→Code
 | .seq _ b=>b
 | c=>c
def inner:Code→Code
 | .block _ c=>c
 | .loop c=>c
 | c=>c
def postC:Nat→Code→Code
 | n+1,.seq _ b=>postC n b
 | _,c=>c
def Norm (R:Act→World→Prop):Exit→Act→World→Prop
 | .normal,a,w=>R a w
 | _,_,_=>False
theorem Norm.mk {R:Act→World→Prop} {a:Act} {w:World} (h:R a w):Norm R .normal a w:=h
theorem Norm.elim {R:Act→World→Prop} {Q:Exit→Act→World→Prop} (h:∀ a w,R a w→Q .normal a w):∀ e a w,Norm R e a w→Q e a w:=by
 intro e a w hn
 cases e <;> first|exact h a w hn|exact False.elim hn
theorem wp_norm_k {P:Program} {c:Code} {Q:Exit→Act→World→Prop} {a:Act} {w:World} (h:∀ R:Act→World→Prop,(∀ a w,Q .normal a w→R a w)→Code.wp P c (Norm R) a w):Code.wp P c Q a w:=
 Code.wp_mono (Norm.elim fun _ _ h=>h) (h (Q .normal) fun _ _ h=>h)
def bodyN (b:Code):Code:=inner (left (postC 2 (inner (inner (right (left (postC 2 b)))))))
theorem R8 (w0:World) (b p:Nat) (ks:List Value) (s:ByteArray) (o:Int) (kl:Lit) (hs:Seen w0 b ks) (hkey:keyOf Try.prog 114 (kv s o)=some kl) (hn:¬ kv s o∈ks)
  (c0:w0.cell? ⟨p,0,none⟩=some (.string s)) (c1:w0.cell? ⟨p,1,none⟩=some (.int .i64 o)) {y0 y1 y2 y3 y5 y6 y8 y9 y10 y11 y12 y13 y14 y15 y16 y17 y18 y19 y20 y21 y22 y23 y24 y25 y26 y27 y28 y29 y30 y31 y32 y33 y34 y35 y36 y37 y38 y39 y40 y41 y42 y43 y44 y45 y46 y47 y48 y49 y50 y51 y52 y53 y54 y55 y56 y57 y58 y59 y60 y61 y62 y63 y64 y65 y66 y67 y68 y69 y70 y71 y72 y73 y74 y75 y76 y77 y78 y79 y80 y81 y82 y83 y84 y85 y86 y87 y88:Value} :
  Code.wp Try.prog (postC 3 (bodyN (Try.f30.body.getD .skip))) (Norm fun a' W=>∃ (e48 e49 e50 e51 e52 e53:Value),a'={ tmps:=#[y0,y1,y2,y3,(.map (some b)),y5,y6,(.pointer (some ⟨p,0,none⟩)),y8,y9,y10,y11,y12,y13,y14,y15,y16,y17,y18,y19,y20,y21,y22,y23,y24,y25,y26,y27,y28,y29,y30,y31,y32,y33,y34,y35,y36,y37,y38,y39,y40,y41,y42,y43,y44,y45,y46,y47,e48,e49,e50,e51,e52,e53,y54,y55,y56,y57,y58,y59,y60,y61,y62,y63,y64,y65,y66,y67,y68,y69,y70,y71,y72,y73,y74,y75,y76,y77,y78,y79,y80,y81,y82,y83,y84,y85,y86,y87,y88],defers:=[] }∧Hid (Seen W b (kv s o :: ks)∧Below b w0 W)) { tmps:=#[y0,y1,y2,y3,(.map (some b)),y5,y6,(.pointer (some ⟨p,0,none⟩)),y8,y9,y10,y11,y12,y13,y14,y15,y16,y17,y18,y19,y20,y21,y22,y23,y24,y25,y26,y27,y28,y29,y30,y31,y32,y33,y34,y35,y36,y37,y38,y39,y40,y41,y42,y43,y44,y45,y46,y47,y48,y49,y50,y51,y52,y53,y54,y55,y56,y57,y58,y59,y60,y61,y62,y63,y64,y65,y66,y67,y68,y69,y70,y71,y72,y73,y74,y75,y76,y77,y78,y79,y80,y81,y82,y83,y84,y85,y86,y87,y88],defers:=[] } w0:=by
 obtain ⟨st,M1,M2,hE,hL0,hL1,hS,hF⟩:=hs.entry hkey hn
 have hlt:=hs.lt
 have e1:(Instr.mapEntry 112 (.map (some b)) (.agg #[.string s,.int .i64 o])).run Try.prog w0.drew=.ok (.tuple #[.int .i64 0,.int .i64 st]) (setBlock w0.drew b M1):=hE w0.drew rfl
 have e2:(Instr.lookup 112 (.map (some b)) (.agg #[.string s,.int .i64 o]) false).run Try.prog w0.drew=.ok (.int .i64 0) w0.drew:=hL0 w0.drew rfl
 have e3:(Instr.lookup 112 (.map (some b)) (.agg #[.string s,.int .i64 o]) false).run Try.prog (setBlock w0.drew b M1)=.ok (.int .i64 0) (setBlock w0.drew b M1):=hL1 _ (setBlock_same (w:=w0.drew) hlt M1)
 have e4:(Instr.entryStore 112 (.map (some b)) (.int .i64 st) (.int .i64 1)).run Try.prog (setBlock w0.drew b M1)=.ok () (setBlock (setBlock w0.drew b M1) b M2):=hS _ (setBlock_same (w:=w0.drew) hlt M1)
 have HF:=Lib.hid (show Seen (setBlock (setBlock w0.drew b M1) b M2) b (kv s o :: ks)∧Below b w0 (setBlock (setBlock w0.drew b M1) b M2) from
  ⟨hF _ (setBlock_same (w:=setBlock w0.drew b M1) (by rw [setBlock_size];exact hlt) M2),(bd1 (Below.refl b w0)).trans ((below_setBlock w0.drew b M1).trans (below_setBlock _ b M2))⟩)
 clear hE hL0 hL1 hS hF hs hkey hn hlt
 unfold Try.f30
 dsimp only [Option.getD,postC,left,right,inner,bodyN]
 go_region
 refine Norm.mk ?_
 exact ⟨_,_,_,_,_,_, rfl,HF⟩
end Go.Proofs.Ytbeikcckcjadbaa.Im
end
section
namespace Go.Proofs.Ytbeikcckcjadbaa.Im
open Go.RowKit Go.Proofs.YtbeikcckcjadbaaW.PrintWords Go.Proofs.YtbeikcckcjadbaaW.PrintLast Go.Proofs.Ytbeikcckcjadbaa.PI Go.ChangeMaps Go.MapKept
attribute [local go_sem] isSome_setCell
def bodyT (b:Code):Code:=inner (left (postC 2 (inner (inner (right (left (postC 3 b)))))))
def codeR13 (b:Code):Code:=left (postC 1 (bodyT b))
theorem R13a (w0:World) (g p:Nat) (s:ByteArray) (jv:Int) (c0:w0.cell? ⟨p,0,none⟩=some (.string s)) (hA:nm s=false) {y0 y2 y3 y4 y5 y6 y7 y10 y11 y12 y13 y14 y15 y16 y17 y18 y19 y20 y21 y22 y23 y24 y25 y26 y27 y28 y29 y30 y31 y32 y33 y34 y35 y36 y37 y38 y39 y40 y41 y42 y43 y44 y45 y46 y47 y48 y49 y50 y51 y52 y53 y54 y55 y56 y57 y58 y59 y60 y61 y62 y63 y64 y65 y66 y67 y68 y69 y70 y71 y72 y73 y74 y75 y76 y77 y78 y79 y80 y81 y82 y83 y84 y85 y86 y87 y88:Value} :
  Code.wp Try.prog (codeR13 (Try.f30.body.getD .skip)) (Norm fun a' W=>∃ (e63 e64 e65 e66 e67 e68 e69 e70 e71 e72 e73 e74 e75 e76 e77 e78 e79 e80 e81:Value),a'={ tmps:=#[y0,(.pointer (some ⟨g,0,none⟩)),y2,y3,y4,y5,y6,y7,(.int .i64 jv),(.pointer (some ⟨p,0,none⟩)),y10,y11,y12,y13,y14,y15,y16,y17,y18,y19,y20,y21,y22,y23,y24,y25,y26,y27,y28,y29,y30,y31,y32,y33,y34,y35,y36,y37,y38,y39,y40,y41,y42,y43,y44,y45,y46,y47,y48,y49,y50,y51,y52,y53,y54,y55,y56,y57,y58,y59,y60,y61,y62,e63,e64,e65,e66,e67,e68,e69,e70,e71,e72,e73,e74,e75,e76,e77,e78,e79,e80,e81,(.bool true),y83,y84,y85,y86,y87,y88],defers:=[] }∧Hid (Below w0.heap.size w0 W)) { tmps:=#[y0,(.pointer (some ⟨g,0,none⟩)),y2,y3,y4,y5,y6,y7,(.int .i64 jv),(.pointer (some ⟨p,0,none⟩)),y10,y11,y12,y13,y14,y15,y16,y17,y18,y19,y20,y21,y22,y23,y24,y25,y26,y27,y28,y29,y30,y31,y32,y33,y34,y35,y36,y37,y38,y39,y40,y41,y42,y43,y44,y45,y46,y47,y48,y49,y50,y51,y52,y53,y54,y55,y56,y57,y58,y59,y60,y61,y62,y63,y64,y65,y66,y67,y68,y69,y70,y71,y72,y73,y74,y75,y76,y77,y78,y79,y80,y81,y82,y83,y84,y85,y86,y87,y88],defers:=[] } w0:=by
 unfold Try.f30
 dsimp only [Option.getD,postC,left,right,inner,bodyT,codeR13]
 refine start_ (n:=20) (S:=fun w'=>w'.cell? ⟨p,0,none⟩=some (.string s)) (ds:=[]) #[false,false,false,false,false,false,false,false,false,false,false,false,false,false,false,false,false,false,false,false] (by kernel_rfl) rfl rfl c0 (fun hHeld=>?_)
 refine pure_ (i:=0) (N:=some 63) (v:=?_) (a':=?_) #[true,false,false,false,false,false,false,false,false,false,false,false,false,false,false,false,false,false,false,false] rfl rfl (by kernel_rfl) (fun _ _ _ h=>h) (Or.inl ⟨by rfl,?_⟩) ?_ ?_
 rotate_left
 ·intro w'
  go_simp
  with_reducible rfl
 rotate_left
 ·simp only [Act.put,List.setIfInBounds_toArray,List.set_cons_zero,List.set_cons_succ,i64_w,i32_w]
  rfl
 refine take_ (i:=1) (N:=some 64) (v:=?_) (a':=?_) #[true,true,false,false,false,false,false,false,false,false,false,false,false,false,false,false,false,false,false,false] rfl rfl (by kernel_rfl) (fun _ _ _ h=>h) (Or.inl ⟨by rfl,?_⟩) hHeld ?_ ?_
 rotate_left
 ·intro w' s0
  go_simp
  with_reducible rfl
 rotate_left
 ·simp only [Act.put,List.setIfInBounds_toArray,List.set_cons_zero,List.set_cons_succ,i64_w,i32_w]
  rfl
 refine one_ (i:=2) (N:=some 65) #[true,true,true,false,false,false,false,false,false,false,false,false,false,false,false,false,false,false,false,false] rfl rfl (by kernel_rfl) (by decide) (fun K hK=>?_)
 refine goes_ Try.func69 (by kernel_rfl) rfl #[.string s] (by rfl) rfl rfl (by simp only [List.map_toArray,List.map_cons,List.map_nil];rfl) ?_
 refine (isn_ s _).mono ?_
 rintro e w3 ⟨rfl,hb3⟩
 refine ⟨_,rfl,?_⟩
 rw [hA]
 have s3:=(hb3.cell (World.block_lt_of_cell? _ _ hHeld)).trans hHeld
 refine hK.out _ _ s3 (fun hHeld2=>?_)
 clear hHeld2 hK s3
 simp only [Act.put,List.setIfInBounds_toArray,List.set_cons_zero,List.set_cons_succ,i64_w,i32_w]
 refine pure_ (i:=3) (N:=some 66) (v:=?_) (a':=?_) #[true,true,true,true,false,false,false,false,false,false,false,false,false,false,false,false,false,false,false,false] rfl rfl (by kernel_rfl) (fun _ _ _ h=>h) (Or.inl ⟨by rfl,?_⟩) ?_ ?_
 rotate_left
 ·intro w'
  go_simp
  with_reducible rfl
 rotate_left
 ·simp only [Act.put,List.setIfInBounds_toArray,List.set_cons_zero,List.set_cons_succ,i64_w,i32_w]
  rfl
 refine pure_ (i:=4) (N:=some 67) (v:=?_) (a':=?_) #[true,true,true,true,true,false,false,false,false,false,false,false,false,false,false,false,false,false,false,false] rfl rfl (by kernel_rfl) (fun _ _ _ h=>h) (Or.inl ⟨by rfl,?_⟩) ?_ ?_
 rotate_left
 ·intro w'
  go_simp
  with_reducible rfl
 rotate_left
 ·simp only [Act.put,List.setIfInBounds_toArray,List.set_cons_zero,List.set_cons_succ,i64_w,i32_w]
  rfl
 refine pure_ (i:=5) (N:=some 68) (v:=undef) #[true,true,true,true,true,true,false,false,false,false,false,false,false,false,false,false,false,false,false,false] rfl rfl (by kernel_rfl) (fun _ _ _ h=>h) (Or.inr ⟨by rfl,rfl⟩) rfl ?_
 simp only [Act.put,List.setIfInBounds_toArray,List.set_cons_zero,List.set_cons_succ,i64_w,i32_w]
 refine pure_ (i:=6) (N:=some 69) (v:=undef) #[true,true,true,true,true,true,true,false,false,false,false,false,false,false,false,false,false,false,false,false] rfl rfl (by kernel_rfl) (fun _ _ _ h=>h) (Or.inr ⟨by rfl,rfl⟩) rfl ?_
 simp only [Act.put,List.setIfInBounds_toArray,List.set_cons_zero,List.set_cons_succ,i64_w,i32_w]
 refine pure_ (i:=7) (N:=some 70) (v:=undef) #[true,true,true,true,true,true,true,true,false,false,false,false,false,false,false,false,false,false,false,false] rfl rfl (by kernel_rfl) (fun _ _ _ h=>h) (Or.inr ⟨by rfl,rfl⟩) rfl ?_
 simp only [Act.put,List.setIfInBounds_toArray,List.set_cons_zero,List.set_cons_succ,i64_w,i32_w]
 refine pure_ (i:=8) (N:=some 71) (v:=undef) #[true,true,true,true,true,true,true,true,true,false,false,false,false,false,false,false,false,false,false,false] rfl rfl (by kernel_rfl) (fun _ _ _ h=>h) (Or.inr ⟨by rfl,rfl⟩) rfl ?_
 simp only [Act.put,List.setIfInBounds_toArray,List.set_cons_zero,List.set_cons_succ,i64_w,i32_w]
 refine pure_ (i:=9) (N:=some 72) (v:=undef) #[true,true,true,true,true,true,true,true,true,true,false,false,false,false,false,false,false,false,false,false] rfl rfl (by kernel_rfl) (fun _ _ _ h=>h) (Or.inr ⟨by rfl,rfl⟩) rfl ?_
 simp only [Act.put,List.setIfInBounds_toArray,List.set_cons_zero,List.set_cons_succ,i64_w,i32_w]
 refine pure_ (i:=10) (N:=some 73) (v:=undef) #[true,true,true,true,true,true,true,true,true,true,true,false,false,false,false,false,false,false,false,false] rfl rfl (by kernel_rfl) (fun _ _ _ h=>h) (Or.inr ⟨by rfl,rfl⟩) rfl ?_
 simp only [Act.put,List.setIfInBounds_toArray,List.set_cons_zero,List.set_cons_succ,i64_w,i32_w]
 refine pure_ (i:=11) (N:=some 74) (v:=undef) #[true,true,true,true,true,true,true,true,true,true,true,true,false,false,false,false,false,false,false,false] rfl rfl (by kernel_rfl) (fun _ _ _ h=>h) (Or.inr ⟨by rfl,rfl⟩) rfl ?_
 simp only [Act.put,List.setIfInBounds_toArray,List.set_cons_zero,List.set_cons_succ,i64_w,i32_w]
 refine pure_ (i:=12) (N:=some 75) (v:=undef) #[true,true,true,true,true,true,true,true,true,true,true,true,true,false,false,false,false,false,false,false] rfl rfl (by kernel_rfl) (fun _ _ _ h=>h) (Or.inr ⟨by rfl,rfl⟩) rfl ?_
 simp only [Act.put,List.setIfInBounds_toArray,List.set_cons_zero,List.set_cons_succ,i64_w,i32_w]
 refine pure_ (i:=13) (N:=some 76) (v:=undef) #[true,true,true,true,true,true,true,true,true,true,true,true,true,true,false,false,false,false,false,false] rfl rfl (by kernel_rfl) (fun _ _ _ h=>h) (Or.inr ⟨by rfl,rfl⟩) rfl ?_
 simp only [Act.put,List.setIfInBounds_toArray,List.set_cons_zero,List.set_cons_succ,i64_w,i32_w]
 refine pure_ (i:=14) (N:=some 77) (v:=undef) #[true,true,true,true,true,true,true,true,true,true,true,true,true,true,true,false,false,false,false,false] rfl rfl (by kernel_rfl) (fun _ _ _ h=>h) (Or.inr ⟨by rfl,rfl⟩) rfl ?_
 simp only [Act.put,List.setIfInBounds_toArray,List.set_cons_zero,List.set_cons_succ,i64_w,i32_w]
 refine pure_ (i:=15) (N:=some 78) (v:=undef) #[true,true,true,true,true,true,true,true,true,true,true,true,true,true,true,true,false,false,false,false] rfl rfl (by kernel_rfl) (fun _ _ _ h=>h) (Or.inr ⟨by rfl,rfl⟩) rfl ?_
 simp only [Act.put,List.setIfInBounds_toArray,List.set_cons_zero,List.set_cons_succ,i64_w,i32_w]
 refine pure_ (i:=16) (N:=some 79) (v:=undef) #[true,true,true,true,true,true,true,true,true,true,true,true,true,true,true,true,true,false,false,false] rfl rfl (by kernel_rfl) (fun _ _ _ h=>h) (Or.inr ⟨by rfl,rfl⟩) rfl ?_
 simp only [Act.put,List.setIfInBounds_toArray,List.set_cons_zero,List.set_cons_succ,i64_w,i32_w]
 refine pure_ (i:=17) (N:=some 80) (v:=undef) #[true,true,true,true,true,true,true,true,true,true,true,true,true,true,true,true,true,true,false,false] rfl rfl (by kernel_rfl) (fun _ _ _ h=>h) (Or.inr ⟨by rfl,rfl⟩) rfl ?_
 simp only [Act.put,List.setIfInBounds_toArray,List.set_cons_zero,List.set_cons_succ,i64_w,i32_w]
 refine pure_ (i:=18) (N:=some 81) (v:=undef) #[true,true,true,true,true,true,true,true,true,true,true,true,true,true,true,true,true,true,true,false] rfl rfl (by kernel_rfl) (fun _ _ _ h=>h) (Or.inr ⟨by rfl,rfl⟩) rfl ?_
 simp only [Act.put,List.setIfInBounds_toArray,List.set_cons_zero,List.set_cons_succ,i64_w,i32_w]
 refine pure_ (i:=19) (N:=some 82) (v:=?_) (a':=?_) #[true,true,true,true,true,true,true,true,true,true,true,true,true,true,true,true,true,true,true,true] rfl rfl (by kernel_rfl) (fun _ _ _ h=>h) (Or.inl ⟨by rfl,?_⟩) ?_ ?_
 rotate_left
 ·intro w'
  go_simp
  with_reducible rfl
 rotate_left
 ·simp only [Act.put,List.setIfInBounds_toArray,List.set_cons_zero,List.set_cons_succ,i64_w,i32_w]
  rfl
 refine done_ (by kernel_rfl) ?_
 refine Norm.mk ?_
 exact ⟨_,_,_,_,_,_,_,_,_,_,_,_,_,_,_,_,_,_,_, rfl,Lib.hid ((bd1 (Below.refl w0.heap.size w0)).trans hb3)⟩
theorem R13b (w0:World) (g p:Nat) (s:ByteArray) (jv:Int) (c0:w0.cell? ⟨p,0,none⟩=some (.string s)) (hA:nm s=true) (hj:decide ((0:Int)<jv)=false) {y0 y2 y3 y4 y5 y6 y7 y10 y11 y12 y13 y14 y15 y16 y17 y18 y19 y20 y21 y22 y23 y24 y25 y26 y27 y28 y29 y30 y31 y32 y33 y34 y35 y36 y37 y38 y39 y40 y41 y42 y43 y44 y45 y46 y47 y48 y49 y50 y51 y52 y53 y54 y55 y56 y57 y58 y59 y60 y61 y62 y63 y64 y65 y66 y67 y68 y69 y70 y71 y72 y73 y74 y75 y76 y77 y78 y79 y80 y81 y82 y83 y84 y85 y86 y87 y88:Value} :
  Code.wp Try.prog (codeR13 (Try.f30.body.getD .skip)) (Norm fun a' W=>∃ (e63 e64 e65 e66 e67 e68 e69 e70 e71 e72 e73 e74 e75 e76 e77 e78 e79 e80 e81:Value),a'={ tmps:=#[y0,(.pointer (some ⟨g,0,none⟩)),y2,y3,y4,y5,y6,y7,(.int .i64 jv),(.pointer (some ⟨p,0,none⟩)),y10,y11,y12,y13,y14,y15,y16,y17,y18,y19,y20,y21,y22,y23,y24,y25,y26,y27,y28,y29,y30,y31,y32,y33,y34,y35,y36,y37,y38,y39,y40,y41,y42,y43,y44,y45,y46,y47,y48,y49,y50,y51,y52,y53,y54,y55,y56,y57,y58,y59,y60,y61,y62,e63,e64,e65,e66,e67,e68,e69,e70,e71,e72,e73,e74,e75,e76,e77,e78,e79,e80,e81,(.bool false),y83,y84,y85,y86,y87,y88],defers:=[] }∧Hid (Below w0.heap.size w0 W)) { tmps:=#[y0,(.pointer (some ⟨g,0,none⟩)),y2,y3,y4,y5,y6,y7,(.int .i64 jv),(.pointer (some ⟨p,0,none⟩)),y10,y11,y12,y13,y14,y15,y16,y17,y18,y19,y20,y21,y22,y23,y24,y25,y26,y27,y28,y29,y30,y31,y32,y33,y34,y35,y36,y37,y38,y39,y40,y41,y42,y43,y44,y45,y46,y47,y48,y49,y50,y51,y52,y53,y54,y55,y56,y57,y58,y59,y60,y61,y62,y63,y64,y65,y66,y67,y68,y69,y70,y71,y72,y73,y74,y75,y76,y77,y78,y79,y80,y81,y82,y83,y84,y85,y86,y87,y88],defers:=[] } w0:=by
 unfold Try.f30
 dsimp only [Option.getD,postC,left,right,inner,bodyT,codeR13]
 refine start_ (n:=20) (S:=fun w'=>w'.cell? ⟨p,0,none⟩=some (.string s)) (ds:=[]) #[false,false,false,false,false,false,false,false,false,false,false,false,false,false,false,false,false,false,false,false] (by kernel_rfl) rfl rfl c0 (fun hHeld=>?_)
 refine pure_ (i:=0) (N:=some 63) (v:=?_) (a':=?_) #[true,false,false,false,false,false,false,false,false,false,false,false,false,false,false,false,false,false,false,false] rfl rfl (by kernel_rfl) (fun _ _ _ h=>h) (Or.inl ⟨by rfl,?_⟩) ?_ ?_
 rotate_left
 ·intro w'
  go_simp
  with_reducible rfl
 rotate_left
 ·simp only [Act.put,List.setIfInBounds_toArray,List.set_cons_zero,List.set_cons_succ,i64_w,i32_w]
  rfl
 refine take_ (i:=1) (N:=some 64) (v:=?_) (a':=?_) #[true,true,false,false,false,false,false,false,false,false,false,false,false,false,false,false,false,false,false,false] rfl rfl (by kernel_rfl) (fun _ _ _ h=>h) (Or.inl ⟨by rfl,?_⟩) hHeld ?_ ?_
 rotate_left
 ·intro w' s0
  go_simp
  with_reducible rfl
 rotate_left
 ·simp only [Act.put,List.setIfInBounds_toArray,List.set_cons_zero,List.set_cons_succ,i64_w,i32_w]
  rfl
 refine one_ (i:=2) (N:=some 65) #[true,true,true,false,false,false,false,false,false,false,false,false,false,false,false,false,false,false,false,false] rfl rfl (by kernel_rfl) (by decide) (fun K hK=>?_)
 refine goes_ Try.func69 (by kernel_rfl) rfl #[.string s] (by rfl) rfl rfl (by simp only [List.map_toArray,List.map_cons,List.map_nil];rfl) ?_
 refine (isn_ s _).mono ?_
 rintro e w3 ⟨rfl,hb3⟩
 refine ⟨_,rfl,?_⟩
 rw [hA]
 have s3:=(hb3.cell (World.block_lt_of_cell? _ _ hHeld)).trans hHeld
 refine hK.out _ _ s3 (fun hHeld2=>?_)
 clear hHeld2 hK s3
 simp only [Act.put,List.setIfInBounds_toArray,List.set_cons_zero,List.set_cons_succ,i64_w,i32_w]
 refine pure_ (i:=3) (N:=some 66) (v:=?_) (a':=?_) #[true,true,true,true,false,false,false,false,false,false,false,false,false,false,false,false,false,false,false,false] rfl rfl (by kernel_rfl) (fun _ _ _ h=>h) (Or.inl ⟨by rfl,?_⟩) ?_ ?_
 rotate_left
 ·intro w'
  go_simp
  with_reducible rfl
 rotate_left
 ·simp only [Act.put,List.setIfInBounds_toArray,List.set_cons_zero,List.set_cons_succ,i64_w,i32_w]
  rfl
 refine pure_ (i:=4) (N:=some 67) (v:=?_) (a':=?_) #[true,true,true,true,true,false,false,false,false,false,false,false,false,false,false,false,false,false,false,false] rfl rfl (by kernel_rfl) (fun _ _ _ h=>h) (Or.inl ⟨by rfl,?_⟩) ?_ ?_
 rotate_left
 ·intro w'
  go_simp
  with_reducible rfl
 rotate_left
 ·simp only [Act.put,List.setIfInBounds_toArray,List.set_cons_zero,List.set_cons_succ,i64_w,i32_w]
  rfl
 refine pure_ (i:=5) (N:=some 68) (v:=?_) (a':=?_) #[true,true,true,true,true,true,false,false,false,false,false,false,false,false,false,false,false,false,false,false] rfl rfl (by kernel_rfl) (fun _ _ _ h=>h) (Or.inl ⟨by rfl,?_⟩) ?_ ?_
 rotate_left
 ·intro w'
  go_simp
  with_reducible rfl
 rotate_left
 ·simp only [Act.put,List.setIfInBounds_toArray,List.set_cons_zero,List.set_cons_succ,i64_w,i32_w]
  rfl
 refine pure_ (i:=6) (N:=some 69) (v:=?_) (a':=?_) #[true,true,true,true,true,true,true,false,false,false,false,false,false,false,false,false,false,false,false,false] rfl rfl (by kernel_rfl) (fun _ _ _ h=>h) (Or.inl ⟨by rfl,?_⟩) ?_ ?_
 rotate_left
 ·intro w'
  go_simp
  with_reducible rfl
 rotate_left
 ·simp only [Act.put,List.setIfInBounds_toArray,List.set_cons_zero,List.set_cons_succ,i64_w,i32_w]
  rfl
 refine pure_ (i:=7) (N:=some 70) (v:=?_) (a':=?_) #[true,true,true,true,true,true,true,true,false,false,false,false,false,false,false,false,false,false,false,false] rfl rfl (by kernel_rfl) (fun _ _ _ h=>h) (Or.inl ⟨by rfl,?_⟩) ?_ ?_
 rotate_left
 ·intro w'
  go_simp
  with_reducible rfl
 rotate_left
 ·simp only [Act.put,List.setIfInBounds_toArray,List.set_cons_zero,List.set_cons_succ,i64_w,i32_w]
  rfl
 refine pure_ (i:=8) (N:=some 71) (v:=undef) #[true,true,true,true,true,true,true,true,true,false,false,false,false,false,false,false,false,false,false,false] rfl rfl (by kernel_rfl) (fun _ _ _ h=>h) (Or.inr ⟨by rfl,rfl⟩) rfl ?_
 simp only [Act.put,List.setIfInBounds_toArray,List.set_cons_zero,List.set_cons_succ,i64_w,i32_w]
 refine pure_ (i:=9) (N:=some 72) (v:=undef) #[true,true,true,true,true,true,true,true,true,true,false,false,false,false,false,false,false,false,false,false] rfl rfl (by kernel_rfl) (fun _ _ _ h=>h) (Or.inr ⟨by rfl,rfl⟩) rfl ?_
 simp only [Act.put,List.setIfInBounds_toArray,List.set_cons_zero,List.set_cons_succ,i64_w,i32_w]
 refine pure_ (i:=10) (N:=some 73) (v:=undef) #[true,true,true,true,true,true,true,true,true,true,true,false,false,false,false,false,false,false,false,false] rfl rfl (by kernel_rfl) (fun _ _ _ h=>h) (Or.inr ⟨by rfl,rfl⟩) rfl ?_
 simp only [Act.put,List.setIfInBounds_toArray,List.set_cons_zero,List.set_cons_succ,i64_w,i32_w]
 refine pure_ (i:=11) (N:=some 74) (v:=undef) #[true,true,true,true,true,true,true,true,true,true,true,true,false,false,false,false,false,false,false,false] rfl rfl (by kernel_rfl) (fun _ _ _ h=>h) (Or.inr ⟨by rfl,rfl⟩) rfl ?_
 simp only [Act.put,List.setIfInBounds_toArray,List.set_cons_zero,List.set_cons_succ,i64_w,i32_w]
 refine pure_ (i:=12) (N:=some 75) (v:=undef) #[true,true,true,true,true,true,true,true,true,true,true,true,true,false,false,false,false,false,false,false] rfl rfl (by kernel_rfl) (fun _ _ _ h=>h) (Or.inr ⟨by rfl,rfl⟩) rfl ?_
 simp only [Act.put,List.setIfInBounds_toArray,List.set_cons_zero,List.set_cons_succ,i64_w,i32_w]
 refine pure_ (i:=13) (N:=some 76) (v:=undef) #[true,true,true,true,true,true,true,true,true,true,true,true,true,true,false,false,false,false,false,false] rfl rfl (by kernel_rfl) (fun _ _ _ h=>h) (Or.inr ⟨by rfl,rfl⟩) rfl ?_
 simp only [Act.put,List.setIfInBounds_toArray,List.set_cons_zero,List.set_cons_succ,i64_w,i32_w]
 refine pure_ (i:=14) (N:=some 77) (v:=undef) #[true,true,true,true,true,true,true,true,true,true,true,true,true,true,true,false,false,false,false,false] rfl rfl (by kernel_rfl) (fun _ _ _ h=>h) (Or.inr ⟨by rfl,rfl⟩) rfl ?_
 simp only [Act.put,List.setIfInBounds_toArray,List.set_cons_zero,List.set_cons_succ,i64_w,i32_w]
 refine pure_ (i:=15) (N:=some 78) (v:=undef) #[true,true,true,true,true,true,true,true,true,true,true,true,true,true,true,true,false,false,false,false] rfl rfl (by kernel_rfl) (fun _ _ _ h=>h) (Or.inr ⟨by rfl,rfl⟩) rfl ?_
 simp only [Act.put,List.setIfInBounds_toArray,List.set_cons_zero,List.set_cons_succ,i64_w,i32_w]
 refine pure_ (i:=16) (N:=some 79) (v:=undef) #[true,true,true,true,true,true,true,true,true,true,true,true,true,true,true,true,true,false,false,false] rfl rfl (by kernel_rfl) (fun _ _ _ h=>h) (Or.inr ⟨by rfl,rfl⟩) rfl ?_
 simp only [Act.put,List.setIfInBounds_toArray,List.set_cons_zero,List.set_cons_succ,i64_w,i32_w]
 refine pure_ (i:=17) (N:=some 80) (v:=undef) #[true,true,true,true,true,true,true,true,true,true,true,true,true,true,true,true,true,true,false,false] rfl rfl (by kernel_rfl) (fun _ _ _ h=>h) (Or.inr ⟨by rfl,rfl⟩) rfl ?_
 simp only [Act.put,List.setIfInBounds_toArray,List.set_cons_zero,List.set_cons_succ,i64_w,i32_w]
 refine pure_ (i:=18) (N:=some 81) (v:=?_) (a':=?_) #[true,true,true,true,true,true,true,true,true,true,true,true,true,true,true,true,true,true,true,false] rfl rfl (by kernel_rfl) (fun _ _ _ h=>h) (Or.inl ⟨by rfl,?_⟩) ?_ ?_
 rotate_left
 ·intro w'
  go_simp
  with_reducible rfl
 rotate_left
 ·simp only [Act.put,List.setIfInBounds_toArray,List.set_cons_zero,List.set_cons_succ,i64_w,i32_w]
  rfl
 refine pure_ (i:=19) (N:=some 82) (v:=?_) (a':=?_) #[true,true,true,true,true,true,true,true,true,true,true,true,true,true,true,true,true,true,true,true] rfl rfl (by kernel_rfl) (fun _ _ _ h=>h) (Or.inl ⟨by rfl,?_⟩) ?_ ?_
 rotate_left
 ·intro w'
  go_simp
  with_reducible rfl
 rotate_left
 ·simp only [Act.put,List.setIfInBounds_toArray,List.set_cons_zero,List.set_cons_succ,i64_w,i32_w]
  rfl
 refine done_ (by kernel_rfl) ?_
 refine Norm.mk ?_
 exact ⟨_,_,_,_,_,_,_,_,_,_,_,_,_,_,_,_,_,_,_, rfl,Lib.hid ((bd1 (Below.refl w0.heap.size w0)).trans hb3)⟩
theorem R13c (w0:World) (g p:Nat) (s:ByteArray) (jv:Int) (q:ByteArray) (ad:Addr) (n c m:Nat) (r:Bool) (c0:w0.cell? ⟨p,0,none⟩=some (.string s)) (c2:w0.cell? ⟨g,2,none⟩=some (.slice (some ad) n c)) (cq:w0.cell? (ad.add (m*5))=some (.string q)) (hA:nm s=true) (hj:decide ((0:Int)<jv)=true) (hw:IntKind.i64.wrap (jv - 1)=(m:Int)) (hm:m<n) (hnc:n≤c) (hr:(Op.bytesLess s.toList q.toList || s.toList == q.toList)=r) {y0 y2 y3 y4 y5 y6 y7 y10 y11 y12 y13 y14 y15 y16 y17 y18 y19 y20 y21 y22 y23 y24 y25 y26 y27 y28 y29 y30 y31 y32 y33 y34 y35 y36 y37 y38 y39 y40 y41 y42 y43 y44 y45 y46 y47 y48 y49 y50 y51 y52 y53 y54 y55 y56 y57 y58 y59 y60 y61 y62 y63 y64 y65 y66 y67 y68 y69 y70 y71 y72 y73 y74 y75 y76 y77 y78 y79 y80 y81 y82 y83 y84 y85 y86 y87 y88:Value} :
  Code.wp Try.prog (codeR13 (Try.f30.body.getD .skip)) (Norm fun a' W=>∃ (e63 e64 e65 e66 e67 e68 e69 e70 e71 e72 e73 e74 e75 e76 e77 e78 e79 e80 e81:Value),a'={ tmps:=#[y0,(.pointer (some ⟨g,0,none⟩)),y2,y3,y4,y5,y6,y7,(.int .i64 jv),(.pointer (some ⟨p,0,none⟩)),y10,y11,y12,y13,y14,y15,y16,y17,y18,y19,y20,y21,y22,y23,y24,y25,y26,y27,y28,y29,y30,y31,y32,y33,y34,y35,y36,y37,y38,y39,y40,y41,y42,y43,y44,y45,y46,y47,y48,y49,y50,y51,y52,y53,y54,y55,y56,y57,y58,y59,y60,y61,y62,e63,e64,e65,e66,e67,e68,e69,e70,e71,e72,e73,e74,e75,e76,e77,e78,e79,e80,e81,(.bool r),y83,y84,y85,y86,y87,y88],defers:=[] }∧Hid (Below w0.heap.size w0 W)) { tmps:=#[y0,(.pointer (some ⟨g,0,none⟩)),y2,y3,y4,y5,y6,y7,(.int .i64 jv),(.pointer (some ⟨p,0,none⟩)),y10,y11,y12,y13,y14,y15,y16,y17,y18,y19,y20,y21,y22,y23,y24,y25,y26,y27,y28,y29,y30,y31,y32,y33,y34,y35,y36,y37,y38,y39,y40,y41,y42,y43,y44,y45,y46,y47,y48,y49,y50,y51,y52,y53,y54,y55,y56,y57,y58,y59,y60,y61,y62,y63,y64,y65,y66,y67,y68,y69,y70,y71,y72,y73,y74,y75,y76,y77,y78,y79,y80,y81,y82,y83,y84,y85,y86,y87,y88],defers:=[] } w0:=by
 unfold Try.f30
 dsimp only [Option.getD,postC,left,right,inner,bodyT,codeR13]
 have HS0:=Lib.hid (show (fun W:World=>W.cell? ⟨p,0,none⟩=some (.string s)∧W.cell? ⟨g,2,none⟩=some (.slice (some ad) n c)∧W.cell? (ad.add (m*5))=some (.string q)) w0.drew from ⟨c0,c2,cq⟩)
 clear c0 c2 cq
 go_region_held3 (fun W=>W.cell? ⟨p,0,none⟩=some (.string s)∧W.cell? ⟨g,2,none⟩=some (.slice (some ad) n c)∧W.cell? (ad.add (m*5))=some (.string q)) (first|exact HS0.out|exact HS3.out) (first|(go_at_call 69;refine (isn_ s _).mono ?_;rintro e w3 ⟨rfl,hb3⟩;have HS3:=Lib.hid (show (fun W:World=>W.cell? ⟨p,0,none⟩=some (.string s)∧W.cell? ⟨g,2,none⟩=some (.slice (some ad) n c)∧W.cell? (ad.add (m*5))=some (.string q)) w3 from ⟨(hb3.cell (World.block_lt_of_cell? _ _ HS0.out.1)).trans HS0.out.1,(hb3.cell (World.block_lt_of_cell? _ _ HS0.out.2.1)).trans HS0.out.2.1,(hb3.cell (World.block_lt_of_cell? _ _ HS0.out.2.2)).trans HS0.out.2.2⟩);have HB3:=Lib.hid hb3;clear hb3;rw [hA]))
 all_goals
  refine Norm.mk ?_
  exact ⟨_,_,_,_,_,_,_,_,_,_,_,_,_,_,_,_,_,_,_, rfl,Lib.hid ((bd1 (Below.refl w0.heap.size w0)).trans HB3.out)⟩
end Go.Proofs.Ytbeikcckcjadbaa.Im
end
section
namespace Go.Proofs.Ytbeikcckcjadbaa.Im
open Go.RowKit Go.Proofs.YtbeikcckcjadbaaW.PrintWords Go.Proofs.Ytbeikcckcjadbaa.PI Go.ChangeMaps Go.MapKept
attribute [local go_sem] isSome_setCell
theorem make112 (n:Int) (w:World):(Instr.makeMap 112 (some (.int .i64 n))).run Try.prog w=.ok (.map (some w.heap.size)) (w.alloc (.map #[] 0)):=by
 simp [Instr.makeMap,run_underlying Try.underlying112,asInt,asIntOf,Result.andThen]
theorem cells2 {wr w3:World} {C D:Array Value} {tC tD:TypeId} (hb:Below ((wr.alloc (.cells C tC)).alloc (.cells D tD)).heap.size ((wr.alloc (.cells C tC)).alloc (.cells D tD)) w3) :
  w3.heap[wr.heap.size]?=some (.cells C tC (0,0))∧w3.heap[wr.heap.size+1]?=some (.cells D tD (0,0))∧(∀ i,i<wr.heap.size→w3.heap[i]?=wr.heap[i]?)∧Below wr.heap.size wr w3:=by
 have hs:(wr.alloc (.cells C tC)).heap.size=wr.heap.size+1:=World.size_alloc wr _
 have h2:Below wr.heap.size wr w3:=(((Below.refl wr.heap.size wr).alloc (Nat.le_refl _) _).alloc (by rw [hs];omega) _).trans (hb.mono (by rw [World.size_alloc,hs];omega))
 refine ⟨bkB (bkA (blk_new wr _) _) hb,?_,fun i hi=>h2.block i hi,h2⟩
 have:=bkB (blk_new (wr.alloc (.cells C tC)) (.cells D tD)) hb
 rwa [hs] at this
theorem cells1 {wr w3:World} {C:Array Value} {tC:TypeId} (hb:Below (wr.alloc (.cells C tC)).heap.size (wr.alloc (.cells C tC)) w3) :
  w3.heap[wr.heap.size]?=some (.cells C tC (0,0))∧Below wr.heap.size wr w3:=
 ⟨bkB (blk_new wr _) hb,((Below.refl wr.heap.size wr).alloc (Nat.le_refl _) _).trans (hb.mono (by rw [World.size_alloc];omega))⟩
theorem Seen.look_out {w:World} {b:Nat} {ks:List Value} (h:Seen w b ks) {key:Value} {kl:Lit} (hkey:keyOf Try.prog 114 key=some kl) (hk:¬ key∈ks) :
  (Instr.lookup 112 (.map (some b)) key false).run Try.prog w=.ok (.int .i64 0) w:=by
 haveI:Decidable (key∈ks):=.isFalse hk
 have:=h.look hkey
 rwa [if_neg hk] at this
def keysOf (fs:List S68):Nat→List Value
 | 0=>[]
 | k+1=>kv (rd_T68 fs (k:Int)).f0 (rd_T68 fs (k:Int)).f1 :: keysOf fs k
def okF (fs:List S68) (j:Nat):Prop:=nm (rd_T68 fs (j:Int)).f0=true∧0≤(rd_T68 fs (j:Int)).f1∧(rd_T68 fs (j:Int)).f1<64∧¬ kv (rd_T68 fs (j:Int)).f0 (rd_T68 fs (j:Int)).f1∈keysOf fs j
def okT (ts:List S56) (j:Nat):Prop:=nm (rd_T56 ts (j:Int)).f0=true∧(0<j→Op.bytesLess (rd_T56 ts ((j - 1:Nat):Int)).f0.toList (rd_T56 ts (j:Int)).f0.toList=true)
def BadName (fs:List S68) (ts:List S56) (k:Int) (bad:Bool):Prop:=
 (∃ i,i<fs.length∧(∀ j,j<i→okF fs j)∧¬ okF fs i∧k=(i:Int)∧bad=true) ∨
 ((∀ j,j<fs.length→okF fs j)∧∃ i,i<ts.length∧(∀ j,j<i→okT ts j)∧¬ okT ts i∧k=(fs.length:Int)+i∧bad=true) ∨
 ((∀ j,j<fs.length→okF fs j)∧(∀ j,j<ts.length→okT ts j)∧k=0∧bad=false)
def FitF (f:S68):Prop:=f.f0.size≤maxLen∧(Lit.int .i64 f.f1).wf=true
theorem bnam_ (w:World) (A0 A1 A2:Option Addr) (c0 c1 c2:Nat) (xs:List S54) (fs:List S68) (ts:List S56) (en:Int)
  (h1:Kd.C k68 w A1 fs.length fs) (h2:Kd.C k56 w A2 ts.length ts) (l1:fs.length≤c1) (l2:ts.length≤c2) (hf:∀ f∈fs,FitF f) (hn1:fs.length≤4611686018427387904) (hn2:ts.length≤4611686018427387904) :
  Calls Try.prog 30 #[.agg #[.slice A0 xs.length c0,.slice A1 fs.length c1,.slice A2 ts.length c2,.int .i64 en]] w fun e w'=>∃ (k:Int) (bad:Bool),e=.returned (.tuple #[.int .i64 k,.bool bad])∧BadName fs ts k bad∧Below w.heap.size w w':=by
 have HC1:=Lib.hid h1
 have HC2:=Lib.hid h2
 have HFF:=Lib.hid hf
 have hmk:=make112
 clear h1 h2 hf
 go_enter Try.func30,Try.ntmps30
 refine wp_seq_k (fun K hK=>?_)
 have HK:=Lib.hid hK
 clear hK
 go_wp2
 refine HK.out _ _ ?_
 clear HK
 refine wp_seq_k (fun K hK=>?_)
 have HK:=Lib.hid hK
 clear hK
 go_wp2
 refine HK.out _ _ ?_
 clear HK
 have HS0:=Lib.hid (show Below w.heap.size w ((w.alloc (.cells #[.slice A0 xs.length c0,.slice A1 fs.length c1,.slice A2 ts.length c2,.int .i64 en] 26)).alloc (.map #[] 0))∧((w.alloc (.cells #[.slice A0 xs.length c0,.slice A1 fs.length c1,.slice A2 ts.length c2,.int .i64 en] 26)).alloc (.map #[] 0)).heap[w.heap.size]?=some (.cells #[.slice A0 xs.length c0,.slice A1 fs.length c1,.slice A2 ts.length c2,.int .i64 en] 26 (0,0))∧Seen ((w.alloc (.cells #[.slice A0 xs.length c0,.slice A1 fs.length c1,.slice A2 ts.length c2,.int .i64 en] 26)).alloc (.map #[] 0)) (w.heap.size+1) (keysOf fs 0) from by
  have hs:(w.alloc (.cells #[.slice A0 xs.length c0,.slice A1 fs.length c1,.slice A2 ts.length c2,.int .i64 en] 26)).heap.size=w.heap.size+1:=World.size_alloc w _
  refine ⟨bdA (bdA (Below.refl _ _) _) _,bkA (blk_new w _) _,?_⟩
  have:=Seen.made (w.alloc (.cells #[.slice A0 xs.length c0,.slice A1 fs.length c1,.slice A2 ts.length c2,.int .i64 en] 26))
  rwa [hs] at this)
 clear hmk
 refine wp_seq_k (fun KL hKL=>?_)
 have HKL1:=Lib.hid hKL
 clear hKL
 go_wp2
 go_loopw [17] (fun iv wr=>∃ k:Nat,k≤fs.length∧iv=.int .i64 (k:Int)∧Hid (∀ j,j<k→okF fs j)∧Hid (Below w.heap.size w wr∧wr.heap[w.heap.size]?=some (.cells #[.slice A0 xs.length c0,.slice A1 fs.length c1,.slice A2 ts.length c2,.int .i64 en] 26 (0,0))∧Seen wr (w.heap.size+1) (keysOf fs k))) (fun iv _=>fs.length - (RowKit.intOf iv).toNat)
 case atStart=>exact ⟨0,Nat.zero_le _,rfl,Lib.hid fun j hj=>absurd hj (Nat.not_lt_zero _),HS0⟩
 case round =>
  obtain ⟨k,hk,rfl,HOK,HS⟩:=hrel
  clear HS0
  by_cases hlt:k<fs.length
  ·obtain ⟨ad,rfl,hx0,hx1,hx2,hx3⟩:=at_T68 HC1.out (k:Int) (Int.natCast_nonneg k) (by exact_mod_cast hlt)
   simp only [Int.toNat_natCast] at hx0 hx1 hx2 hx3
   have HFK:=Lib.hid (HFF.out (rd_T68 fs (k:Int)) (by unfold rd_T68;rw [Int.toNat_natCast];rw [List.getD_eq_getElem?_getD,List.getElem?_eq_getElem hlt];exact List.getElem_mem hlt))
   obtain ⟨s,es⟩:∃ s,s=(rd_T68 fs (k:Int)).f0:=⟨_,rfl⟩
   obtain ⟨o,eo⟩:∃ o,o=(rd_T68 fs (k:Int)).f1:=⟨_,rfl⟩
   rw [← es] at hx0
   rw [← eo] at hx1
   obtain ⟨kl,hkl⟩:=key_of s o (es ▸ HFK.out.1) (eo ▸ HFK.out.2)
   have HKL:=Lib.hid hkl
   have d0:=(HS.out.1.cell (World.block_lt_of_cell? w _ hx0)).trans hx0
   have d1:=(HS.out.1.cell (World.block_lt_of_cell? w _ hx1)).trans hx1
   have d2:=(HS.out.1.cell (World.block_lt_of_cell? w _ hx2)).trans hx2
   have d3:=(HS.out.1.cell (World.block_lt_of_cell? w _ hx3)).trans hx3
   clear hx0 hx1 hx2 hx3 hkl HFK
   obtain ⟨p2,ep2⟩:∃ p2,p2=(rd_T68 fs (k:Int)).f2:=⟨_,rfl⟩
   obtain ⟨p3,ep3⟩:∃ p3,p3=(rd_T68 fs (k:Int)).f3:=⟨_,rfl⟩
   rw [← ep2] at d2
   rw [← ep3] at d3
   have hOK:okF fs k↔(nm s=true∧0≤o∧o<64∧¬ kv s o∈keysOf fs k):=by unfold okF;rw [← es,← eo]
   have HIF:=Lib.hid hOK
   have hkeys:keysOf fs (k+1)=kv s o :: keysOf fs k:=by show kv _ _ :: _=_;rw [← es,← eo]
   have HKS:=Lib.hid hkeys
   clear es eo ep2 ep3 hOK hkeys
   refine wp_seq_k (fun K hK=>?_)
   have HK:=Lib.hid hK
   clear hK
   go_wp2
   refine HK.out _ _ ?_
   clear HK
   refine wp_seq_k (fun K hK=>?_)
   have HK:=Lib.hid hK
   clear hK
   go_wp2
   refine HK.out _ _ ?_
   clear HK
   refine wp_seq_k (fun KB hKB=>?_)
   have HKB:=Lib.hid hKB
   clear hKB
   refine wp_block ?_
   refine wp_seq_k (fun K hK=>?_)
   have HK:=Lib.hid hK
   clear hK
   go_wp2
   refine HK.out _ _ ?_
   clear HK
   refine wp_seq_k (fun K hK=>?_)
   have HK:=Lib.hid hK
   clear hK
   go_wp2
   refine HK.out _ _ ?_
   clear HK d0 d1 d2 d3
   refine wp_seq_k (fun K6 hK6=>?_)
   have HK6:=Lib.hid hK6
   clear hK6
   cases hA:nm s with
   | false =>
     go_wp2_with (go_at_call 69;refine (isn_ s _).mono ?_;rintro e w3 ⟨rfl,hb3⟩;have H3:=Lib.hid (cells2 hb3);clear hb3;have k0:=(bkC H3.out.1 0).trans (show _=some (.string s) from rfl);have k1:=(bkC H3.out.1 1).trans (show _=some (.int .i64 o) from rfl);have m0:=(bkC H3.out.2.1 0).trans (show _=some (.string s) from rfl);have m1:=(bkC H3.out.2.1 1).trans (show _=some (.int .i64 o) from rfl);rw [hA])
     go_ret2
     exact ⟨_,_,rfl,.inl ⟨k,hlt,HOK.out,fun h=>by have:=(HIF.out.1 h).1;rw [hA] at this;exact absurd this (by decide),rfl,rfl⟩,HS.out.1.trans (H3.out.2.2.2.mono HS.out.1.size)⟩
   | true =>
    by_cases hB:o<0
    ·have hBd:decide (o<0)=true:=decide_eq_true hB
     go_wp2_with (go_at_call 69;refine (isn_ s _).mono ?_;rintro e w3 ⟨rfl,hb3⟩;have H3:=Lib.hid (cells2 hb3);clear hb3;have k0:=(bkC H3.out.1 0).trans (show _=some (.string s) from rfl);have k1:=(bkC H3.out.1 1).trans (show _=some (.int .i64 o) from rfl);have m0:=(bkC H3.out.2.1 0).trans (show _=some (.string s) from rfl);have m1:=(bkC H3.out.2.1 1).trans (show _=some (.int .i64 o) from rfl);rw [hA])
     go_ret2
     exact ⟨_,_,rfl,.inl ⟨k,hlt,HOK.out,fun h=>by have:=(HIF.out.1 h).2.1;omega,rfl,rfl⟩,HS.out.1.trans (H3.out.2.2.2.mono HS.out.1.size)⟩
    by_cases hC:o≥64
    ·have hBd:decide (o<0)=false:=decide_eq_false hB
     go_wp2_with (go_at_call 69;refine (isn_ s _).mono ?_;rintro e w3 ⟨rfl,hb3⟩;have H3:=Lib.hid (cells2 hb3);clear hb3;have k0:=(bkC H3.out.1 0).trans (show _=some (.string s) from rfl);have k1:=(bkC H3.out.1 1).trans (show _=some (.int .i64 o) from rfl);have m0:=(bkC H3.out.2.1 0).trans (show _=some (.string s) from rfl);have m1:=(bkC H3.out.2.1 1).trans (show _=some (.int .i64 o) from rfl);rw [hA])
     go_ret2
     exact ⟨_,_,rfl,.inl ⟨k,hlt,HOK.out,fun h=>by have:=(HIF.out.1 h).2.2.1;omega,rfl,rfl⟩,HS.out.1.trans (H3.out.2.2.2.mono HS.out.1.size)⟩
    by_cases hD:kv s o∈keysOf fs k
    ·go_wp2_with (go_at_call 69;refine (isn_ s _).mono ?_;rintro e w3 ⟨rfl,hb3⟩;have H3:=Lib.hid (cells2 hb3);clear hb3;have k0:=(bkC H3.out.1 0).trans (show _=some (.string s) from rfl);have k1:=(bkC H3.out.1 1).trans (show _=some (.int .i64 o) from rfl);have m0:=(bkC H3.out.2.1 0).trans (show _=some (.string s) from rfl);have m1:=(bkC H3.out.2.1 1).trans (show _=some (.int .i64 o) from rfl);rw [hA];have hlk:(Instr.lookup 112 (.map (some (w.heap.size+1))) (.agg #[.string s,.int .i64 o]) false).run Try.prog w3=.ok (.int .i64 1) w3:=(HS.out.2.2.block (H3.out.2.2.1 _ HS.out.2.2.lt)).look_in hD)
     go_ret2
     exact ⟨_,_,rfl,.inl ⟨k,hlt,HOK.out,fun h=>(HIF.out.1 h).2.2.2 hD,rfl,rfl⟩,HS.out.1.trans (H3.out.2.2.2.mono HS.out.1.size)⟩
    go_wp2_with (go_at_call 69;refine (isn_ s _).mono ?_;rintro e w3 ⟨rfl,hb3⟩;have H3:=Lib.hid (cells2 hb3);clear hb3;have k0:=(bkC H3.out.1 0).trans (show _=some (.string s) from rfl);have k1:=(bkC H3.out.1 1).trans (show _=some (.int .i64 o) from rfl);have m0:=(bkC H3.out.2.1 0).trans (show _=some (.string s) from rfl);have m1:=(bkC H3.out.2.1 1).trans (show _=some (.int .i64 o) from rfl);rw [hA];have hlk:(Instr.lookup 112 (.map (some (w.heap.size+1))) (.agg #[.string s,.int .i64 o]) false).run Try.prog w3=.ok (.int .i64 0) w3:=(HS.out.2.2.block (H3.out.2.2.1 _ HS.out.2.2.lt)).look_out HKL.out hD)
    refine HK6.out _ _ ?_
    clear HK6
    refine wp_norm_k (fun R hR=>?_)
    have HR:=Lib.hid hR
    clear hR
    refine Code.wp_mono (Norm.elim ?_) (R8 w3 (w.heap.size+1) _ (keysOf fs k) s o kl (HS.out.2.2.block (H3.out.2.2.1 _ HS.out.2.2.lt)) HKL.out hD m0 m1)
    rintro a' W ⟨e48,e49,e50,e51,e52,e53,rfl,hY⟩
    refine Norm.mk (HR.out _ _ ?_)
    clear HR
    refine HKB.out _ _ ?_
    go_wp2
    go_roundw
    case rel=>exact ⟨k+1,by omega,by go_num,Lib.hid fun j hj=>(Nat.lt_succ_iff_lt_or_eq.1 hj).elim (fun h=>HOK.out j h) (fun h=>by rw [h];exact HIF.out.2 ⟨hA,by omega,by omega,hD⟩),Lib.hid (by
     have hb4:Below w.heap.size w3 W:=hY.out.2.mono (Nat.le_succ _)
     have hb3:Below w.heap.size w w3:=HS.out.1.trans (H3.out.2.2.2.mono HS.out.1.size)
     refine ⟨hb3.trans hb4,?_,by rw [HKS.out];exact hY.out.1⟩
     exact (hY.out.2.block _ (Nat.lt_succ_self _)).trans ((H3.out.2.2.1 _ (blk_lt HS.out.2.1)).trans HS.out.2.1))⟩
    case measure=>simp [RowKit.intOf];omega
  ·obtain rfl:k=fs.length:=by omega
   go_wp2
   refine HKL1.out _ _ ?_
   have e2:=(bkC HS.out.2.1 2).trans (show _=some (Value.slice A2 ts.length c2) from rfl)
   have HOK1:=Lib.hid (show ∀ j,j<fs.length→okF fs j from HOK.out)
   clear HOK HKL1
   refine wp_seq_k (fun KM hKM=>?_)
   have HKM1:=Lib.hid hKM
   clear hKM
   go_wp2
   go_loopw [58] (fun iv wq=>∃ j:Nat,j≤ts.length∧iv=.int .i64 (j:Int)∧Hid (∀ i,i<j→okT ts i)∧Hid (Below w.heap.size w wq∧wq.heap[w.heap.size]?=some (.cells #[.slice A0 xs.length c0,.slice A1 fs.length c1,.slice A2 ts.length c2,.int .i64 en] 26 (0,0)))) (fun iv _=>ts.length - (RowKit.intOf iv).toNat)
   case atStart=>exact ⟨0,Nat.zero_le _,rfl,Lib.hid fun j hj=>absurd hj (Nat.not_lt_zero _),Lib.hid ⟨HS.out.1,HS.out.2.1⟩⟩
   case round =>
    obtain ⟨j,hj,rfl,HOT,HT⟩:=hrel
    clear HS e2
    by_cases hlt:j<ts.length
    ·obtain ⟨ad,rfl,hx0,hx1,hx2,hx3,hx4⟩:=at_T56 HC2.out (j:Int) (Int.natCast_nonneg j) (by exact_mod_cast hlt)
     simp only [Int.toNat_natCast] at hx0 hx1 hx2 hx3 hx4
     obtain ⟨s,es⟩:∃ s,s=(rd_T56 ts (j:Int)).f0:=⟨_,rfl⟩
     rw [← es] at hx0
     have d0:=(HT.out.1.cell (World.block_lt_of_cell? w _ hx0)).trans hx0
     have d1:=(HT.out.1.cell (World.block_lt_of_cell? w _ hx1)).trans hx1
     have d2:=(HT.out.1.cell (World.block_lt_of_cell? w _ hx2)).trans hx2
     have d3:=(HT.out.1.cell (World.block_lt_of_cell? w _ hx3)).trans hx3
     have d4:=(HT.out.1.cell (World.block_lt_of_cell? w _ hx4)).trans hx4
     clear hx0 hx1 hx2 hx3 hx4
     obtain ⟨p1,ep1⟩:∃ p1,p1=(rd_T56 ts (j:Int)).f1:=⟨_,rfl⟩
     obtain ⟨p2,ep2⟩:∃ p2,p2=(rd_T56 ts (j:Int)).f2:=⟨_,rfl⟩
     obtain ⟨p3,ep3⟩:∃ p3,p3=(rd_T56 ts (j:Int)).f3:=⟨_,rfl⟩
     obtain ⟨p4,ep4⟩:∃ p4,p4=(rd_T56 ts (j:Int)).f4:=⟨_,rfl⟩
     rw [← ep1] at d1
     rw [← ep2] at d2
     rw [← ep3] at d3
     rw [← ep4] at d4
     have hOK:okT ts j↔(nm s=true∧(0<j→Op.bytesLess (rd_T56 ts ((j - 1:Nat):Int)).f0.toList s.toList=true)):=by unfold okT;rw [← es]
     have HIT:=Lib.hid hOK
     clear es ep1 ep2 ep3 ep4 hOK
     refine wp_seq_k (fun K hK=>?_)
     have HK:=Lib.hid hK
     clear hK
     go_wp2
     refine HK.out _ _ ?_
     clear HK
     refine wp_seq_k (fun K hK=>?_)
     have HK:=Lib.hid hK
     clear hK
     go_wp2
     refine HK.out _ _ ?_
     clear HK
     refine wp_seq_k (fun KB hKB=>?_)
     have HKB:=Lib.hid hKB
     clear hKB
     refine wp_block ?_
     refine wp_seq_k (fun K hK=>?_)
     have HK:=Lib.hid hK
     clear hK
     go_wp2
     refine HK.out _ _ ?_
     clear HK d0 d1 d2 d3 d4
     have h2e:∀ (v0 v1 v2 v3 v4:Value),Below w.heap.size w (wr.alloc (.cells #[v0,v1,v2,v3,v4] 56)):=fun v0 v1 v2 v3 v4=>bdA HT.out.1 _
     have h2g:∀ (v0 v1 v2 v3 v4:Value),(wr.alloc (.cells #[v0,v1,v2,v3,v4] 56)).heap[w.heap.size]?=some (.cells #[.slice A0 xs.length c0,.slice A1 fs.length c1,.slice (some ad) ts.length c2,.int .i64 en] 26 (0,0)):=fun v0 v1 v2 v3 v4=>bkA HT.out.2 _
     have H2E:=Lib.hid h2e
     have H2G:=Lib.hid h2g
     clear h2e h2g
     refine wp_seq_k (fun KR hKR=>?_)
     have HKR:=Lib.hid hKR
     clear hKR
     refine wp_norm_k (fun R hR=>?_)
     have HR:=Lib.hid hR
     clear hR
     have hend:∀ W:World,Below (wr.alloc (.cells #[.string s,.int .i64 p1,.int .i64 p2,.int .i64 p3,.int .i64 p4] 56)).heap.size (wr.alloc (.cells #[.string s,.int .i64 p1,.int .i64 p2,.int .i64 p3,.int .i64 p4] 56)) W→Below w.heap.size w W∧W.heap[w.heap.size]?=some (.cells #[.slice A0 xs.length c0,.slice A1 fs.length c1,.slice (some ad) ts.length c2,.int .i64 en] 26 (0,0)):=fun W hb=>by
      have h1:=(H2E.out (.string s) (.int .i64 p1) (.int .i64 p2) (.int .i64 p3) (.int .i64 p4))
      exact ⟨h1.trans (hb.mono h1.size),bkB (H2G.out (.string s) (.int .i64 p1) (.int .i64 p2) (.int .i64 p3) (.int .i64 p4)) hb⟩
     have HEND:=Lib.hid hend
     clear hend
     have good:∀ W:World,Below (wr.alloc (.cells #[.string s,.int .i64 p1,.int .i64 p2,.int .i64 p3,.int .i64 p4] 56)).heap.size (wr.alloc (.cells #[.string s,.int .i64 p1,.int .i64 p2,.int .i64 p3,.int .i64 p4] 56)) W→okT ts j→Hid (∀ i,i<j+1→okT ts i)∧Hid (Below w.heap.size w W∧W.heap[w.heap.size]?=some (.cells #[.slice A0 xs.length c0,.slice A1 fs.length c1,.slice (some ad) ts.length c2,.int .i64 en] 26 (0,0))):=fun W hb ho =>
      ⟨Lib.hid fun i hi=>(Nat.lt_succ_iff_lt_or_eq.1 hi).elim (fun h=>HOT.out i h) (fun h=>by rw [h];exact ho),Lib.hid (HEND.out W hb)⟩
     have HGOOD:=Lib.hid good
     clear good
     cases hA:nm s with
     | false =>
      refine Code.wp_mono (Norm.elim ?_) (R13a _ w.heap.size wr.heap.size s (j:Int) ((bkC (blk_new wr _) 0).trans rfl) hA)
      rintro a' W ⟨e63,e64,e65,e66,e67,e68,e69,e70,e71,e72,e73,e74,e75,e76,e77,e78,e79,e80,e81,rfl,hY⟩
      refine Norm.mk (HR.out _ _ ?_)
      clear HR
      refine HKR.out _ _ ?_
      have e1:=(bkC (HEND.out W hY.out).2 1).trans (show _=some (Value.slice A1 fs.length c1) from rfl)
      go_wp2
      go_ret2
      exact ⟨_,_,rfl,.inr (.inl ⟨HOK1.out,j,hlt,HOT.out,fun h=>by have:=(HIT.out.1 h).1;rw [hA] at this;exact absurd this (by decide),by go_num,rfl⟩),(HEND.out W hY.out).1⟩
     | true =>
      by_cases hj0:j=0
      ·refine Code.wp_mono (Norm.elim ?_) (R13b _ w.heap.size wr.heap.size s (j:Int) ((bkC (blk_new wr _) 0).trans rfl) hA (decide_eq_false (by omega)))
       rintro a' W ⟨e63,e64,e65,e66,e67,e68,e69,e70,e71,e72,e73,e74,e75,e76,e77,e78,e79,e80,e81,rfl,hY⟩
       refine Norm.mk (HR.out _ _ ?_)
       clear HR
       refine HKR.out _ _ ?_
       go_wp2
       refine HKB.out _ _ ?_
       go_wp2
       have hg:=HGOOD.out W hY.out (HIT.out.2 ⟨hA,fun h=>absurd hj0 (Nat.ne_of_gt h)⟩)
       go_roundw
       case rel=>exact ⟨j+1,by omega,by go_num,hg.1,hg.2⟩
       case measure=>simp [RowKit.intOf];omega
      ·obtain ⟨ad',he,hy0,_⟩:=at_T56 HC2.out ((j - 1:Nat):Int) (Int.natCast_nonneg _) (by exact_mod_cast (by omega:j - 1<ts.length))
       obtain rfl:ad=ad':=Option.some.inj he
       simp only [Int.toNat_natCast] at hy0
       have cq:=((H2E.out (.string s) (.int .i64 p1) (.int .i64 p2) (.int .i64 p3) (.int .i64 p4)).cell (World.block_lt_of_cell? w _ hy0)).trans hy0
       have hw:IntKind.i64.wrap ((j:Int) - 1)=((j - 1:Nat):Int):=by
        have h1:((j:Int) - 1)=((j - 1:Nat):Int):=by omega
        rw [h1]
        exact IntWalk.i64_in _ (by omega)
       obtain ⟨r,hr⟩:∃ r,(Op.bytesLess s.toList (rd_T56 ts ((j - 1:Nat):Int)).f0.toList || s.toList == (rd_T56 ts ((j - 1:Nat):Int)).f0.toList)=r:=⟨_,rfl⟩
       have HRR:=Lib.hid hr
       refine Code.wp_mono (Norm.elim ?_) (R13c _ w.heap.size wr.heap.size s (j:Int) _ ad ts.length c2 (j - 1) r ((bkC (blk_new wr _) 0).trans rfl) ((bkC (H2G.out (.string s) (.int .i64 p1) (.int .i64 p2) (.int .i64 p3) (.int .i64 p4)) 2).trans rfl) cq hA (decide_eq_true (by omega)) hw (by omega) l2 hr)
       clear cq hw hr hy0
       rintro a' W ⟨e63,e64,e65,e66,e67,e68,e69,e70,e71,e72,e73,e74,e75,e76,e77,e78,e79,e80,e81,rfl,hY⟩
       refine Norm.mk (HR.out _ _ ?_)
       clear HR
       refine HKR.out _ _ ?_
       have HLE:=Lib.hid (leq_less s.toList (rd_T56 ts ((j - 1:Nat):Int)).f0.toList)
       cases r with
       | true =>
        have e1:=(bkC (HEND.out W hY.out).2 1).trans (show _=some (Value.slice A1 fs.length c1) from rfl)
        go_wp2
        go_ret2
        exact ⟨_,.inr ⟨rfl,.inr (.inl ⟨HOK1.out,j,hlt,HOT.out,fun h=>by have h1:=(HIT.out.1 h).2 (by omega);have h2:=HLE.out;rw [HRR.out,h1] at h2;exact absurd h2 (by decide),by go_num,rfl⟩),(HEND.out W hY.out).1⟩⟩
       | false =>
        go_wp2
        refine HKB.out _ _ ?_
        go_wp2
        have hg:=HGOOD.out W hY.out (HIT.out.2 ⟨hA,fun h=>by have h2:=HLE.out;rw [HRR.out] at h2;simpa using h2.symm⟩)
        go_roundw
        case rel=>exact ⟨j+1,by omega,by go_num,hg.1,hg.2⟩
        case measure=>simp [RowKit.intOf];omega
    ·obtain rfl:j=ts.length:=by omega
     go_wp2
     refine HKM1.out _ _ ?_
     go_wp2
     go_ret2
     exact ⟨_,_,rfl,.inr (.inr ⟨HOK1.out,HOT.out,rfl,rfl⟩),HT.out.1⟩
end Go.Proofs.Ytbeikcckcjadbaa.Im
end
section
namespace Go.Proofs.Ytbeikcckcjadbaa.Im
open Go.RowKit Go.Proofs.YtbeikcckcjadbaaW.PrintWords Go.Proofs.Ytbeikcckcjadbaa.PI Go.ChangeMaps Go.MapKept
attribute [local go_sem] isSome_setCell
def chkv (m n f t e i:Int × Bool):Int × Int:=
 if m.2=true then (m.1,171) else if n.2=true then (n.1,172) else if f.2=true then (f.1,173) else if t.2=true then (t.1,174) else if e.2=true then (e.1,175) else if i.2=true then (i.1,176) else (0,0)
def ChkPost (w:World) (fs:List S68) (ts:List S56) (m f t e i:Int × Bool) (ed:Ending) (w':World):Prop:=
 ∃ (nk:Int) (nb:Bool),(m.2=true∨BadName fs ts nk nb)∧ed=.returned (.tuple #[.int .i64 (chkv m (nk,nb) f t e i).1,.int .i64 (chkv m (nk,nb) f t e i).2])∧Below w.heap.size w w'
theorem chkw_ (w:World) (k:Nat) (A0 A1 A2:Option Addr) (c0 c1 c2:Nat) (xs:List S54) (fs:List S68) (ts:List S56) (en:Int)
  (h0:Kd.C k54 w A0 xs.length xs) (h1:Kd.C k68 w A1 fs.length fs) (h2:Kd.C k56 w A2 ts.length ts) (l0:xs.length≤c0) (l1:fs.length≤c1) (l2:ts.length≤c2) (hf:∀ f∈fs,FitF f) (hn1:fs.length≤4611686018427387904) (hn2:ts.length≤4611686018427387904)
  (m1 f1 t1 e1 i1:Int) (mb fb tb eb ib:Bool) (hM:image_many.f k xs fs ts en=some (m1,mb)) (hFu:imbF.f k xs fs ts en=some (f1,fb)) (hTa:imbT.f k xs fs ts en=some (t1,tb)) (hEn:image_badEntry.f xs fs ts en=some (e1,eb)) (hIn:imbI.f k xs fs ts en=some (i1,ib)) :
  Calls Try.prog 14 #[.agg #[.slice A0 xs.length c0,.slice A1 fs.length c1,.slice A2 ts.length c2,.int .i64 en]] w (ChkPost w fs ts (m1,mb) (f1,fb) (t1,tb) (e1,eb) (i1,ib)):=by
 have HC0:=Lib.hid h0
 have HC1:=Lib.hid h1
 have HC2:=Lib.hid h2
 have HF:=Lib.hid hf
 have HM:=Lib.hid hM
 have HFu:=Lib.hid hFu
 have HTa:=Lib.hid hTa
 have HEn:=Lib.hid hEn
 have HIn:=Lib.hid hIn
 clear h0 h1 h2 hf hM hFu hTa hEn hIn
 go_enter Try.func14,Try.ntmps14
 refine wp_seq_k (fun K hK=>?_)
 have HK:=Lib.hid hK
 clear hK
 go_wp2
 refine HK.out _ _ ?_
 clear HK
 have HB:=Lib.hid (show Below w.heap.size w (w.alloc (.cells #[.slice A0 xs.length c0,.slice A1 fs.length c1,.slice A2 ts.length c2,.int .i64 en] 26))∧(w.alloc (.cells #[.slice A0 xs.length c0,.slice A1 fs.length c1,.slice A2 ts.length c2,.int .i64 en] 26)).heap[w.heap.size]?=some (.cells #[.slice A0 xs.length c0,.slice A1 fs.length c1,.slice A2 ts.length c2,.int .i64 en] 26 (0,0)) from ⟨bdA (Below.refl _ _) _,blk_new w _⟩)
 refine wp_seq_k (fun K hK=>?_)
 have HK:=Lib.hid hK
 clear hK
 have d0:=(bkC HB.out.2 0).trans (show _=some (Value.slice A0 xs.length c0) from rfl)
 have d1:=(bkC HB.out.2 1).trans (show _=some (Value.slice A1 fs.length c1) from rfl)
 have d2:=(bkC HB.out.2 2).trans (show _=some (Value.slice A2 ts.length c2) from rfl)
 have d3:=(bkC HB.out.2 3).trans (show _=some (Value.int .i64 en) from rfl)
 refine wp_seq_k (fun K5 hK5=>?_)
 have HK5:=Lib.hid hK5
 clear hK5
 go_wp2_with (go_at_call 29;refine (image_many.calls k A0 c0 xs A1 c1 fs A2 c2 ts en m1 mb _ (Kd.CbW HC0.out HB.out.1) l0 (Kd.CbW HC1.out HB.out.1) l1 (Kd.CbW HC2.out HB.out.1) l2 HM.out).mono ?_;rintro e w' ⟨rfl,hb⟩;have HB2:=Lib.hid (show Below w.heap.size w w'∧w'.heap[w.heap.size]?=some (.cells #[.slice A0 xs.length c0,.slice A1 fs.length c1,.slice A2 ts.length c2,.int .i64 en] 26 (0,0)) from ⟨HB.out.1.trans (hb.mono HB.out.1.size),bkB HB.out.2 hb⟩);clear hb)
 refine HK5.out _ _ ?_
 clear HK5 d0 d1 d2 d3 HB
 have HB:=HB2
 clear HB2
 cases mb with
 | true =>
  go_wp2
  go_ret2
  unfold ChkPost
  exact ⟨0,false,Or.inl rfl,rfl,HB.out.1⟩
 | false =>
 go_wp2
 refine HK.out _ _ ?_
 clear HK
 refine wp_seq_k (fun K hK=>?_)
 have HK:=Lib.hid hK
 clear hK
 have d0:=(bkC HB.out.2 0).trans (show _=some (Value.slice A0 xs.length c0) from rfl)
 have d1:=(bkC HB.out.2 1).trans (show _=some (Value.slice A1 fs.length c1) from rfl)
 have d2:=(bkC HB.out.2 2).trans (show _=some (Value.slice A2 ts.length c2) from rfl)
 have d3:=(bkC HB.out.2 3).trans (show _=some (Value.int .i64 en) from rfl)
 refine wp_seq_k (fun K5 hK5=>?_)
 have HK5:=Lib.hid hK5
 clear hK5
 go_wp2_with (go_at_call 30;refine (bnam_ _ A0 A1 A2 c0 c1 c2 xs fs ts en (Kd.CbW HC1.out HB.out.1) (Kd.CbW HC2.out HB.out.1) l1 l2 HF.out hn1 hn2).mono ?_;rintro e w' ⟨nk,nb,rfl,hbn,hb⟩;have HN:=Lib.hid hbn;clear hbn;have HB2:=Lib.hid (show Below w.heap.size w w'∧w'.heap[w.heap.size]?=some (.cells #[.slice A0 xs.length c0,.slice A1 fs.length c1,.slice A2 ts.length c2,.int .i64 en] 26 (0,0)) from ⟨HB.out.1.trans (hb.mono HB.out.1.size),bkB HB.out.2 hb⟩);clear hb)
 refine HK5.out _ _ ?_
 clear HK5 d0 d1 d2 d3 HB
 have HB:=HB2
 clear HB2
 cases nb with
 | true =>
  go_wp2
  go_ret2
  unfold ChkPost
  exact ⟨nk,true,.inr HN.out,rfl,HB.out.1⟩
 | false =>
 go_wp2
 refine HK.out _ _ ?_
 clear HK
 refine wp_seq_k (fun K hK=>?_)
 have HK:=Lib.hid hK
 clear hK
 have d0:=(bkC HB.out.2 0).trans (show _=some (Value.slice A0 xs.length c0) from rfl)
 have d1:=(bkC HB.out.2 1).trans (show _=some (Value.slice A1 fs.length c1) from rfl)
 have d2:=(bkC HB.out.2 2).trans (show _=some (Value.slice A2 ts.length c2) from rfl)
 have d3:=(bkC HB.out.2 3).trans (show _=some (Value.int .i64 en) from rfl)
 refine wp_seq_k (fun K5 hK5=>?_)
 have HK5:=Lib.hid hK5
 clear hK5
 go_wp2_with (go_at_call 31;refine (imbF.calls k A0 c0 xs A1 c1 fs A2 c2 ts en f1 fb _ (Kd.CbW HC0.out HB.out.1) l0 (Kd.CbW HC1.out HB.out.1) l1 (Kd.CbW HC2.out HB.out.1) l2 HFu.out).mono ?_;rintro e w' ⟨rfl,hb⟩;have HB2:=Lib.hid (show Below w.heap.size w w'∧w'.heap[w.heap.size]?=some (.cells #[.slice A0 xs.length c0,.slice A1 fs.length c1,.slice A2 ts.length c2,.int .i64 en] 26 (0,0)) from ⟨HB.out.1.trans (hb.mono HB.out.1.size),bkB HB.out.2 hb⟩);clear hb)
 refine HK5.out _ _ ?_
 clear HK5 d0 d1 d2 d3 HB
 have HB:=HB2
 clear HB2
 cases fb with
 | true =>
  go_wp2
  go_ret2
  unfold ChkPost
  exact ⟨nk,false,.inr HN.out,rfl,HB.out.1⟩
 | false =>
 go_wp2
 refine HK.out _ _ ?_
 clear HK
 refine wp_seq_k (fun K hK=>?_)
 have HK:=Lib.hid hK
 clear hK
 have d0:=(bkC HB.out.2 0).trans (show _=some (Value.slice A0 xs.length c0) from rfl)
 have d1:=(bkC HB.out.2 1).trans (show _=some (Value.slice A1 fs.length c1) from rfl)
 have d2:=(bkC HB.out.2 2).trans (show _=some (Value.slice A2 ts.length c2) from rfl)
 have d3:=(bkC HB.out.2 3).trans (show _=some (Value.int .i64 en) from rfl)
 refine wp_seq_k (fun K5 hK5=>?_)
 have HK5:=Lib.hid hK5
 clear hK5
 go_wp2_with (go_at_call 32;refine (imbT.calls k A0 c0 xs A1 c1 fs A2 c2 ts en t1 tb _ (Kd.CbW HC0.out HB.out.1) l0 (Kd.CbW HC1.out HB.out.1) l1 (Kd.CbW HC2.out HB.out.1) l2 HTa.out).mono ?_;rintro e w' ⟨rfl,hb⟩;have HB2:=Lib.hid (show Below w.heap.size w w'∧w'.heap[w.heap.size]?=some (.cells #[.slice A0 xs.length c0,.slice A1 fs.length c1,.slice A2 ts.length c2,.int .i64 en] 26 (0,0)) from ⟨HB.out.1.trans (hb.mono HB.out.1.size),bkB HB.out.2 hb⟩);clear hb)
 refine HK5.out _ _ ?_
 clear HK5 d0 d1 d2 d3 HB
 have HB:=HB2
 clear HB2
 cases tb with
 | true =>
  go_wp2
  go_ret2
  unfold ChkPost
  exact ⟨nk,false,.inr HN.out,rfl,HB.out.1⟩
 | false =>
 go_wp2
 refine HK.out _ _ ?_
 clear HK
 refine wp_seq_k (fun K hK=>?_)
 have HK:=Lib.hid hK
 clear hK
 have d0:=(bkC HB.out.2 0).trans (show _=some (Value.slice A0 xs.length c0) from rfl)
 have d1:=(bkC HB.out.2 1).trans (show _=some (Value.slice A1 fs.length c1) from rfl)
 have d2:=(bkC HB.out.2 2).trans (show _=some (Value.slice A2 ts.length c2) from rfl)
 have d3:=(bkC HB.out.2 3).trans (show _=some (Value.int .i64 en) from rfl)
 refine wp_seq_k (fun K5 hK5=>?_)
 have HK5:=Lib.hid hK5
 clear hK5
 go_wp2_with (go_at_call 33;refine (image_badEntry.calls A0 c0 xs A1 c1 fs A2 c2 ts en e1 eb _ (Kd.CbW HC0.out HB.out.1) l0 (Kd.CbW HC1.out HB.out.1) l1 (Kd.CbW HC2.out HB.out.1) l2 HEn.out).mono ?_;rintro e w' ⟨rfl,hb⟩;have HB2:=Lib.hid (show Below w.heap.size w w'∧w'.heap[w.heap.size]?=some (.cells #[.slice A0 xs.length c0,.slice A1 fs.length c1,.slice A2 ts.length c2,.int .i64 en] 26 (0,0)) from ⟨HB.out.1.trans (hb.mono HB.out.1.size),bkB HB.out.2 hb⟩);clear hb)
 refine HK5.out _ _ ?_
 clear HK5 d0 d1 d2 d3 HB
 have HB:=HB2
 clear HB2
 cases eb with
 | true =>
  go_wp2
  go_ret2
  unfold ChkPost
  exact ⟨nk,false,.inr HN.out,rfl,HB.out.1⟩
 | false =>
 go_wp2
 refine HK.out _ _ ?_
 clear HK
 refine wp_seq_k (fun K hK=>?_)
 have HK:=Lib.hid hK
 clear hK
 have d0:=(bkC HB.out.2 0).trans (show _=some (Value.slice A0 xs.length c0) from rfl)
 have d1:=(bkC HB.out.2 1).trans (show _=some (Value.slice A1 fs.length c1) from rfl)
 have d2:=(bkC HB.out.2 2).trans (show _=some (Value.slice A2 ts.length c2) from rfl)
 have d3:=(bkC HB.out.2 3).trans (show _=some (Value.int .i64 en) from rfl)
 refine wp_seq_k (fun K5 hK5=>?_)
 have HK5:=Lib.hid hK5
 clear hK5
 go_wp2_with (go_at_call 34;refine (imbI.calls k A0 c0 xs A1 c1 fs A2 c2 ts en i1 ib _ (Kd.CbW HC0.out HB.out.1) l0 (Kd.CbW HC1.out HB.out.1) l1 (Kd.CbW HC2.out HB.out.1) l2 HIn.out).mono ?_;rintro e w' ⟨rfl,hb⟩;have HB2:=Lib.hid (show Below w.heap.size w w'∧w'.heap[w.heap.size]?=some (.cells #[.slice A0 xs.length c0,.slice A1 fs.length c1,.slice A2 ts.length c2,.int .i64 en] 26 (0,0)) from ⟨HB.out.1.trans (hb.mono HB.out.1.size),bkB HB.out.2 hb⟩);clear hb)
 refine HK5.out _ _ ?_
 clear HK5 d0 d1 d2 d3 HB
 have HB:=HB2
 clear HB2
 cases ib with
 | true =>
  go_wp2
  go_ret2
  unfold ChkPost
  exact ⟨nk,false,.inr HN.out,rfl,HB.out.1⟩
 | false =>
 go_wp2
 refine HK.out _ _ ?_
 clear HK
 go_wp2
 go_ret2
 unfold ChkPost
 exact ⟨nk,false,.inr HN.out,rfl,HB.out.1⟩
end Go.Proofs.Ytbeikcckcjadbaa.Im
end
section
namespace Go.Proofs.Ytbeikcckcjadbaa.Im
open Go.RowKit Go.Proofs.YtbeikcckcjadbaaW.PrintWords Go.Proofs.Ytbeikcckcjadbaa.PI
theorem w64 (n:Int) (h0:-9223372036854775808≤n) (h1:n<9223372036854775808):wrap64 n=n:=by unfold wrap64;omega
theorem w64_succ (i:Nat) (h:i<4611686018427387904):wrap64 ((i:Int)+1)=((i+1:Nat):Int):=by rw [w64 _ (by omega) (by omega)];rfl
theorem w64_two (s:Int):wrap64 (wrap64 (s+1)+1)=wrap64 (s+2):=by unfold wrap64;omega
def conv (p:Int × Bool):Int:=if p.2=true then p.1 else -1
def slE (xs:List S54):Nat→Nat→Int→Int
 | 0,_,s=>s
 | d+1,i,s=>slE xs d (i+1) (wrap64 (s+if (rd_T54 xs (i:Int)).f0=24 then 2 else 1))
theorem length_l (xs:List S54) (hx:xs.length≤4611686018427387904):∀ (d i k:Nat) (s:Int),i+d=xs.length→d<k→image_length.l0 k s xs (xs.length:Int) (i:Int)=some (slE xs d i s)
 | 0,i,k+1,s,h,hk=>by
  unfold image_length.l0 slE
  rw [if_neg (by omega)]
 | d+1,i,k+1,s,h,hk=>by
  unfold image_length.l0 slE
  rw [if_pos (by omega),if_pos (by omega),if_pos (by omega),w64_succ i (by omega)]
  unfold image_slots.f
  split
  ·exact length_l xs hx d (i+1) k _ (by omega) (by omega)
  ·exact length_l xs hx d (i+1) k _ (by omega) (by omega)
theorem Slots_l (xs:List S54) (hx:xs.length≤4611686018427387904):∀ (d i k:Nat) (s:Int),i+d=xs.length→d<k→spindleref17_Slots.l0 k xs s (i:Int)=some (slE xs d i s)
 | 0,i,k+1,s,h,hk=>by
  unfold spindleref17_Slots.l0 slE
  rw [if_neg (by omega)]
 | d+1,i,k+1,s,h,hk=>by
  unfold spindleref17_Slots.l0 slE
  rw [if_pos (by omega),if_pos (by omega),w64_succ i (by omega),w64_two]
  unfold spindleref17_wide.f
  by_cases e:(rd_T54 xs (i:Int)).f0=24
  ·rw [if_pos e]
   simp only [Option.bind_some,e,beq_self_eq_true,if_true]
   exact Slots_l xs hx d (i+1) k _ (by omega) (by omega)
  ·rw [if_neg e]
   have e2:((rd_T54 xs (i:Int)).f0 == 24)=false:=beq_eq_false_iff_ne.2 e
   simp only [Option.bind_some,e2,Bool.false_eq_true,if_false]
   exact Slots_l xs hx d (i+1) k _ (by omega) (by omega)
def manyE (xs:List S54) (fs:List S68) (ts:List S56):Int × Bool:=
 if slE xs xs.length 0 0 > 1048576 then (0,true) else if (fs.length:Int) > 4096 then (1,true) else if (ts.length:Int) > 1024 then (2,true) else (0,false)
theorem many_i (k:Nat) (xs:List S54) (fs:List S68) (ts:List S56) (en:Int) (hx:xs.length≤4611686018427387904) (hk:xs.length<k):image_many.f k xs fs ts en=some (manyE xs fs ts):=by
 unfold image_many.f image_length.f manyE
 have:=length_l xs hx xs.length 0 k 0 (by omega) hk
 rw [show ((0:Nat):Int)=0 from rfl] at this
 rw [this]
 simp only [Option.bind_some]
 repeat' split
 all_goals rfl
theorem many_r (k:Nat) (xs:List S54) (fs:List S68) (ts:List S56) (en:Int) (hx:xs.length≤4611686018427387904) (hk:xs.length<k):spindleref17_many.f k xs fs ts en=some (conv (manyE xs fs ts)):=by
 unfold spindleref17_many.f spindleref17_Slots.f manyE conv
 have:=Slots_l xs hx xs.length 0 k 0 (by omega) hk
 rw [show ((0:Nat):Int)=0 from rfl] at this
 rw [this]
 simp only [Option.bind_some]
 repeat' split
 all_goals simp_all
def cutE (xs:List S54) (fs:List S68):Nat→Nat→Int→Int × Bool
 | 0,_,at_=>((fs.length:Int),decide (at_<(xs.length:Int)))
 | d+1,i,at_ =>
  if (rd_T68 fs (i:Int)).f2=at_ then (if (rd_T68 fs (i:Int)).f3<1 then ((i:Int),true) else if (rd_T68 fs (i:Int)).f3 > wrap64 ((xs.length:Int) - at_) then ((i:Int),true) else cutE xs fs d (i+1) (wrap64 (at_+(rd_T68 fs (i:Int)).f3))) else ((i:Int),true)
theorem cut_i (xs:List S54) (fs:List S68) (ts:List S56) (en:Int) (hf:fs.length≤4611686018427387904):∀ (d i k:Nat) (at_:Int),i+d=fs.length→d<k→imbF.l0 k at_ fs (fs.length:Int) (i:Int) xs fs ts en=some (cutE xs fs d i at_)
 | 0,i,k+1,at_,h,hk=>by
  unfold imbF.l0 cutE
  rw [if_neg (by omega)]
 | d+1,i,k+1,at_,h,hk=>by
  unfold imbF.l0 cutE
  rw [if_pos (by omega),if_pos (by omega),if_pos (by omega),w64_succ i (by omega)]
  repeat' split
  all_goals first|rfl|exact cut_i xs fs ts en hf d (i+1) k _ (by omega) (by omega)
theorem cut_r (xs:List S54) (fs:List S68) (ts:List S56) (en:Int) (hf:fs.length≤4611686018427387904):∀ (d i k:Nat) (at_:Int),i+d=fs.length→d<k→sr17u.l0 k at_ (i:Int) xs fs ts en=some (conv (cutE xs fs d i at_))
 | 0,i,k+1,at_,h,hk=>by
  unfold sr17u.l0 cutE conv
  rw [if_neg (by omega)]
  split <;> simp_all
 | d+1,i,k+1,at_,h,hk=>by
  unfold sr17u.l0 cutE
  rw [if_pos (by omega),if_pos (by omega),w64_succ i (by omega)]
  repeat' split
  all_goals first|rfl|exact cut_r xs fs ts en hf d (i+1) k _ (by omega) (by omega)
theorem held_fits (a b c d e:Int):image_held.f a b c d e=spindleref17_fits.f a b c d e:=by
 have h1:(decide (d<32768))=decide (d≤32767):=by rw [decide_eq_decide];omega
 unfold image_held.f spindleref17_fits.f spindleref17_wide.f
 by_cases h:a=24
 ·subst h
  simp [h1]
 ·have h2:(a == 24)=false:=beq_eq_false_iff_ne.2 h
  have h3:(e<2147483648)=(e≤2147483647):=by apply propext;omega
  simp only [h,h2,if_false,Option.bind_some,Bool.false_eq_true,h1,h3]
theorem held_some (a b c d e:Int):∃ r,image_held.f a b c d e=some r:=by
 unfold image_held.f
 repeat' split
 all_goals exact ⟨_,rfl⟩
def insE (xs:List S54):Nat→Nat→Int × Bool
 | 0,_=>(0,false)
 | d+1,i=>if image_held.f (rd_T54 xs (i:Int)).f0 (rd_T54 xs (i:Int)).f1 (rd_T54 xs (i:Int)).f2 (rd_T54 xs (i:Int)).f3 (rd_T54 xs (i:Int)).f4=some true then insE xs d (i+1) else ((i:Int),true)
theorem ins_i (xs:List S54) (hx:xs.length≤4611686018427387904):∀ (d i k:Nat),i+d=xs.length→d<k→imbI.l0 k xs (xs.length:Int) (i:Int)=some (insE xs d i)
 | 0,i,k+1,h,hk=>by
  unfold imbI.l0 insE
  rw [if_neg (by omega)]
 | d+1,i,k+1,h,hk=>by
  unfold imbI.l0 insE
  rw [if_pos (by omega),if_pos (by omega),if_pos (by omega),w64_succ i (by omega)]
  obtain ⟨r,hr⟩:=held_some (rd_T54 xs (i:Int)).f0 (rd_T54 xs (i:Int)).f1 (rd_T54 xs (i:Int)).f2 (rd_T54 xs (i:Int)).f3 (rd_T54 xs (i:Int)).f4
  rw [hr]
  cases r with
  | true=>simpa using ins_i xs hx d (i+1) k (by omega) (by omega)
  | false=>simp
theorem ins_r (xs:List S54) (fs:List S68) (ts:List S56) (en:Int) (hx:xs.length≤4611686018427387904):∀ (d i k:Nat),i+d=xs.length→d<k→sr17c.l0 k (i:Int) xs fs ts en=some (if (insE xs d i).2=true then ((insE xs d i).1,176) else (0,0))
 | 0,i,k+1,h,hk=>by
  unfold sr17c.l0 insE
  rw [if_neg (by omega)]
  rfl
 | d+1,i,k+1,h,hk=>by
  unfold sr17c.l0 insE
  rw [if_pos (by omega),if_pos (by omega),w64_succ i (by omega),← held_fits]
  obtain ⟨r,hr⟩:=held_some (rd_T54 xs (i:Int)).f0 (rd_T54 xs (i:Int)).f1 (rd_T54 xs (i:Int)).f2 (rd_T54 xs (i:Int)).f3 (rd_T54 xs (i:Int)).f4
  rw [hr]
  cases r with
  | true=>simpa using ins_r xs fs ts en hx d (i+1) k (by omega) (by omega)
  | false=>simp
end Go.Proofs.Ytbeikcckcjadbaa.Im
end
section
namespace Go.Proofs.Ytbeikcckcjadbaa.Im
open Go.RowKit Go.Proofs.YtbeikcckcjadbaaW.PrintWords Go.Proofs.Ytbeikcckcjadbaa.PI
theorem and8 (q r:Nat) (hr:r<8) (hq:q<2305843009213693952):(8*q+r) &&& 18446744073709551608=8*q:=by
 have e:18446744073709551608=2 ^ 3*(2 ^ 61 - 1):=by decide
 rw [e]
 apply Nat.eq_of_testBit_eq
 intro i
 rw [Nat.testBit_and,show 8*q+r=2 ^ 3*q+r from rfl,Nat.testBit_two_pow_mul_add q hr,show 8*q=2 ^ 3*q from rfl,Nat.testBit_two_pow_mul,Nat.testBit_two_pow_mul]
 by_cases h:i<3
 ·have h':¬ 3≤i:=by omega
  simp [h,h']
 ·have h':3≤i:=by omega
  rw [Nat.testBit_two_pow_sub_one]
  simp only [h,if_false,h',decide_true,Bool.true_and]
  by_cases h2:i - 3<61
  ·simp [h2]
  ·have:q.testBit (i - 3)=false:=Nat.testBit_lt_two_pow (Nat.lt_of_lt_of_le hq (by
    have:(2305843009213693952:Nat)=2 ^ 61:=by decide
    rw [this];exact Nat.pow_le_pow_right (by decide) (by omega)))
   simp [this]
theorem andn7 (a:Nat) (ha:a<9223372036854775808):Go.bits .andNot .i64 (a:Int) 7=((8*(a / 8):Nat):Int):=by
 have h1:a &&& 18446744073709551608=8*(a / 8):=by
  have:=and8 (a / 8) (a % 8) (Nat.mod_lt _ (by decide)) (by omega)
  rwa [Nat.div_add_mod] at this
 show IntKind.i64.wrap ((BitVec.ofInt 64 (a:Int) &&& ~~~BitVec.ofInt 64 ((7:Nat):Int)).toNat:Int)=_
 rw [BitVec.toNat_and,BitVec.toNat_not]
 have e1:(BitVec.ofInt 64 (a:Int)).toNat=a:=by simp [BitVec.toNat_ofInt];omega
 have e2:2 ^ 64 - 1 - (BitVec.ofInt 64 ((7:Nat):Int)).toNat=18446744073709551608:=by decide
 rw [e1,e2,h1]
 exact IntWalk.i64_in _ (by omega)
theorem andn (n:Nat) (h:n<4097):Go.bits .andNot .i64 (wrap64 ((n:Int)+7)) 7=wrap64 ((wrap64 (Int.tdiv (wrap64 ((n:Int)+7)) 8))*8):=by
 have h1:wrap64 ((n:Int)+7)=((n+7:Nat):Int):=by rw [w64 _ (by omega) (by omega)];omega
 have h2:Int.tdiv ((n+7:Nat):Int) 8=(((n+7) / 8:Nat):Int):=by
  rw [Int.tdiv_eq_ediv_of_nonneg (by omega)]
  omega
 rw [h1,andn7 _ (by omega),h2,w64 (((n+7) / 8:Nat):Int) (by omega) (by omega),w64 ((((n+7) / 8:Nat):Int)*8) (by omega) (by omega)]
 omega
theorem room_size (s:ByteArray) (k a b c:Int) (h0:1≤b) (h1:b≤4096):image_room.f s k a b c=spindleref12_TableSize.f s k a b c:=by
 obtain ⟨n,rfl⟩:∃ n:Nat,b=n:=⟨b.toNat,by omega⟩
 unfold image_room.f spindleref12_TableSize.f
 rw [andn n (by omega)]
theorem fits_may (s:ByteArray) (k a b c:Int):imFt.f s k a b c=sr12m.f s k a b c:=by
 by_cases hb:1≤b∧b≤4096
 ·unfold imFt.f sr12m.f
  rw [room_size s k a b c hb.1 hb.2]
  repeat' split
  all_goals first|rfl|omega
 ·unfold imFt.f sr12m.f
  repeat' split
  all_goals first|rfl|omega
theorem fits_some (s:ByteArray) (k a b c:Int):∃ r,imFt.f s k a b c=some r∧(r=true→1≤b∧b≤4096):=by
 unfold imFt.f image_room.f
 simp only [Option.bind_some]
 repeat' split
 all_goals exact ⟨_,rfl,fun _=>by first|omega|contradiction⟩
def tabE (ts:List S56):Nat→Nat→Int→Int × Bool
 | 0,_,s=>((ts.length:Int),decide (s > 67108864))
 | d+1,i,s=>if imFt.f (rd_T56 ts (i:Int)).f0 (rd_T56 ts (i:Int)).f1 (rd_T56 ts (i:Int)).f2 (rd_T56 ts (i:Int)).f3 (rd_T56 ts (i:Int)).f4=some true then tabE ts d (i+1) (wrap64 (s+((image_room.f (rd_T56 ts (i:Int)).f0 (rd_T56 ts (i:Int)).f1 (rd_T56 ts (i:Int)).f2 (rd_T56 ts (i:Int)).f3 (rd_T56 ts (i:Int)).f4).getD 0))) else ((i:Int),true)
theorem tab_i (xs:List S54) (fs:List S68) (ts:List S56) (en:Int) (hx:ts.length≤4611686018427387904):∀ (d i k:Nat) (s:Int),i+d=ts.length→d<k→imbT.l0 k s ts (ts.length:Int) (i:Int) xs fs ts en=some (tabE ts d i s)
 | 0,i,k+1,s,h,hk=>by
  unfold imbT.l0 tabE
  rw [if_neg (by omega)]
 | d+1,i,k+1,s,h,hk=>by
  unfold imbT.l0 tabE
  rw [if_pos (by omega),if_pos (by omega),if_pos (by omega),w64_succ i (by omega)]
  obtain ⟨r,hr,_⟩:=fits_some (rd_T56 ts (i:Int)).f0 (rd_T56 ts (i:Int)).f1 (rd_T56 ts (i:Int)).f2 (rd_T56 ts (i:Int)).f3 (rd_T56 ts (i:Int)).f4
  rw [hr]
  cases r with
  | true =>
   unfold image_room.f
   simpa using tab_i xs fs ts en hx d (i+1) k _ (by omega) (by omega)
  | false=>simp
theorem tab_r (xs:List S54) (fs:List S68) (ts:List S56) (en:Int) (hx:ts.length≤4611686018427387904):∀ (d i k:Nat) (s:Int),i+d=ts.length→d<k→sr17h.l0 k s (i:Int) xs fs ts en=some (conv (tabE ts d i s))
 | 0,i,k+1,s,h,hk=>by
  unfold sr17h.l0 tabE conv
  rw [if_neg (by omega)]
  split <;> simp_all
 | d+1,i,k+1,s,h,hk=>by
  unfold sr17h.l0 tabE
  rw [if_pos (by omega),if_pos (by omega),w64_succ i (by omega),← fits_may]
  obtain ⟨r,hr,hb⟩:=fits_some (rd_T56 ts (i:Int)).f0 (rd_T56 ts (i:Int)).f1 (rd_T56 ts (i:Int)).f2 (rd_T56 ts (i:Int)).f3 (rd_T56 ts (i:Int)).f4
  rw [hr]
  cases r with
  | true =>
   have hb:=hb rfl
   rw [← room_size _ _ _ _ _ hb.1 hb.2]
   unfold image_room.f
   simpa using tab_r xs fs ts en hx d (i+1) k _ (by omega) (by omega)
  | false=>simp [conv]
theorem entry_i (xs:List S54) (fs:List S68) (ts:List S56) (en:Int):image_badEntry.f xs fs ts en=some (0,decide (en<0∨en≥(fs.length:Int))):=by
 unfold image_badEntry.f
 split <;> simp_all <;> omega
end Go.Proofs.Ytbeikcckcjadbaa.Im
end
section
namespace Go.Proofs.Ytbeikcckcjadbaa.Im
open Go.RowKit Go.Proofs.YtbeikcckcjadbaaW.PrintWords Go.Proofs.Ytbeikcckcjadbaa.PI
def letE (c:Int):Bool:=decide (97≤c∧c≤122) || decide (65≤c∧c≤90) || decide (c=95)
def innE (c:Int):Bool:=letE c || decide (48≤c∧c≤57) || decide (c=46) || decide (c=36)
theorem letter_ (c:Int):spindleref5_letter.f c=some (letE c):=by
 have e:(c == 95)=decide (c=95):=rfl
 unfold spindleref5_letter.f letE
 rw [e]
 repeat' split
 all_goals simp_all <;> omega
theorem inner_ (c:Int):spindleref5_inner.f c=some (innE c):=by
 have e:(c == 36)=decide (c=36):=rfl
 unfold spindleref5_inner.f innE
 rw [letter_,e]
 simp only [Option.bind_some]
 repeat' split
 all_goals simp_all <;> omega
theorem okc_nat:∀ n:Nat,n<256→okc true (n:Int)=letE (n:Int)∧okc false (n:Int)=innE (n:Int):=by decide +kernel
theorem okc_bt (s:ByteArray) (i:Int):okc true (bt s i)=letE (bt s i)∧okc false (bt s i)=innE (bt s i):=by
 have:=bt_range s i
 obtain ⟨n,hn⟩:∃ n:Nat,bt s i=n:=⟨(bt s i).toNat,by omega⟩
 rw [hn]
 exact okc_nat n (by omega)
theorem word_l (s:ByteArray) (hs:s.size≤64):∀ (d i k:Nat),i+d=s.size→d<k→spindleref5_Word.l0 k s (i:Int)=some (decide (∀ j,j<s.size→i≤j→innE (bt s (j:Int))=true))
 | 0,i,k+1,h,hk=>by
  unfold spindleref5_Word.l0
  rw [if_neg (by omega),decide_eq_true (fun j h1 h2=>absurd h2 (by omega))]
 | d+1,i,k+1,h,hk=>by
  unfold spindleref5_Word.l0
  rw [if_pos (by omega),if_pos (by omega),w64_succ i (by omega),inner_]
  simp only [Option.bind_some]
  split
  ·rename_i hi
   rw [word_l s hs d (i+1) k (by omega) (by omega)]
   congr 1
   rw [decide_eq_decide]
   constructor
   ·intro hh j h2 h1
    rcases Nat.eq_or_lt_of_le h1 with rfl|h3
    ·exact hi
    ·exact hh j h2 h3
   ·exact fun hh j h2 h1=>hh j h2 (by omega)
  ·rename_i hi
   rw [decide_eq_false (fun hh=>hi (hh i (by omega) (Nat.le_refl _)))]
theorem let_inn (c:Int) (h:letE c=true):innE c=true:=by unfold innE;rw [h];rfl
theorem word_ (s:ByteArray) (k:Nat) (hk:70<k):spindleref5_Word.f k s=some (nm s):=by
 obtain ⟨k,rfl⟩:∃ m,k=m+1:=⟨k - 1,by omega⟩
 unfold spindleref5_Word.f
 by_cases h0:(s.size:Int)<1
 ·rw [if_pos h0]
  simp only [spindleref5_Word.j0,if_true]
  have:nm s=false:=decide_eq_false fun h=>h.1 (by omega)
  rw [this]
 ·rw [if_neg h0]
  by_cases h1:(s.size:Int) > 64
  ·rw [if_pos h1]
   simp only [spindleref5_Word.j0,if_true]
   have:nm s=false:=decide_eq_false fun h=>by have:=h.2.1;omega
   rw [this]
  ·rw [if_neg h1,if_pos (by omega),letter_]
   simp only [Option.bind_some]
   cases hl:letE (bt s 0) with
   | false =>
    simp only [spindleref5_Word.j0,Bool.not_false,if_true]
    have:nm s=false:=decide_eq_false fun h=>by
     have h3:=h.2.2 0 (by omega)
     rw [decide_eq_true rfl,show ((0:Nat):Int)=0 from rfl,(okc_bt s 0).1,hl] at h3
     exact absurd h3 (by decide)
    rw [this]
   | true =>
    have e:=word_l s (by omega) s.size 0 k (by omega) (by omega)
    simp only [spindleref5_Word.j0,Bool.not_true,Bool.false_eq_true,if_false]
    rw [show (0:Int)=((0:Nat):Int) from rfl,e]
    congr 1
    unfold nm
    rw [decide_eq_decide]
    constructor
    ·intro hh
     refine ⟨by omega,by omega,fun j hj=>?_⟩
     by_cases e0:j=0
     ·subst e0
      rw [decide_eq_true rfl,show ((0:Nat):Int)=0 from rfl,(okc_bt s 0).1,hl]
     ·rw [decide_eq_false e0,(okc_bt s j).2]
      exact hh j hj (Nat.zero_le _)
    ·rintro ⟨_,_,hh⟩ j hj _
     by_cases e0:j=0
     ·subst e0
      exact let_inn _ hl
     ·have:=hh j hj
      rwa [decide_eq_false e0,(okc_bt s j).2] at this
end Go.Proofs.Ytbeikcckcjadbaa.Im
end
section
namespace Go.Proofs.Ytbeikcckcjadbaa.Im
open Go.RowKit Go.Proofs.YtbeikcckcjadbaaW.PrintWords Go.Proofs.Ytbeikcckcjadbaa.PI
def same (fs:List S68) (j:Nat) (s:ByteArray) (o:Int):Prop:=(rd_T68 fs (j:Int)).f0.toList=s.toList∧(rd_T68 fs (j:Int)).f1=o
section
variable (xs:List S54) (fs:List S68) (ts:List S56) (en:Int) (hf:fs.length≤4611686018427387904) (ht:ts.length≤4611686018427387904)
include hf
theorem l1_no (i:Nat) (s:ByteArray) (o p q:Int) (hi:i<fs.length):∀ (d j m:Nat),j+d=i→(∀ j',j≤j'→j'<i→¬ same fs j' s o)→sr17n.l1 (m+d+1) (i:Int) (j:Int) xs fs ts en s o p q=sr17n.l0 m (wrap64 ((i:Int)+1)) xs fs ts en
 | 0,j,m,h,hn=>by
  simp only [sr17n.l1,Nat.add_zero]
  rw [if_neg (by omega)]
 | d+1,j,m,h,hn=>by
  have ih:=l1_no i s o p q hi d (j+1) m (by omega) (fun j' h1 h2=>hn j' (by omega) h2)
  rw [show m+(d+1)+1=(m+d+1)+1 by omega]
  simp only [sr17n.l1]
  rw [if_pos (by omega),if_pos (by omega),if_pos (by omega),w64_succ j (by omega)]
  have hs:=hn j (Nat.le_refl _) (by omega)
  unfold same at hs
  split
  ·split
   ·exact absurd ⟨‹_›,‹_›⟩ hs
   ·exact ih
  ·exact ih
theorem l1_yes (i:Nat) (s:ByteArray) (o p q:Int) (hi:i<fs.length):∀ (d j k:Nat),j+d=i→d<k→(∃ j',j≤j'∧j'<i∧same fs j' s o)→sr17n.l1 k (i:Int) (j:Int) xs fs ts en s o p q=some (i:Int)
 | 0,j,k+1,h,hk,⟨j',h1,h2,_⟩=>by omega
 | d+1,j,k+1,h,hk,⟨j',h1,h2,h3⟩=>by
  simp only [sr17n.l1]
  rw [if_pos (by omega),if_pos (by omega),if_pos (by omega),w64_succ j (by omega)]
  have ih:¬ same fs j s o→sr17n.l1 k (i:Int) ((j+1:Nat):Int) xs fs ts en s o p q=some (i:Int):=fun hs =>
   l1_yes i s o p q hi d (j+1) k (by omega) (by omega) ⟨j',by
    rcases Nat.eq_or_lt_of_le h1 with rfl|h
    ·exact absurd h3 hs
    ·exact h,h2,h3⟩
  split
  ·split
   ·rfl
   ·rename_i h5
    exact ih fun h=>h5 h.2
  ·rename_i h4
   exact ih fun h=>h4 h.1
end
theorem bytes_inj {s t:ByteArray} (h:s.toList=t.toList):s=t:=by
 rw [ByteArray.toList_eq,ByteArray.toList_eq] at h
 cases s with
 | mk a=>cases t with
  | mk b =>
   have:a=b:=Array.toList_inj.1 h
   rw [this]
theorem kv_inj {s t:ByteArray} {o q:Int} (h:kv s o=kv t q):s=t∧o=q:=by
 unfold kv at h
 injection h with h
 have h1:=congrArg Array.toList h
 simp only [List.cons.injEq,Value.string.injEq,Value.int.injEq,and_true,true_and] at h1
 exact h1
theorem mem_keysOf (fs:List S68) (s:ByteArray) (o:Int):∀ i:Nat,kv s o∈keysOf fs i↔∃ j,j<i∧same fs j s o
 | 0=>by simp [keysOf]
 | i+1=>by
  rw [keysOf,List.mem_cons,mem_keysOf fs s o i]
  constructor
  ·rintro (h|⟨j,h1,h2⟩)
   ·obtain ⟨e1,e2⟩:=kv_inj h
    exact ⟨i,Nat.lt_succ_self _,by rw [← e1],e2.symm⟩
   ·exact ⟨j,by omega,h2⟩
  ·rintro ⟨j,h1,h2⟩
   rcases Nat.lt_succ_iff_lt_or_eq.1 h1 with h|rfl
   ·exact .inr ⟨j,h,h2⟩
   ·exact .inl (by rw [bytes_inj h2.1,h2.2])
section
variable (xs:List S54) (fs:List S68) (ts:List S56) (en:Int) (hf:fs.length≤4611686018427387904) (ht:ts.length≤4611686018427387904)
include hf
theorem l0_ok (i m:Nat) (hi:i<fs.length) (hm:70≤m) (h:okF fs i):sr17n.l0 (m+i+3) (i:Int) xs fs ts en=sr17n.l0 m ((i+1:Nat):Int) xs fs ts en:=by
 obtain ⟨h1,h2,h3,h4⟩:=h
 rw [mem_keysOf] at h4
 rw [show m+i+3=(m+i+2)+1 by omega]
 simp only [sr17n.l0]
 rw [if_pos (by omega),if_pos (by omega),word_ _ _ (by omega),h1]
 simp only [Option.bind_some,if_true]
 rw [if_neg (by omega),decide_eq_false (by omega)]
 rw [show m+i+2=(m+i+1)+1 by omega]
 simp only [sr17n.j1,Bool.false_eq_true,if_false]
 have:=l1_no xs fs ts en hf i (rd_T68 fs (i:Int)).f0 (rd_T68 fs (i:Int)).f1 (rd_T68 fs (i:Int)).f2 (rd_T68 fs (i:Int)).f3 hi i 0 m (by omega) (fun j' _ h6 h7=>h4 ⟨j',h6,h7⟩)
 rw [show ((0:Nat):Int)=0 from rfl] at this
 rw [this,w64_succ i (by omega)]
theorem l0_bad (i k:Nat) (hi:i<fs.length) (hk:i+80≤k) (h:¬ okF fs i):sr17n.l0 k (i:Int) xs fs ts en=some (i:Int):=by
 obtain ⟨k,rfl⟩:∃ m,k=m+1+1:=⟨k - 2,by omega⟩
 simp only [sr17n.l0]
 rw [if_pos (by omega),if_pos (by omega),word_ _ _ (by omega)]
 simp only [Option.bind_some]
 have hj:sr17n.j1 (k+1) (i:Int) true xs fs ts en (rd_T68 fs (i:Int)).f0 (rd_T68 fs (i:Int)).f1 (rd_T68 fs (i:Int)).f2 (rd_T68 fs (i:Int)).f3=some (i:Int):=by simp only [sr17n.j1,if_true]
 cases h1:nm (rd_T68 fs (i:Int)).f0 with
 | false=>simpa using hj
 | true =>
  simp only [if_true]
  by_cases h2:(rd_T68 fs (i:Int)).f1<0
  ·rw [if_pos h2];exact hj
  ·rw [if_neg h2]
   by_cases h3:(rd_T68 fs (i:Int)).f1≥64
   ·rw [decide_eq_true h3];exact hj
   ·rw [decide_eq_false h3]
    simp only [sr17n.j1,Bool.false_eq_true,if_false]
    have h4:kv (rd_T68 fs (i:Int)).f0 (rd_T68 fs (i:Int)).f1∈keysOf fs i:=Classical.byContradiction fun h4=>h ⟨h1,by omega,by omega,h4⟩
    rw [mem_keysOf] at h4
    obtain ⟨j',h5,h6⟩:=h4
    have:=l1_yes xs fs ts en hf i (rd_T68 fs (i:Int)).f0 (rd_T68 fs (i:Int)).f1 (rd_T68 fs (i:Int)).f2 (rd_T68 fs (i:Int)).f3 hi i 0 k (by omega) (by omega) ⟨j',Nat.zero_le _,h5,h6⟩
    rwa [show ((0:Nat):Int)=0 from rfl] at this
theorem l0_chain:∀ n:Nat,n≤fs.length→(∀ j,j<n→okF fs j)→∃ c,∀ m,70≤m→sr17n.l0 (m+c) 0 xs fs ts en=sr17n.l0 m (n:Int) xs fs ts en
 | 0,_,_=>⟨0,fun m _=>rfl⟩
 | n+1,hn,h=>by
  obtain ⟨c,hc⟩:=l0_chain n (by omega) fun j hj=>h j (by omega)
  refine ⟨n+3+c,fun m hm=>?_⟩
  rw [show m+(n+3+c)=(m+n+3)+c by omega,hc _ (by omega),l0_ok xs fs ts en hf n m (by omega) hm (h n (Nat.lt_succ_self _))]
include ht
omit hf in
theorem l2_ok (j m:Nat) (hj:j<ts.length) (hm:80≤m) (h:okT ts j):sr17n.l2 (m+1) (j:Int) xs fs ts en=sr17n.l2 m ((j+1:Nat):Int) xs fs ts en:=by
 obtain ⟨h1,h2⟩:=h
 simp only [sr17n.l2]
 rw [if_pos (by omega),if_pos (by omega),word_ _ _ (by omega),h1,w64_succ j (by omega)]
 simp only [Option.bind_some,if_true]
 by_cases h0:(j:Int) > 0
 ·have e:wrap64 ((j:Int) - 1)=((j - 1:Nat):Int):=by rw [w64 _ (by omega) (by omega)];omega
  rw [if_pos h0,e,if_pos (by omega),if_pos (by omega),if_pos (h2 (by omega))]
 ·rw [if_neg h0]
theorem l2_bad (j m:Nat) (hj:j<ts.length) (hm:80≤m) (h:¬ okT ts j):sr17n.l2 (m+1) (j:Int) xs fs ts en=some ((fs.length:Int)+j):=by
 have ew:wrap64 ((fs.length:Int)+j)=(fs.length:Int)+j:=w64 _ (by omega) (by omega)
 simp only [sr17n.l2]
 rw [if_pos (by omega),if_pos (by omega),word_ _ _ (by omega),ew]
 simp only [Option.bind_some]
 cases h1:nm (rd_T56 ts (j:Int)).f0 with
 | false=>simp
 | true =>
  simp only [if_true]
  by_cases h0:(j:Int) > 0
  ·have e:wrap64 ((j:Int) - 1)=((j - 1:Nat):Int):=by rw [w64 _ (by omega) (by omega)];omega
   rw [if_pos h0,e,if_pos (by omega),if_pos (by omega),if_neg (fun h2=>h ⟨h1,fun _=>h2⟩)]
  ·exact absurd ⟨h1,fun h2=>absurd h2 (by omega)⟩ h
omit hf in
theorem l2_chain:∀ n:Nat,n≤ts.length→(∀ j,j<n→okT ts j)→∀ m,80≤m→sr17n.l2 (m+n) 0 xs fs ts en=sr17n.l2 m (n:Int) xs fs ts en
 | 0,_,_,m,_=>rfl
 | n+1,hn,h,m,hm=>by
  rw [show m+(n+1)=(m+1)+n by omega,l2_chain n (by omega) (fun j hj=>h j (by omega)) (m+1) (by omega),l2_ok xs fs ts en ht n m (by omega) hm (h n (Nat.lt_succ_self _))]
theorem named_ (nk:Int) (nb:Bool) (h:BadName fs ts nk nb):∃ F,∀ k,F≤k→sr17n.f k xs fs ts en=some (conv (nk,nb)):=by
 unfold sr17n.f
 rcases (show (∃ i,i<fs.length∧(∀ j,j<i→okF fs j)∧¬ okF fs i∧nk=(i:Int)∧nb=true)∨((∀ j,j<fs.length→okF fs j)∧((∃ i,i<ts.length∧(∀ j,j<i→okT ts j)∧¬ okT ts i∧nk=(fs.length:Int)+i∧nb=true)∨((∀ j,j<ts.length→okT ts j)∧nk=0∧nb=false))) from h.imp id (fun h=>h.elim (fun h=>⟨h.1,.inl h.2⟩) (fun h=>⟨h.1,.inr h.2⟩))) with ⟨i,h1,h2,h3,rfl,rfl⟩|⟨h1,h2⟩
 ·obtain ⟨c,hc⟩:=l0_chain xs fs ts en hf i (by omega) h2
  refine ⟨c+i+80,fun k hk=>?_⟩
  obtain ⟨m,rfl⟩:∃ m,k=m+c:=⟨k - c,by omega⟩
  rw [hc m (by omega),l0_bad xs fs ts en hf i m h1 (by omega) h3]
  rfl
 ·obtain ⟨c,hc⟩:=l0_chain xs fs ts en hf fs.length (Nat.le_refl _) h1
  have hend:∀ m,70≤m→sr17n.l0 (m+1+c) 0 xs fs ts en=sr17n.l2 m 0 xs fs ts en:=fun m hm=>by
   rw [hc _ (by omega)]
   simp only [sr17n.l0]
   rw [if_neg (by omega)]
  rcases h2 with ⟨i,h3,h4,h5,rfl,rfl⟩|⟨h3,rfl,rfl⟩
  ·refine ⟨c+1+i+82,fun k hk=>?_⟩
   obtain ⟨m,rfl⟩:∃ m,k=(m+1+i)+1+c:=⟨k - c - 2 - i,by omega⟩
   rw [hend _ (by omega),l2_chain xs fs ts en ht i (by omega) h4 (m+1) (by omega),l2_bad xs fs ts en hf ht i m h3 (by omega) h5]
   rfl
  ·refine ⟨c+1+ts.length+82,fun k hk=>?_⟩
   obtain ⟨m,rfl⟩:∃ m,k=(m+1+ts.length)+1+c:=⟨k - c - 2 - ts.length,by omega⟩
   rw [hend _ (by omega),l2_chain xs fs ts en ht ts.length (Nat.le_refl _) h3 (m+1) (by omega)]
   simp only [sr17n.l2]
   rw [if_neg (by omega)]
   rfl
end
end Go.Proofs.Ytbeikcckcjadbaa.Im
end
section
namespace Go.Proofs.Ytbeikcckcjadbaa.Im
open Go.RowKit Go.Proofs.YtbeikcckcjadbaaW.PrintWords Go.Proofs.Ytbeikcckcjadbaa.PI
theorem conv_pos {p:Int × Bool} (h0:0≤p.1) (h:p.2=true):conv p≥0∧conv p=p.1:=by unfold conv;rw [if_pos h];exact ⟨h0,rfl⟩
theorem conv_neg {p:Int × Bool} (h:¬ p.2=true):¬ conv p≥0:=by unfold conv;rw [if_neg h];omega
theorem manyE_pos (xs:List S54) (fs:List S68) (ts:List S56):0≤(manyE xs fs ts).1:=by
 unfold manyE
 repeat' split
 all_goals decide
theorem cutE_pos (xs:List S54) (fs:List S68):∀ (d i:Nat) (a:Int),0≤(cutE xs fs d i a).1
 | 0,i,a=>by unfold cutE;simp
 | d+1,i,a=>by
  unfold cutE
  repeat' split
  all_goals first|exact Int.natCast_nonneg i|exact cutE_pos xs fs d (i+1) _
theorem tabE_pos (ts:List S56):∀ (d i:Nat) (a:Int),0≤(tabE ts d i a).1
 | 0,i,a=>by unfold tabE;simp
 | d+1,i,a=>by
  unfold tabE
  split
  ·exact tabE_pos ts d (i+1) _
  ·exact Int.natCast_nonneg i
theorem bad_pos {fs:List S68} {ts:List S56} {nk:Int} {nb:Bool} (h:BadName fs ts nk nb):0≤nk:=by
 rcases h with ⟨i,_,_,_,rfl,_⟩|⟨_,i,_,_,_,rfl,_⟩|⟨_,_,rfl,_⟩ <;> omega
theorem bad_ex (fs:List S68) (ts:List S56):∃ nk nb,BadName fs ts nk nb:=by
 by_cases h:∀ j,j<fs.length→okF fs j
 ·by_cases h2:∀ j,j<ts.length→okT ts j
  ·exact ⟨0,false,.inr (.inr ⟨h,h2,rfl,rfl⟩)⟩
  ·have:∃ i,i<ts.length∧¬ okT ts i:=Classical.byContradiction fun hc=>h2 fun j hj=>Classical.byContradiction fun hn=>hc ⟨j,hj,hn⟩
   obtain ⟨i,hi⟩:=this
   have hex:∃ i,(∀ j,j<i→¬ (j<ts.length∧¬ okT ts j))∧i<ts.length∧¬ okT ts i:=by
    induction i using Nat.strongRecOn with
    | _ i ih =>
     by_cases hq:∃ j,j<i∧j<ts.length∧¬ okT ts j
     ·obtain ⟨j,h3,h4⟩:=hq
      exact ih j h3 h4
     ·exact ⟨i,fun j hj hn=>hq ⟨j,hj,hn⟩,hi⟩
   obtain ⟨i,hl,hi1,hi2⟩:=hex
   exact ⟨_,_,.inr (.inl ⟨h,i,hi1,fun j hj=>Classical.byContradiction fun hn=>hl j hj ⟨by omega,hn⟩,hi2,rfl,rfl⟩)⟩
 ·have:∃ i,i<fs.length∧¬ okF fs i:=Classical.byContradiction fun hc=>h fun j hj=>Classical.byContradiction fun hn=>hc ⟨j,hj,hn⟩
  obtain ⟨i,hi⟩:=this
  have hex:∃ i,(∀ j,j<i→¬ (j<fs.length∧¬ okF fs j))∧i<fs.length∧¬ okF fs i:=by
   induction i using Nat.strongRecOn with
   | _ i ih =>
    by_cases hq:∃ j,j<i∧j<fs.length∧¬ okF fs j
    ·obtain ⟨j,h3,h4⟩:=hq
     exact ih j h3 h4
    ·exact ⟨i,fun j hj hn=>hq ⟨j,hj,hn⟩,hi⟩
  obtain ⟨i,hl,hi1,hi2⟩:=hex
  exact ⟨_,_,.inl ⟨i,hi1,fun j hj=>Classical.byContradiction fun hn=>hl j hj ⟨by omega,hn⟩,hi2,rfl,rfl⟩⟩
def RefIs (xs:List S54) (fs:List S68) (ts:List S56) (en r1 r2:Int):Prop:=∃ F,∀ k,F≤k→sr17c.f k xs fs ts en=some (r1,r2)
theorem RefIs.inj {xs:List S54} {fs:List S68} {ts:List S56} {en r1 r2 s1 s2:Int} (h:RefIs xs fs ts en r1 r2) (g:RefIs xs fs ts en s1 s2):r1=s1∧r2=s2:=by
 obtain ⟨F,hF⟩:=h
 obtain ⟨G,hG⟩:=g
 have h1:=hF (F+G) (by omega)
 rw [hG (F+G) (by omega)] at h1
 simp only [Option.some.injEq,Prod.mk.injEq] at h1
 exact ⟨h1.1.symm,h1.2.symm⟩
section
variable (xs:List S54) (fs:List S68) (ts:List S56) (en:Int) (hx:xs.length≤4611686018427387904) (hf:fs.length≤4611686018427387904) (ht:ts.length≤4611686018427387904)
include hx hf ht
theorem ref_chk (nk:Int) (nb:Bool) (h:(manyE xs fs ts).2=true∨BadName fs ts nk nb) :
  RefIs xs fs ts en (chkv (manyE xs fs ts) (nk,nb) (cutE xs fs fs.length 0 0) (tabE ts ts.length 0 0) (0,decide (en<0∨en≥(fs.length:Int))) (insE xs xs.length 0)).1 (chkv (manyE xs fs ts) (nk,nb) (cutE xs fs fs.length 0 0) (tabE ts ts.length 0 0) (0,decide (en<0∨en≥(fs.length:Int))) (insE xs xs.length 0)).2:=by
 by_cases hm:(manyE xs fs ts).2=true
 ·refine ⟨xs.length+1,fun k hk=>?_⟩
  unfold sr17c.f chkv
  rw [many_r k xs fs ts en hx (by omega),if_pos hm]
  simp only [Option.bind_some]
  have hc:=conv_pos (manyE_pos xs fs ts) hm
  rw [if_pos hc.1,hc.2]
 ·have hb:=h.resolve_left hm
  obtain ⟨F,hF⟩:=named_ xs fs ts en hf ht nk nb hb
  refine ⟨F+xs.length+fs.length+ts.length+10,fun k hk=>?_⟩
  obtain ⟨k,rfl⟩:∃ m,k=m+1:=⟨k - 1,by omega⟩
  unfold sr17c.f
  rw [many_r (k+1) xs fs ts en hx (by omega),hF (k+1) (by omega)]
  have hcut:=cut_r xs fs ts en hf fs.length 0 (k+1) 0 (by omega) (by omega)
  have htab:=tab_r xs fs ts en ht ts.length 0 (k+1) 0 (by omega) (by omega)
  have hins:=ins_r xs fs ts en hx xs.length 0 k (by omega) (by omega)
  rw [show ((0:Nat):Int)=0 from rfl] at hcut htab hins
  unfold sr17u.f sr17h.f
  rw [hcut,htab]
  simp only [Option.bind_some]
  rw [if_neg (conv_neg hm)]
  unfold chkv
  rw [if_neg hm]
  by_cases hn:nb=true
  ·have hc:=conv_pos (p:=(nk,nb)) (bad_pos hb) hn
   rw [if_pos hc.1,if_pos (show (nk,nb).2=true from hn),hc.2]
  ·rw [if_neg (conv_neg (p:=(nk,nb)) hn),if_neg (show ¬ (nk,nb).2=true from hn)]
   by_cases hu:(cutE xs fs fs.length 0 0).2=true
   ·have hc:=conv_pos (cutE_pos xs fs fs.length 0 0) hu
    rw [if_pos hc.1,if_pos hu,hc.2]
   ·rw [if_neg (conv_neg hu),if_neg hu]
    by_cases hta:(tabE ts ts.length 0 0).2=true
    ·have hc:=conv_pos (tabE_pos ts ts.length 0 0) hta
     rw [if_pos hc.1,if_pos hta,hc.2]
    ·rw [if_neg (conv_neg hta),if_neg hta]
     simp only [sr17c.j0]
     by_cases he:en<0
     ·rw [if_pos he,if_pos trivial,if_pos (decide_eq_true (.inl he))]
     ·rw [if_neg he]
      by_cases he2:en≥(fs.length:Int)
      ·rw [if_pos (decide_eq_true he2),if_pos (decide_eq_true (.inr he2))]
      ·have e1:decide (en≥(fs.length:Int))=false:=decide_eq_false he2
       have e2:decide (en<0∨en≥(fs.length:Int))=false:=decide_eq_false fun h=>h.elim he he2
       rw [e1,e2,hins]
       simp only [Bool.false_eq_true,if_false]
theorem ref_ex:∃ r1 r2,RefIs xs fs ts en r1 r2:=by
 obtain ⟨nk,nb,h⟩:=bad_ex fs ts
 exact ⟨_,_,ref_chk xs fs ts en hx hf ht nk nb (.inr h)⟩
end
theorem chk_ (w:World) (A0 A1 A2:Option Addr) (c0 c1 c2:Nat) (xs:List S54) (fs:List S68) (ts:List S56) (en r1 r2:Int)
  (h0:Kd.C k54 w A0 xs.length xs) (h1:Kd.C k68 w A1 fs.length fs) (h2:Kd.C k56 w A2 ts.length ts) (l0:xs.length≤c0) (l1:fs.length≤c1) (l2:ts.length≤c2) (hg:∀ f∈fs,FitF f) (hx:xs.length≤4611686018427387904) (hf:fs.length≤4611686018427387904) (ht:ts.length≤4611686018427387904)
  (hr:RefIs xs fs ts en r1 r2) :
  Calls Try.prog 14 #[.agg #[.slice A0 xs.length c0,.slice A1 fs.length c1,.slice A2 ts.length c2,.int .i64 en]] w fun e w'=>e=.returned (.tuple #[.int .i64 r1,.int .i64 r2])∧Below w.heap.size w w':=by
 have hcut:=cut_i xs fs ts en hf fs.length 0 (xs.length+fs.length+ts.length+5) 0 (by omega) (by omega)
 have htab:=tab_i xs fs ts en ht ts.length 0 (xs.length+fs.length+ts.length+5) 0 (by omega) (by omega)
 have hins:=ins_i xs hx xs.length 0 (xs.length+fs.length+ts.length+5) (by omega) (by omega)
 rw [show ((0:Nat):Int)=0 from rfl] at hcut htab hins
 refine (chkw_ w (xs.length+fs.length+ts.length+5) A0 A1 A2 c0 c1 c2 xs fs ts en h0 h1 h2 l0 l1 l2 hg hf ht (manyE xs fs ts).1 (cutE xs fs fs.length 0 0).1 (tabE ts ts.length 0 0).1 0 (insE xs xs.length 0).1 (manyE xs fs ts).2 (cutE xs fs fs.length 0 0).2 (tabE ts ts.length 0 0).2 (decide (en<0∨en≥(fs.length:Int))) (insE xs xs.length 0).2
  (many_i _ xs fs ts en hx (by omega)) hcut htab (entry_i xs fs ts en) hins).mono ?_
 rintro e w' ⟨nk,nb,hb,rfl,hB⟩
 obtain ⟨rfl,rfl⟩:=hr.inj (ref_chk xs fs ts en hx hf ht nk nb hb)
 exact ⟨rfl,hB⟩
end Go.Proofs.Ytbeikcckcjadbaa.Im
end
