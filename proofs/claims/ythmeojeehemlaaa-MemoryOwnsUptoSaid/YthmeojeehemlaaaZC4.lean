/- Parts of the proof, laid together by a program of this session (pack.py): ZA4. Of the kit's print what the claim does not use is left out. -/
import Derived.Test.YthmeojeehemlaaaZC3
import Derived.RegionTactic
import Derived.WalkKit
import Derived.KernelRfl
import Derived.Deep.QuietTactic
import Derived.BigQuiet
import Derived.Laws.MakeOwn
import Derived.Laws.OwnMore
import Derived.OwnWalk
import Derived.Deep.LoopGhost
import Derived.Lib.Hide
import Derived.Deep.RegionWith
import Derived.Laws.IdiomCopy
import Derived.Lib.SliceRun
import Derived.Lib.Walk
import Derived.Deep.RegionLaw
import Derived.Lib.JoinLaws
import Derived.Lib.AppendZeros
import Derived.Lib.Overlaps
import Derived.Laws.Externs
import Derived.Shelf.Spec.SlicesInsert
import Derived.Shelf.Spec.SlicesInsertGrow
set_option linter.unusedVariables false
set_option linter.unusedSimpArgs false
set_option maxRecDepth 100000
set_option maxHeartbeats 16000000
section
section
namespace Go.Proofs.Ythmeojeehemlaaa.Mem
open Go.RowKit Go.Proofs.YthmeojeehemlaaaW.PrintWords
attribute [local go_sem] isSome_setCell
def Blk (w:World) (g:Nat) (t:TypeId) (cs:Array Value):Prop:=w.heap[g]?=some (.cells cs t (0,0))
section
variable {w w':World} {g:Nat} {t:TypeId} {cs:Array Value}
theorem Blk.lt (h:Blk w g t cs):g<w.heap.size:=by
 rcases Nat.lt_or_ge g w.heap.size with hlt|hge
 ·exact hlt
 ·unfold Blk at h;rw [Array.getElem?_eq_none hge] at h;cases h
theorem Blk.cell (h:Blk w g t cs) (i:Nat):w.cell? ⟨g,i,none⟩=cs[i]?:=by
 unfold Blk at h
 simp [World.cell?,h]
theorem Blk.frozen (h:Blk w g t cs) (i:Nat):w.frozen? ⟨g,i,none⟩=false:=by
 unfold Blk at h
 simp [World.frozen?,h]
theorem Blk.set_ (h:Blk w g t cs) (i:Nat) (u:Value):Blk (w.setCell ⟨g,i,none⟩ u) g t (cs.setIfInBounds i u):=by
 unfold Blk at h ⊢
 simp [World.setCell,Array.getElem?_modify,h]
theorem Blk.far (h:Blk w g t cs) {p:Addr} (hp:p.block≠g) (u:Value):Blk (w.setCell p u) g t cs:=by
 unfold Blk at h ⊢
 rw [← h]
 simp [World.setCell,Array.getElem?_modify,hp]
theorem Blk.drewN (h:Blk w g t cs) (n:Nat):Blk (w.drewN n) g t cs:=h
theorem Blk.drew (h:Blk w g t cs):Blk w.drew g t cs:=h
theorem Blk.alloc (h:Blk w g t cs) (o:Obj):Blk (w.alloc o) g t cs:=by
 have hl:=h.lt
 unfold Blk at h ⊢
 rw [← h]
 simp only [World.alloc,Array.getElem?_push]
 rw [if_neg (by omega)]
theorem Blk.new (w:World) (t:TypeId) (cs:Array Value):Blk (w.alloc (.cells cs t)) w.heap.size t cs:=heap_alloc_new w _
theorem Blk.below {B:Nat} (h:Blk w g t cs) (hb:Below B w w') (hB:g<B):Blk w' g t cs:=(hb.block g hB).trans h
end
structure Reg where
 b:Nat
 first:Int
 A:Option Addr
 cap:Nat
 data:List Int
structure RegAt (w:World) (r:Reg):Prop where
 blk:Blk w r.b 108 #[.int .u64 r.first,.slice r.A r.data.length r.cap]
 len:r.data.length≤r.cap
 small:r.cap<9223372036854775808
 first0:0≤r.first
 first1:r.first<18446744073709551616
 row:0<r.data.length→∃ (d:Nat) (cs:Array Value),r.A=some ⟨d,0,none⟩∧Blk w d 5 cs∧r.data.length≤cs.size∧∀ i (h:i<r.data.length),cs[i]?=some (.int .u8 r.data[i])
def order (a b:Int):Int:=if a<b then -1 else if a > b then 1 else 0
theorem compare_ (w:World) (f x:Int):Calls Try.prog 82 #[.int .u64 f,.int .u64 x] w fun e w'=>e=.returned (.int .i64 (order f x))∧w'=w:=by
 rcases Int.lt_trichotomy f x with h|h|h
 ·have e:order f x=-1:=by unfold order;rw [if_pos h]
  rw [e]
  have d:decide (f<x)=true:=decide_eq_true h
  go_enter Try.func82,Try.ntmps82
  go_wp2
  go_ret
  exact ⟨rfl,rfl⟩
 ·subst h
  have e:order f f=0:=by unfold order;rw [if_neg (by omega),if_neg (by omega)]
  rw [e]
  go_enter Try.func82,Try.ntmps82
  go_wp2
  go_ret
  exact ⟨rfl,rfl⟩
 ·have e:order f x=1:=by unfold order;rw [if_neg (by omega),if_pos h]
  rw [e]
  have d:decide (f<x)=false:=decide_eq_false (by omega)
  have d2:decide (x<f)=true:=decide_eq_true h
  have hn:¬ f<x:=by omega
  go_enter Try.func82,Try.ntmps82
  go_wp2
  go_ret
  exact ⟨rfl,rfl⟩
theorem cmp_ (w:World) (b:Nat) (f x:Int) (hc:w.cell? ⟨b,0,none⟩=some (.int .u64 f)) :
  Calls Try.prog 81 #[.pointer (some ⟨b,0,none⟩),.int .u64 x] w fun e w'=>e=.returned (.int .i64 (order f x))∧w'=w:=by
 go_enter Try.func81,Try.ntmps81
 go_wp2_with (go_at_call 82;refine (compare_ _ _ _).mono ?_;rintro e w' ⟨rfl,rfl⟩)
 go_ret
 exact ⟨rfl,rfl⟩
def place (rs:List Reg) (x:Int):Nat:=(rs.takeWhile fun r=>decide (r.first<x)).length
theorem place_le (rs:List Reg) (x:Int):place rs x≤rs.length:=by unfold place;exact (List.takeWhile_sublist _).length_le
def Rising:List Reg→Prop
 | []=>True
 | r :: rs=>(∀ q∈rs,r.first<q.first)∧Rising rs
theorem rising_at:∀ (rs:List Reg) (h:Rising rs) (i j:Nat) (hi:i<j) (hj:j<rs.length),rs[i].first<rs[j].first
 | r :: rs,h,0,j+1,_,hj=>h.1 _ (List.getElem_mem _)
 | r :: rs,h,i+1,j+1,hi,hj=>rising_at rs h.2 i j (by omega) (by simpa using hj)
theorem place_unique:∀ (rs:List Reg) (x:Int) (k:Nat),k≤rs.length→(∀ i (h:i<rs.length),i<k→rs[i].first<x)→(∀ (h:k<rs.length),¬ rs[k].first<x)→place rs x=k
 | [],x,k,hk,_,_=>by simp at hk;subst hk;rfl
 | r :: rs,x,0,_,_,h2=>by
  unfold place
  have h:¬ r.first<x:=h2 (by simp)
  rw [List.takeWhile_cons,if_neg (by simpa using h)];rfl
 | r :: rs,x,k+1,hk,h1,h2=>by
  have ih:=place_unique rs x k (by simpa using hk) (fun i h hi=>by have:=h1 (i+1) (by simpa using h) (by omega);simpa using this) (fun h=>by have:=h2 (by simpa using h);simpa using this)
  unfold place at ih ⊢
  have h:r.first<x:=h1 0 (by simp) (by omega)
  rw [List.takeWhile_cons,if_pos (by simpa using h)]
  simp [ih]
structure RowAt (w:World) (P:Option Addr) (cap:Nat) (rs:List Reg):Prop where
 big:rs.length<4398046511104
 len:rs.length≤cap
 small:cap≤9223372036854775807
 row:(P=none∧cap=0)∨∃ (p:Nat) (cs:Array Value),P=some ⟨p,0,none⟩∧Blk w p 106 cs∧cs.size=cap∧∀ i (h:i<rs.length),cs[i]?=some (.pointer (some ⟨rs[i].b,0,none⟩))
 regs:∀ r∈rs,RegAt w r
theorem RowAt.at_ {w:World} {P:Option Addr} {cap:Nat} {rs:List Reg} (h:RowAt w P cap rs) (i:Nat) (hi:i<rs.length):∃ p,P=some ⟨p,0,none⟩∧w.cell? ⟨p,i,none⟩=some (.pointer (some ⟨rs[i].b,0,none⟩))∧RegAt w rs[i]:=by
 rcases h.row with ⟨_,h0⟩|⟨p,cs,e,hb,hl,hc⟩
 ·have:=h.len;omega
 ·exact ⟨p,e,(hb.cell i).trans (hc i hi),h.regs _ (List.getElem_mem hi)⟩
theorem RegAt.f {w:World} {r:Reg} (h:RegAt w r):w.cell? ⟨r.b,0,none⟩=some (.int .u64 r.first):=h.blk.cell 0
theorem RegAt.d {w:World} {r:Reg} (h:RegAt w r):w.cell? ⟨r.b,1,none⟩=some (.slice r.A r.data.length r.cap):=h.blk.cell 1
theorem search_ (w:World) (P:Option Addr) (cap:Nat) (rs:List Reg) (x:Int) (h:RowAt w P cap rs) (hr:Rising rs) :
  Calls Try.prog 80 #[.slice P rs.length cap,.int .u64 x,.func (.func 81) #[] #[]] w fun e w'=>e=.returned (.tuple #[.int .i64 (place rs x),.bool (decide (∃ r∈rs,r.first=x))])∧w'=w:=by
 have H:=Lib.hid h
 have HR:=Lib.hid hr
 obtain ⟨n,hn⟩:∃ n,n=rs.length:=⟨_,rfl⟩
 have HN:=Lib.hid hn
 have hs:n<4398046511104:=by have:=h.big;omega
 rw [← hn]
 clear h hr hn
 go_enter Try.func80,Try.ntmps80
 go_wp2
 go_loop [9,10] (fun i j=>∃ (a b:Nat),a≤b∧b≤n∧i=.int .i64 (a:Int)∧j=.int .i64 (b:Int)∧Hid (∀ t (ht:t<rs.length),t<a→rs[t].first<x)∧Hid (∀ t (ht:t<rs.length),b≤t→x≤rs[t].first)) (fun i j=>(intOf j).toNat - (intOf i).toNat)
 case atStart=>exact ⟨0,n,Nat.zero_le _,Nat.le_refl _,rfl,rfl,Lib.hid (fun t ht h=>absurd h (by omega)),Lib.hid (fun t ht h=>absurd h (by rw [HN.out];omega))⟩
 case round =>
  obtain ⟨a,b,hab,hbn,rfl,rfl,h1,h2⟩:=hrel
  by_cases hlt:a<b
  ·have hqa:a≤(a+b) / 2:=by omega
   have hqb:(a+b) / 2<b:=by omega
   have HQ:=Lib.hid (show (a+b) / 2<rs.length by rw [← HN.out];omega)
   obtain ⟨p,hP,c0,hreg⟩:=H.out.at_ ((a+b) / 2) HQ.out
   subst hP
   obtain ⟨R,hR⟩:∃ R,R=rs[(a+b) / 2]'HQ.out:=⟨_,rfl⟩
   rw [← hR] at c0 hreg
   have HR2:=Lib.hid hR
   have cf:=hreg.f
   clear hR
   by_cases ho:R.first<x
   ·have e:order R.first x=-1:=by unfold order;rw [if_pos ho]
    have HO:=Lib.hid ho
    clear ho
    go_wp2_with (go_at_call 81;refine (cmp_ _ _ _ _ cf).mono ?_;rintro e' w' ⟨rfl,rfl⟩;rw [e])
    go_round
    case rel=>exact ⟨(a+b) / 2+1,b,by omega,hbn,by go_num,rfl,Lib.hid (fun t ht h=>by
     rcases Nat.lt_or_ge t ((a+b) / 2) with h3|h3
     ·have:=rising_at rs HR.out t ((a+b) / 2) h3 HQ.out
      have h4:=HO.out
      rw [HR2.out] at h4
      omega
     ·obtain rfl:t=(a+b) / 2:=by omega
      have h4:=HO.out
      rw [HR2.out] at h4
      exact h4),h2⟩
    case measure=>simp [intOf];omega
   ·have HO:=Lib.hid ho
    have e:(if order R.first x<0 then true else false)=false:=by
     unfold order;rw [if_neg ho];split <;> rfl
    have e2:¬ order R.first x<0:=by unfold order;rw [if_neg ho];split <;> omega
    have e3:=decide_eq_false e2
    obtain ⟨z,hz⟩:∃ z,z=order R.first x:=⟨_,rfl⟩
    rw [← hz] at e2 e3
    clear ho e
    go_wp2_with (go_at_call 81;refine (cmp_ _ _ _ _ cf).mono ?_;rintro e' w' ⟨rfl,rfl⟩;rw [← hz])
    go_round
    case rel=>exact ⟨a,(a+b) / 2,by omega,by omega,rfl,by go_num,h1,Lib.hid (fun t ht h=>by
     have h4:=HO.out
     rw [HR2.out] at h4
     rcases Nat.lt_or_ge ((a+b) / 2) t with h3|h3
     ·have:=rising_at rs HR.out ((a+b) / 2) t h3 ht
      omega
     ·obtain rfl:t=(a+b) / 2:=by omega
      omega)⟩
    case measure=>simp [intOf];omega
  ·obtain rfl:a=b:=by omega
   have hp:=Lib.hid (place_unique rs x a (by rw [← HN.out];exact hbn) (fun i h hi=>h1.out i h hi) (fun h=>by have:=h2.out a h (Nat.le_refl _);omega))
   by_cases hend:a<n
   ·have HQ:=Lib.hid (show a<rs.length by rw [← HN.out];omega)
    obtain ⟨p,hP,c0,hreg⟩:=H.out.at_ a HQ.out
    subst hP
    obtain ⟨R,hR⟩:∃ R,R=rs[a]'HQ.out:=⟨_,rfl⟩
    rw [← hR] at c0 hreg
    have HR2:=Lib.hid hR
    have cf:=hreg.f
    clear hR
    have hdec:decide (∃ r∈rs,r.first=x)=(order R.first x == 0):=by
     have hnl:¬ R.first<x:=by have:=h2.out a HQ.out (Nat.le_refl _);rw [HR2.out];omega
     by_cases he:R.first=x
     ·rw [decide_eq_true ⟨R,by rw [HR2.out];exact List.getElem_mem _,he⟩,show order R.first x=0 by unfold order;rw [if_neg hnl,if_neg (by omega)]];rfl
     ·rw [show order R.first x=1 by unfold order;rw [if_neg hnl,if_pos (by omega)],decide_eq_false]
      ·rfl
      ·rintro ⟨r,hr,hrx⟩
       obtain ⟨t,ht,rfl⟩:=List.getElem_of_mem hr
       rcases Nat.lt_trichotomy t a with h|h|h
       ·have:=h1.out t ht h;omega
       ·subst h;exact he (by rw [HR2.out];exact hrx)
       ·have:=rising_at rs HR.out a t h ht
        rw [HR2.out] at hnl
        omega
    have HD:=Lib.hid hdec
    clear hdec
    go_wp2_with (go_at_call 81;refine (cmp_ _ _ _ _ cf).mono ?_;rintro e' w' ⟨rfl,rfl⟩)
    go_ret2
    refine ⟨?_,rfl⟩
    rw [hp.out,HD.out]
    rfl
   ·obtain rfl:a=n:=by omega
    have HD:=Lib.hid (show decide (∃ r∈rs,r.first=x)=false from decide_eq_false (by
     rintro ⟨r,hr,hrx⟩
     obtain ⟨t,ht,rfl⟩:=List.getElem_of_mem hr
     have:=h1.out t ht (by rw [HN.out];exact ht)
     omega))
    go_wp2_with fail
    go_ret2
    refine ⟨?_,rfl⟩
    rw [hp.out,HD.out]
    rfl
end Go.Proofs.Ythmeojeehemlaaa.Mem
end
section
namespace Go.Proofs.Ythmeojeehemlaaa.Mem
open Go.RowKit Go.Proofs.YthmeojeehemlaaaW.PrintWords
attribute [local go_sem] isSome_setCell
def SpaceAt (w:World) (s:Nat) (rs:List Reg):Prop:=∃ P cap,Blk w s 61 #[.slice P rs.length cap]∧RowAt w P cap rs
theorem find_ (w:World) (s:Nat) (rs:List Reg) (x:Int) (h:SpaceAt w s rs) (hr:Rising rs) :
  Calls Try.prog 58 #[.pointer (some ⟨s,0,none⟩),.int .u64 x] w fun e w'=>e=.returned (.tuple #[.int .i64 (place rs x),.bool (decide (∃ r∈rs,r.first=x))])∧w'=w:=by
 obtain ⟨P,cap,hb,hrow⟩:=h
 have c0:=hb.cell 0
 simp only [List.getElem?_toArray,List.getElem?_cons_zero] at c0
 have H:=Lib.hid hrow
 have HR:=Lib.hid hr
 clear hb hrow hr
 go_enter Try.func58,Try.ntmps58
 go_wp2_with (go_at_call 80;refine (search_ _ _ _ rs _ H.out HR.out).mono ?_;rintro e' w' ⟨rfl,rfl⟩)
 go_ret2
 exact ⟨rfl,rfl⟩
def ptrOf:Option Reg→Value
 | some r=>.pointer (some ⟨r.b,0,none⟩)
 | none=>.pointer none
def full (r:Reg):Bool:=decide (0<r.data.length)
def fullDown (rs:List Reg) (n:Nat):Option Reg:=(rs.take n).reverse.find? full
def fullUp (rs:List Reg) (n:Nat):Option Reg:=(rs.drop n).find? full
theorem fullDown_zero (rs:List Reg):fullDown rs 0=none:=by simp [fullDown]
theorem fullDown_succ (rs:List Reg) (n:Nat) (h:n<rs.length):fullDown rs (n+1)=if full rs[n] then some rs[n] else fullDown rs n:=by
 unfold fullDown
 rw [List.take_succ_eq_append_getElem h,List.reverse_append]
 simp only [List.reverse_cons,List.reverse_nil,List.nil_append,List.singleton_append,List.find?_cons]
 split <;> simp_all
theorem fullUp_end (rs:List Reg) (n:Nat) (h:rs.length≤n):fullUp rs n=none:=by simp [fullUp,List.drop_of_length_le h]
theorem fullUp_step (rs:List Reg) (n:Nat) (h:n<rs.length):fullUp rs n=if full rs[n] then some rs[n] else fullUp rs (n+1):=by
 unfold fullUp
 rw [List.drop_eq_getElem_cons h,List.find?_cons]
 split <;> simp_all
theorem full_down (w:World) (s:Nat) (rs:List Reg) (n:Nat) (h:SpaceAt w s rs) (hn:n≤rs.length) :
  Calls Try.prog 60 #[.pointer (some ⟨s,0,none⟩),.int .i64 ((n:Int) - 1),.int .i64 (-1)] w fun e w'=>e=.returned (ptrOf (fullDown rs n))∧w'=w:=by
 obtain ⟨P,cap,hb,hrow⟩:=h
 have c0:=hb.cell 0
 simp only [List.getElem?_toArray,List.getElem?_cons_zero] at c0
 have H:=Lib.hid hrow
 obtain ⟨L,hL⟩:∃ L,L=rs.length:=⟨_,rfl⟩
 have HL:=Lib.hid hL
 have hs:L<4398046511104:=by have:=hrow.big;omega
 rw [← hL] at c0 hn
 clear hb hrow hL
 go_enter Try.func60,Try.ntmps60
 go_wp2
 go_loop [1] (fun i=>∃ (m:Nat),m≤n∧i=.int .i64 ((m:Int) - 1)∧Hid (fullDown rs m=fullDown rs n)) (fun i=>(intOf i+1).toNat)
 case atStart=>exact ⟨n,Nat.le_refl _,rfl,Lib.hid rfl⟩
 case round =>
  obtain ⟨m,hm,rfl,hf⟩:=hrel
  rcases Nat.eq_zero_or_pos m with h0|h0
  ·subst h0
   go_wp2
   go_ret
   refine ⟨?_,rfl⟩
   rw [← hf.out,fullDown_zero]
   rfl
  ·obtain ⟨k,rfl⟩:∃ k,m=k+1:=⟨m - 1,by omega⟩
   have HQ:=Lib.hid (show k<rs.length by rw [← HL.out];omega)
   obtain ⟨p,hP,c1,hreg⟩:=H.out.at_ k HQ.out
   subst hP
   obtain ⟨R,hR⟩:∃ R,R=rs[k]'HQ.out:=⟨_,rfl⟩
   rw [← hR] at c1 hreg
   have HR2:=Lib.hid hR
   have cd:=hreg.d
   clear hR
   have hstep:=Lib.hid (fullDown_succ rs k HQ.out)
   by_cases hfull:0<R.data.length
   ·have hd:decide (0<R.data.length)=true:=decide_eq_true hfull
    go_wp2
    go_ret
    refine ⟨?_,rfl⟩
    rw [← hf.out,hstep.out,if_pos (by rw [← HR2.out];exact hd),← HR2.out]
    rfl
   ·have hd:decide (0<R.data.length)=false:=decide_eq_false hfull
    have hz:R.data.length=0:=by omega
    have HD:=Lib.hid hd
    clear hfull hd
    rw [hz] at cd
    go_wp2
    go_round
    case rel=>exact ⟨k,by omega,by go_num,Lib.hid (by rw [← hf.out,hstep.out,if_neg (by rw [← HR2.out];show ¬ full R=true;unfold full;rw [HD.out];decide)])⟩
    case measure=>simp [intOf];omega
theorem full_up (w:World) (s:Nat) (rs:List Reg) (n:Nat) (h:SpaceAt w s rs) (hn:n≤rs.length) :
  Calls Try.prog 60 #[.pointer (some ⟨s,0,none⟩),.int .i64 (n:Int),.int .i64 1] w fun e w'=>e=.returned (ptrOf (fullUp rs n))∧w'=w:=by
 obtain ⟨P,cap,hb,hrow⟩:=h
 have c0:=hb.cell 0
 simp only [List.getElem?_toArray,List.getElem?_cons_zero] at c0
 have H:=Lib.hid hrow
 obtain ⟨L,hL⟩:∃ L,L=rs.length:=⟨_,rfl⟩
 have HL:=Lib.hid hL
 have hs:L<4398046511104:=by have:=hrow.big;omega
 rw [← hL] at c0 hn
 clear hb hrow hL
 go_enter Try.func60,Try.ntmps60
 go_wp2
 go_loop [1] (fun i=>∃ (k:Nat),k≤L∧i=.int .i64 (k:Int)∧Hid (fullUp rs k=fullUp rs n)) (fun i=>L - (intOf i).toNat)
 case atStart=>exact ⟨n,hn,rfl,Lib.hid rfl⟩
 case round =>
  obtain ⟨k,hm,rfl,hf⟩:=hrel
  by_cases h0:k<L
  ·have HQ:=Lib.hid (show k<rs.length by rw [← HL.out];omega)
   obtain ⟨p,hP,c1,hreg⟩:=H.out.at_ k HQ.out
   subst hP
   obtain ⟨R,hR⟩:∃ R,R=rs[k]'HQ.out:=⟨_,rfl⟩
   rw [← hR] at c1 hreg
   have HR2:=Lib.hid hR
   have cd:=hreg.d
   clear hR
   have hstep:=Lib.hid (fullUp_step rs k HQ.out)
   by_cases hfull:0<R.data.length
   ·have hd:decide (0<R.data.length)=true:=decide_eq_true hfull
    go_wp2
    go_ret
    refine ⟨?_,rfl⟩
    rw [← hf.out,hstep.out,if_pos (by rw [← HR2.out];exact hd),← HR2.out]
    rfl
   ·have hd:decide (0<R.data.length)=false:=decide_eq_false hfull
    have hz:R.data.length=0:=by omega
    have HD:=Lib.hid hd
    clear hfull hd
    rw [hz] at cd
    go_wp2
    go_round
    case rel=>exact ⟨k+1,by omega,by go_num,Lib.hid (by rw [← hf.out,hstep.out,if_neg (by rw [← HR2.out];show ¬ full R=true;unfold full;rw [HD.out];decide)])⟩
    case measure=>simp [intOf];omega
  ·obtain rfl:k=L:=by omega
   go_wp2
   go_ret
   refine ⟨?_,rfl⟩
   rw [← hf.out,fullUp_end rs _ (by rw [← HL.out];exact Nat.le_refl _)]
   rfl
theorem full_down' (w:World) (s:Nat) (rs:List Reg) (n:Nat) (z:Int) (h:SpaceAt w s rs) (hn:n≤rs.length) (hz:z=(n:Int) - 1) :
  Calls Try.prog 60 #[.pointer (some ⟨s,0,none⟩),.int .i64 z,.int .i64 (-1)] w fun e w'=>e=.returned (ptrOf (fullDown rs n))∧w'=w:=by
 subst hz;exact full_down w s rs n h hn
def upTo (rs:List Reg) (x:Int):Nat:=if (∃ h:place rs x<rs.length,full (rs[place rs x]'h)=true∧(rs[place rs x]'h).first=x) then place rs x+1 else place rs x
theorem place_below:∀ (rs:List Reg) (x:Int) (i:Nat) (h:i<rs.length),i<place rs x→rs[i].first<x
 | r :: rs,x,i,h,hi=>by
  unfold place at hi
  rw [List.takeWhile_cons] at hi
  by_cases hc:r.first<x
  ·rw [if_pos (by simpa using hc)] at hi
   cases i with
   | zero=>exact hc
   | succ i=>exact place_below rs x i (by simpa using h) (by unfold place;simpa using hi)
  ·rw [if_neg (by simpa using hc)] at hi;simp at hi
theorem place_at:∀ (rs:List Reg) (x:Int) (h:place rs x<rs.length),x≤rs[place rs x].first
 | r :: rs,x,h=>by
  by_cases hc:r.first<x
  ·have e:place (r :: rs) x=place rs x+1:=by
    unfold place;rw [List.takeWhile_cons,if_pos (by simpa using hc)];rfl
   have ih:=place_at rs x (by rw [e] at h;simpa using h)
   simp only [e,List.getElem_cons_succ]
   exact ih
  ·have e:place (r :: rs) x=0:=by
    unfold place;rw [List.takeWhile_cons,if_neg (by simpa using hc)];rfl
   simp only [e,List.getElem_cons_zero]
   omega
theorem there_iff (rs:List Reg) (x:Int) (hr:Rising rs):(∃ r∈rs,r.first=x)↔∃ h:place rs x<rs.length,(rs[place rs x]'h).first=x:=by
 constructor
 ·rintro ⟨r,hm,hx⟩
  obtain ⟨t,ht,rfl⟩:=List.getElem_of_mem hm
  have hp:place rs x=t:=place_unique rs x t (by omega) (fun i h hi=>by have:=rising_at rs hr i t hi ht;omega) (fun h=>by omega)
  have:place rs x<rs.length:=by omega
  refine ⟨this,?_⟩
  simp only [hp];exact hx
 ·rintro ⟨h,hx⟩
  exact ⟨_,List.getElem_mem h,hx⟩
theorem fullDown_mem (rs:List Reg) (n:Nat) (r:Reg) (h:fullDown rs n=some r):∃ i,∃ hi:i<rs.length,i<n∧rs[i]=r∧full r=true:=by
 have hf:=List.find?_some h
 have hm:=List.mem_of_find?_eq_some h
 rw [List.mem_reverse] at hm
 obtain ⟨i,hi,e⟩:=List.getElem_of_mem hm
 rw [List.getElem_take] at e
 have hl:i<n∧i<rs.length:=by simp at hi;omega
 exact ⟨i,hl.2,hl.1,e,hf⟩
theorem upTo_first (rs:List Reg) (x:Int) (r:Reg) (h:fullDown rs (upTo rs x)=some r):r∈rs∧r.first≤x∧0<r.data.length:=by
 obtain ⟨i,hi,hn,rfl,hf⟩:=fullDown_mem rs _ r h
 refine ⟨List.getElem_mem hi,?_,by simpa [full] using hf⟩
 unfold upTo at hn
 split at hn
 ·rename_i hh
  obtain ⟨h1,_,h2⟩:=hh
  by_cases hc:i<place rs x
  ·have:=place_below rs x i hi hc;omega
  ·obtain rfl:i=place rs x:=by omega
   omega
 ·have:=place_below rs x i hi hn;omega
def viewOf (rs:List Reg) (x:Int) (n:Nat):Option (Reg × Nat):=
 match fullDown rs (upTo rs x) with
 | some r=>if (r.data.length:Int)≤x - r.first then none else if (r.data.length:Int) - (x - r.first)<n then none else some (r,(x - r.first).toNat)
 | none=>none
def viewVal (n:Nat):Option (Reg × Nat)→Value
 | some (r,o)=>.tuple #[.slice (r.A.map fun a=>a.add o) n (r.cap - o),.int .i64 0]
 | none=>.tuple #[.slice none 0 0,.int .i64 200]
theorem viewVal_some (n:Nat) (r:Reg) (o d:Nat) (h:r.A=some ⟨d,0,none⟩):viewVal n (some (r,o))=.tuple #[.slice (some ⟨d,o,none⟩) n (r.cap - o),.int .i64 0]:=by
 show Value.tuple #[.slice (Option.map (fun a=>a.add o) r.A) n (r.cap - o),.int .i64 0]=_
 rw [h]
 simp only [Option.map_some]
 unfold Addr.add
 by_cases h0:o=0
 ·simp [h0]
 ·simp [h0]
theorem view_ (w:World) (s:Nat) (rs:List Reg) (x:Int) (n:Nat) (h:SpaceAt w s rs) (hr:Rising rs) (hn0:1≤n) (hn1:n<9223372036854775808) (hx0:0≤x) (hx1:x<18446744073709551616) :
  Calls Try.prog 23 #[.pointer (some ⟨s,0,none⟩),.int .u64 x,.int .i64 n] w fun e w'=>e=.returned (viewVal n (viewOf rs x n))∧Drawn0 w w':=by
 obtain ⟨P,cap,hb,hrow⟩:=id h
 have c0:=hb.cell 0
 simp only [List.getElem?_toArray,List.getElem?_cons_zero] at c0
 have HS:=Lib.hid h
 have H:=Lib.hid hrow
 have HR:=Lib.hid hr
 obtain ⟨L,hL⟩:∃ L,L=rs.length:=⟨_,rfl⟩
 have HL:=Lib.hid hL
 have hL2:=Lib.hid hL
 have hs:L<4398046511104:=by have:=hrow.big;omega
 rw [← hL] at c0
 obtain ⟨K,hK⟩:∃ K,K=place rs x:=⟨_,rfl⟩
 have hKL:K≤L:=by rw [hK,hL];exact place_le rs x
 have HK:=Lib.hid hK
 have HX:=Lib.hid (And.intro hx0 hx1)
 clear hb hrow hL h hr hx0 hx1
 have HT:=Lib.hid (there_iff rs x HR.out)
 have ho:=Lib.hid (upTo_first rs x)
 by_cases ht:∃ h:place rs x<rs.length,(rs[place rs x]'h).first=x
 ·obtain ⟨h1,h2⟩:=ht
  have hd:=Lib.hid (show decide (∃ r∈rs,r.first=x)=true from decide_eq_true (HT.out.2 ⟨h1,h2⟩))
  have HD:=hd
  clear hd
  have hKlt:K<L:=by rw [hK,hL2.out];exact h1
  obtain ⟨p,hP,c1,hreg⟩:=H.out.at_ (place rs x) h1
  subst hP
  obtain ⟨R,hR⟩:∃ R,R=rs[place rs x]'h1:=⟨_,rfl⟩
  rw [← hR] at c1 hreg h2
  rw [← hK] at c1
  have cq:=hreg.d
  have hI:(K:Int)<(L:Int):=by omega
  by_cases hfull:0<R.data.length
  ·have hq:decide (0<R.data.length)=true:=decide_eq_true hfull
   obtain ⟨kk,hkk⟩:∃ kk,kk=K+1:=⟨_,rfl⟩
   have hu:=Lib.hid (show upTo rs x=kk from by unfold upTo;rw [if_pos ⟨h1,by rw [← hR];exact hq,by rw [← hR];exact h2⟩,hkk,hK])
   have hkl:kk≤L:=by omega
   clear hK hR h2 hreg
   cases hfd:fullDown rs kk with
   | none =>
    have hv:=Lib.hid (show viewOf rs x n=none by unfold viewOf;rw [hu.out,hfd])
    have HFD:=Lib.hid hfd
    clear hfd
    go_enter Try.func23,Try.ntmps23
    go_wp2_with (first|(go_at_call 58;refine (find_ _ _ rs _ HS.out HR.out).mono ?_;rintro e' w' ⟨rfl,rfl⟩;rw [HD.out,← HK.out])|(go_at_call 60;refine (full_down' _ _ rs kk _ HS.out (by rw [← HL.out];exact hkl) (by omega)).mono ?_;rintro e' w' ⟨rfl,rfl⟩;rw [HFD.out];unfold ptrOf))
    go_quiet (fail)
    go_wp2_with fail
    go_ret2
    refine ⟨?_,⟨⟨_,rfl⟩⟩⟩
    rw [hv.out];rfl
   | some r =>
    obtain ⟨hm,hx,hl⟩:=ho.out r (by rw [hu.out];exact hfd)
    have hreg:=H.out.regs r hm
    have cf:=hreg.f
    have cd:=hreg.d
    obtain ⟨d,cs,hA,_,_,_⟩:=hreg.row hl
    rw [hA] at cd
    obtain ⟨o,hox⟩:∃ o:Nat,x=r.first+(o:Int):=⟨(x - r.first).toNat,by omega⟩
    have hlc:=hreg.len
    have k2:=hreg.small
    have hf0:=hreg.first0
    have HA:=Lib.hid hA
    have HFD:=Lib.hid hfd
    subst hox
    obtain ⟨ln,hln⟩:∃ ln,ln=r.data.length:=⟨_,rfl⟩
    rw [← hln] at cd hlc hl
    have hx1:=HX.out.2
    have HLN:=Lib.hid hln
    clear hfd hreg hA hln hx hm
    have u64:∀ z:Int,0≤z→z<18446744073709551616→IntKind.u64.wrap z=z:=fun z h0 h1=>by rw [IntKind.wrap_u64];exact Int.emod_eq_of_lt h0 h1
    have k1:IntKind.u64.wrap (r.first+(o:Int) - r.first)=(o:Int):=by rw [show r.first+(o:Int) - r.first=(o:Int) by omega];exact u64 _ (by omega) (by omega)
    by_cases c1:ln≤o
    ·have hd1:decide ((ln:Int)≤(o:Int))=true:=decide_eq_true (by omega)
     have hv:=Lib.hid (show viewOf rs (r.first+(o:Int)) n=none by unfold viewOf;rw [hu.out,HFD.out];dsimp only;rw [if_pos (by rw [← HLN.out];omega)])
     clear u64
     go_enter Try.func23,Try.ntmps23
     go_wp2_with (first|(go_at_call 58;refine (find_ _ _ rs _ HS.out HR.out).mono ?_;rintro e' w' ⟨rfl,rfl⟩;rw [HD.out,← HK.out])|(go_at_call 60;refine (full_down' _ _ rs kk _ HS.out (by rw [← HL.out];exact hkl) (by omega)).mono ?_;rintro e' w' ⟨rfl,rfl⟩;rw [HFD.out];unfold ptrOf))
     go_quiet (fail)
     go_wp2_with fail
     go_ret2
     refine ⟨?_,⟨⟨_,rfl⟩⟩⟩
     rw [hv.out];rfl
    ·have hd1:decide ((ln:Int)≤(o:Int))=false:=decide_eq_false (by omega)
     have k3:IntKind.u64.wrap ((ln:Int) - (o:Int))=((ln - o:Nat):Int):=by rw [u64 _ (by omega) (by omega)];omega
     have k4:IntKind.u64.wrap ((o:Int)+(n:Int))=((o+n:Nat):Int):=by rw [u64 _ (by omega) (by omega)];omega
     by_cases c2:ln - o<n
     ·have hd2:decide (((ln - o:Nat):Int)<(n:Int))=true:=decide_eq_true (by omega)
      have hv:=Lib.hid (show viewOf rs (r.first+(o:Int)) n=none by unfold viewOf;rw [hu.out,HFD.out];dsimp only;rw [if_neg (by rw [← HLN.out];omega),if_pos (by rw [← HLN.out];omega)])
      clear u64
      go_enter Try.func23,Try.ntmps23
      go_wp2_with (first|(go_at_call 58;refine (find_ _ _ rs _ HS.out HR.out).mono ?_;rintro e' w' ⟨rfl,rfl⟩;rw [HD.out,← HK.out])|(go_at_call 60;refine (full_down' _ _ rs kk _ HS.out (by rw [← HL.out];exact hkl) (by omega)).mono ?_;rintro e' w' ⟨rfl,rfl⟩;rw [HFD.out];unfold ptrOf))
      go_quiet (fail)
      go_wp2_with fail
      go_ret2
      refine ⟨?_,⟨⟨_,rfl⟩⟩⟩
      rw [hv.out];rfl
     ·have hd2:decide (((ln - o:Nat):Int)<(n:Int))=false:=decide_eq_false (by omega)
      have hv:=Lib.hid (show viewOf rs (r.first+(o:Int)) n=some (r,o) by unfold viewOf;rw [hu.out,HFD.out];dsimp only;rw [if_neg (by rw [← HLN.out];omega),if_neg (by rw [← HLN.out];omega),show (r.first+(o:Int) - r.first).toNat=o by omega])
      have l1:(o:Int)≤((o+n:Nat):Int):=by omega
      have l2:((o+n:Nat):Int)≤(r.cap:Int):=by omega
      have l3:o+n≤r.cap:=by omega
      clear u64
      go_enter Try.func23,Try.ntmps23
      go_wp2_with (first|(go_at_call 58;refine (find_ _ _ rs _ HS.out HR.out).mono ?_;rintro e' w' ⟨rfl,rfl⟩;rw [HD.out,← HK.out])|(go_at_call 60;refine (full_down' _ _ rs kk _ HS.out (by rw [← HL.out];exact hkl) (by omega)).mono ?_;rintro e' w' ⟨rfl,rfl⟩;rw [HFD.out];unfold ptrOf))
      go_quiet (fail)
      go_wp2_with fail
      go_ret2
      refine ⟨?_,⟨⟨_,rfl⟩⟩⟩
      rw [hv.out]
      have e1:o+n - o=n:=by omega
      have e2:=viewVal_some n r o d HA.out
      rw [e2]
      show Ending.returned (Value.tuple #[.slice (some ⟨d,o,none⟩) (o+n - o) (r.cap - o),.int .i64 0])=_
      rw [e1]
  ·have hz:R.data.length=0:=by omega
   have hq:¬ full R=true:=by unfold full;rw [hz];decide
   obtain ⟨kk,hkk⟩:∃ kk,kk=K:=⟨_,rfl⟩
   have hu:=Lib.hid (show upTo rs x=kk from by unfold upTo;rw [if_neg (fun ⟨h3,h4,_⟩=>hq (by rw [hR];exact h4)),hkk,hK])
   have hkl:kk≤L:=by omega
   rw [hz] at cq
   clear hK hR h2 hreg hq hfull
   cases hfd:fullDown rs kk with
   | none =>
    have hv:=Lib.hid (show viewOf rs x n=none by unfold viewOf;rw [hu.out,hfd])
    have HFD:=Lib.hid hfd
    clear hfd
    go_enter Try.func23,Try.ntmps23
    go_wp2_with (first|(go_at_call 58;refine (find_ _ _ rs _ HS.out HR.out).mono ?_;rintro e' w' ⟨rfl,rfl⟩;rw [HD.out,← HK.out])|(go_at_call 60;refine (full_down' _ _ rs kk _ HS.out (by rw [← HL.out];exact hkl) (by omega)).mono ?_;rintro e' w' ⟨rfl,rfl⟩;rw [HFD.out];unfold ptrOf))
    go_quiet (fail)
    go_wp2_with fail
    go_ret2
    refine ⟨?_,⟨⟨_,rfl⟩⟩⟩
    rw [hv.out];rfl
   | some r =>
    obtain ⟨hm,hx,hl⟩:=ho.out r (by rw [hu.out];exact hfd)
    have hreg:=H.out.regs r hm
    have cf:=hreg.f
    have cd:=hreg.d
    obtain ⟨d,cs,hA,_,_,_⟩:=hreg.row hl
    rw [hA] at cd
    obtain ⟨o,hox⟩:∃ o:Nat,x=r.first+(o:Int):=⟨(x - r.first).toNat,by omega⟩
    have hlc:=hreg.len
    have k2:=hreg.small
    have hf0:=hreg.first0
    have HA:=Lib.hid hA
    have HFD:=Lib.hid hfd
    subst hox
    obtain ⟨ln,hln⟩:∃ ln,ln=r.data.length:=⟨_,rfl⟩
    rw [← hln] at cd hlc hl
    have hx1:=HX.out.2
    have HLN:=Lib.hid hln
    clear hfd hreg hA hln hx hm
    have u64:∀ z:Int,0≤z→z<18446744073709551616→IntKind.u64.wrap z=z:=fun z h0 h1=>by rw [IntKind.wrap_u64];exact Int.emod_eq_of_lt h0 h1
    have k1:IntKind.u64.wrap (r.first+(o:Int) - r.first)=(o:Int):=by rw [show r.first+(o:Int) - r.first=(o:Int) by omega];exact u64 _ (by omega) (by omega)
    by_cases c1:ln≤o
    ·have hd1:decide ((ln:Int)≤(o:Int))=true:=decide_eq_true (by omega)
     have hv:=Lib.hid (show viewOf rs (r.first+(o:Int)) n=none by unfold viewOf;rw [hu.out,HFD.out];dsimp only;rw [if_pos (by rw [← HLN.out];omega)])
     clear u64
     go_enter Try.func23,Try.ntmps23
     go_wp2_with (first|(go_at_call 58;refine (find_ _ _ rs _ HS.out HR.out).mono ?_;rintro e' w' ⟨rfl,rfl⟩;rw [HD.out,← HK.out])|(go_at_call 60;refine (full_down' _ _ rs kk _ HS.out (by rw [← HL.out];exact hkl) (by omega)).mono ?_;rintro e' w' ⟨rfl,rfl⟩;rw [HFD.out];unfold ptrOf))
     go_quiet (fail)
     go_wp2_with fail
     go_ret2
     refine ⟨?_,⟨⟨_,rfl⟩⟩⟩
     rw [hv.out];rfl
    ·have hd1:decide ((ln:Int)≤(o:Int))=false:=decide_eq_false (by omega)
     have k3:IntKind.u64.wrap ((ln:Int) - (o:Int))=((ln - o:Nat):Int):=by rw [u64 _ (by omega) (by omega)];omega
     have k4:IntKind.u64.wrap ((o:Int)+(n:Int))=((o+n:Nat):Int):=by rw [u64 _ (by omega) (by omega)];omega
     by_cases c2:ln - o<n
     ·have hd2:decide (((ln - o:Nat):Int)<(n:Int))=true:=decide_eq_true (by omega)
      have hv:=Lib.hid (show viewOf rs (r.first+(o:Int)) n=none by unfold viewOf;rw [hu.out,HFD.out];dsimp only;rw [if_neg (by rw [← HLN.out];omega),if_pos (by rw [← HLN.out];omega)])
      clear u64
      go_enter Try.func23,Try.ntmps23
      go_wp2_with (first|(go_at_call 58;refine (find_ _ _ rs _ HS.out HR.out).mono ?_;rintro e' w' ⟨rfl,rfl⟩;rw [HD.out,← HK.out])|(go_at_call 60;refine (full_down' _ _ rs kk _ HS.out (by rw [← HL.out];exact hkl) (by omega)).mono ?_;rintro e' w' ⟨rfl,rfl⟩;rw [HFD.out];unfold ptrOf))
      go_quiet (fail)
      go_wp2_with fail
      go_ret2
      refine ⟨?_,⟨⟨_,rfl⟩⟩⟩
      rw [hv.out];rfl
     ·have hd2:decide (((ln - o:Nat):Int)<(n:Int))=false:=decide_eq_false (by omega)
      have hv:=Lib.hid (show viewOf rs (r.first+(o:Int)) n=some (r,o) by unfold viewOf;rw [hu.out,HFD.out];dsimp only;rw [if_neg (by rw [← HLN.out];omega),if_neg (by rw [← HLN.out];omega),show (r.first+(o:Int) - r.first).toNat=o by omega])
      have l1:(o:Int)≤((o+n:Nat):Int):=by omega
      have l2:((o+n:Nat):Int)≤(r.cap:Int):=by omega
      have l3:o+n≤r.cap:=by omega
      clear u64
      go_enter Try.func23,Try.ntmps23
      go_wp2_with (first|(go_at_call 58;refine (find_ _ _ rs _ HS.out HR.out).mono ?_;rintro e' w' ⟨rfl,rfl⟩;rw [HD.out,← HK.out])|(go_at_call 60;refine (full_down' _ _ rs kk _ HS.out (by rw [← HL.out];exact hkl) (by omega)).mono ?_;rintro e' w' ⟨rfl,rfl⟩;rw [HFD.out];unfold ptrOf))
      go_quiet (fail)
      go_wp2_with fail
      go_ret2
      refine ⟨?_,⟨⟨_,rfl⟩⟩⟩
      rw [hv.out]
      have e1:o+n - o=n:=by omega
      have e2:=viewVal_some n r o d HA.out
      rw [e2]
      show Ending.returned (Value.tuple #[.slice (some ⟨d,o,none⟩) (o+n - o) (r.cap - o),.int .i64 0])=_
      rw [e1]
 ·have hd:decide (∃ r∈rs,r.first=x)=false:=decide_eq_false (fun hh=>ht (HT.out.1 hh))
  obtain ⟨kk,hkk⟩:∃ kk,kk=K:=⟨_,rfl⟩
  have hu:=Lib.hid (show upTo rs x=kk from by unfold upTo;rw [if_neg (fun ⟨h1,_,h3⟩=>ht ⟨h1,h3⟩),hkk];exact hK.symm)
  have hkl:kk≤L:=by omega
  have HD:=Lib.hid hd
  clear ht hd hK
  cases hfd:fullDown rs kk with
  | none =>
   have hv:=Lib.hid (show viewOf rs x n=none by unfold viewOf;rw [hu.out,hfd])
   have HFD:=Lib.hid hfd
   clear hfd
   go_enter Try.func23,Try.ntmps23
   go_wp2_with (first|(go_at_call 58;refine (find_ _ _ rs _ HS.out HR.out).mono ?_;rintro e' w' ⟨rfl,rfl⟩;rw [HD.out,← HK.out])|(go_at_call 60;refine (full_down' _ _ rs kk _ HS.out (by rw [← HL.out];exact hkl) (by omega)).mono ?_;rintro e' w' ⟨rfl,rfl⟩;rw [HFD.out];unfold ptrOf))
   go_quiet (fail)
   go_wp2_with fail
   go_ret2
   refine ⟨?_,⟨⟨_,rfl⟩⟩⟩
   rw [hv.out];rfl
  | some r =>
   obtain ⟨hm,hx,hl⟩:=ho.out r (by rw [hu.out];exact hfd)
   have hreg:=H.out.regs r hm
   have cf:=hreg.f
   have cd:=hreg.d
   obtain ⟨d,cs,hA,_,_,_⟩:=hreg.row hl
   rw [hA] at cd
   obtain ⟨o,hox⟩:∃ o:Nat,x=r.first+(o:Int):=⟨(x - r.first).toNat,by omega⟩
   have hlc:=hreg.len
   have k2:=hreg.small
   have hf0:=hreg.first0
   have HA:=Lib.hid hA
   have HFD:=Lib.hid hfd
   subst hox
   obtain ⟨ln,hln⟩:∃ ln,ln=r.data.length:=⟨_,rfl⟩
   rw [← hln] at cd hlc hl
   have hx1:=HX.out.2
   have HLN:=Lib.hid hln
   clear hfd hreg hA hln hx hm
   have u64:∀ z:Int,0≤z→z<18446744073709551616→IntKind.u64.wrap z=z:=fun z h0 h1=>by rw [IntKind.wrap_u64];exact Int.emod_eq_of_lt h0 h1
   have k1:IntKind.u64.wrap (r.first+(o:Int) - r.first)=(o:Int):=by rw [show r.first+(o:Int) - r.first=(o:Int) by omega];exact u64 _ (by omega) (by omega)
   by_cases c1:ln≤o
   ·have hd1:decide ((ln:Int)≤(o:Int))=true:=decide_eq_true (by omega)
    have hv:=Lib.hid (show viewOf rs (r.first+(o:Int)) n=none by unfold viewOf;rw [hu.out,HFD.out];dsimp only;rw [if_pos (by rw [← HLN.out];omega)])
    clear u64
    go_enter Try.func23,Try.ntmps23
    go_wp2_with (first|(go_at_call 58;refine (find_ _ _ rs _ HS.out HR.out).mono ?_;rintro e' w' ⟨rfl,rfl⟩;rw [HD.out,← HK.out])|(go_at_call 60;refine (full_down' _ _ rs kk _ HS.out (by rw [← HL.out];exact hkl) (by omega)).mono ?_;rintro e' w' ⟨rfl,rfl⟩;rw [HFD.out];unfold ptrOf))
    go_quiet (fail)
    go_wp2_with fail
    go_ret2
    refine ⟨?_,⟨⟨_,rfl⟩⟩⟩
    rw [hv.out];rfl
   ·have hd1:decide ((ln:Int)≤(o:Int))=false:=decide_eq_false (by omega)
    have k3:IntKind.u64.wrap ((ln:Int) - (o:Int))=((ln - o:Nat):Int):=by rw [u64 _ (by omega) (by omega)];omega
    have k4:IntKind.u64.wrap ((o:Int)+(n:Int))=((o+n:Nat):Int):=by rw [u64 _ (by omega) (by omega)];omega
    by_cases c2:ln - o<n
    ·have hd2:decide (((ln - o:Nat):Int)<(n:Int))=true:=decide_eq_true (by omega)
     have hv:=Lib.hid (show viewOf rs (r.first+(o:Int)) n=none by unfold viewOf;rw [hu.out,HFD.out];dsimp only;rw [if_neg (by rw [← HLN.out];omega),if_pos (by rw [← HLN.out];omega)])
     clear u64
     go_enter Try.func23,Try.ntmps23
     go_wp2_with (first|(go_at_call 58;refine (find_ _ _ rs _ HS.out HR.out).mono ?_;rintro e' w' ⟨rfl,rfl⟩;rw [HD.out,← HK.out])|(go_at_call 60;refine (full_down' _ _ rs kk _ HS.out (by rw [← HL.out];exact hkl) (by omega)).mono ?_;rintro e' w' ⟨rfl,rfl⟩;rw [HFD.out];unfold ptrOf))
     go_quiet (fail)
     go_wp2_with fail
     go_ret2
     refine ⟨?_,⟨⟨_,rfl⟩⟩⟩
     rw [hv.out];rfl
    ·have hd2:decide (((ln - o:Nat):Int)<(n:Int))=false:=decide_eq_false (by omega)
     have hv:=Lib.hid (show viewOf rs (r.first+(o:Int)) n=some (r,o) by unfold viewOf;rw [hu.out,HFD.out];dsimp only;rw [if_neg (by rw [← HLN.out];omega),if_neg (by rw [← HLN.out];omega),show (r.first+(o:Int) - r.first).toNat=o by omega])
     have l1:(o:Int)≤((o+n:Nat):Int):=by omega
     have l2:((o+n:Nat):Int)≤(r.cap:Int):=by omega
     have l3:o+n≤r.cap:=by omega
     clear u64
     go_enter Try.func23,Try.ntmps23
     go_wp2_with (first|(go_at_call 58;refine (find_ _ _ rs _ HS.out HR.out).mono ?_;rintro e' w' ⟨rfl,rfl⟩;rw [HD.out,← HK.out])|(go_at_call 60;refine (full_down' _ _ rs kk _ HS.out (by rw [← HL.out];exact hkl) (by omega)).mono ?_;rintro e' w' ⟨rfl,rfl⟩;rw [HFD.out];unfold ptrOf))
     go_quiet (fail)
     go_wp2_with fail
     go_ret2
     refine ⟨?_,⟨⟨_,rfl⟩⟩⟩
     rw [hv.out]
     have e1:o+n - o=n:=by omega
     have e2:=viewVal_some n r o d HA.out
     rw [e2]
     show Ending.returned (Value.tuple #[.slice (some ⟨d,o,none⟩) (o+n - o) (r.cap - o),.int .i64 0])=_
     rw [e1]
end Go.Proofs.Ythmeojeehemlaaa.Mem
end
section
namespace Go.Proofs.Ythmeojeehemlaaa.Mem
open Go.RowKit Go.Proofs.YthmeojeehemlaaaW.PrintWords
open Go.Proofs.Ythmeojeehemlaaa.PM
attribute [local go_sem] isSome_setCell
def num:List Int→Int
 | []=>0
 | b :: l=>b+256*num l
def Bytes (l:List Int):Prop:=∀ b∈l,0≤b∧b<256
theorem num_range:∀ l:List Int,Bytes l→0≤num l∧num l<256 ^ l.length:=by
 intro l
 induction l with
 | nil=>intro _;simp [num]
 | cons b l ih =>
  intro h
  obtain ⟨h0,h1⟩:=ih (fun c hc=>h c (List.mem_cons_of_mem _ hc))
  have hb:=h b List.mem_cons_self
  simp only [num,List.length_cons]
  rw [Int.pow_succ]
  omega
theorem rd_at (l:List Int) (j:Nat) (h:j<l.length):rd l (j:Int)=l[j]:=by
 unfold rd
 rw [Int.toNat_natCast,List.getD_eq_getElem?_getD,List.getElem?_eq_getElem h];rfl
theorem w64 (n:Int) (h0:-9223372036854775808≤n) (h1:n<9223372036854775808):wrap64 n=n:=by unfold wrap64;omega
theorem u64 (z:Int) (h0:0≤z) (h1:z<18446744073709551616):IntKind.u64.wrap z=z:=by rw [IntKind.wrap_u64];exact Int.emod_eq_of_lt h0 h1
def wb (width:Int):Nat:=if width=8 then 1 else if width=16 then 2 else if width=32 then 4 else 8
theorem bytes_ (width:Int):memory_bytes.f width=some (wb width:Int):=by
 unfold memory_bytes.f wb
 by_cases h8:width=8
 ·subst h8;decide +kernel
 by_cases h16:width=16
 ·subst h16;decide +kernel
 by_cases h32:width=32
 ·subst h32;decide +kernel
 rw [if_neg h8,if_neg h16,if_neg h32,if_neg h8,if_neg h16,if_neg h32];rfl
theorem viewOf_some (rs:List Reg) (x:Int) (n:Nat) (r:Reg) (o:Nat) (h:viewOf rs x n=some (r,o)):r∈rs∧o+n≤r.data.length∧x=r.first+o:=by
 unfold viewOf at h
 split at h
 ·rename_i r' hf
  obtain ⟨h1,h2,h3⟩:=upTo_first rs x r' hf
  split at h
  ·cases h
  ·split at h
   ·cases h
   ·cases h
    exact ⟨h1,by omega,by omega⟩
 ·cases h
theorem view_C {w:World} {r:Reg} (h:RegAt w r) (o n:Nat) (hl:o+n≤r.data.length):Kd.C (Kd.int .u8) w (r.A.map fun a=>a.add o) n ((r.data.drop o).take n):=by
 have hs:=h.small
 have hlen:=h.len
 refine ⟨by simp;omega,by omega,fun hp=>?_⟩
 obtain ⟨d,cs,hA,hb,_,hc⟩:=h.row (by omega)
 have ad:∀ q,(⟨d,0,none⟩:Addr).add q=⟨d,q,none⟩:=fun q=>by
  unfold Addr.add;split <;> simp_all
 refine ⟨⟨d,o,none⟩,by rw [hA];simp only [Option.map_some,ad],fun j p hj=>⟨[.int .u8 p],rfl,rfl,fun i u hu=>?_⟩⟩
 have hi:i=0:=by
  have:=(List.getElem?_eq_some_iff.1 hu).1
  simpa using this
 subst hi
 have hu':Value.int .u8 p=u:=by simpa using hu
 subst hu'
 have hjn:j<n∧o+j<r.data.length:=by
  have:=(List.getElem?_eq_some_iff.1 hj).1
  simp at this;omega
 have hp2:r.data[o+j]=p:=by
  have:=(List.getElem?_eq_some_iff.1 hj).2
  rw [List.getElem_take,List.getElem_drop] at this
  exact this
 have hcell:=hb.cell (o+j)
 rw [hc (o+j) hjn.2,hp2] at hcell
 rw [← hcell]
 unfold Addr.add
 simp [Kd.int,Kd.scalar]
 by_cases h0:j=0 <;> simp [h0]
theorem num_drop_le (l:List Int) (hb:Bytes l) (n:Nat):num (l.drop n)≤num l:=by
 induction n with
 | zero=>rw [List.drop_zero];omega
 | succ n ih =>
  by_cases h:n<l.length
  ·have hd:Bytes (l.drop (n+1)):=fun b h=>hb b (List.mem_of_mem_drop h)
   have h0:=(num_range _ hd).1
   have hbn:=hb l[n] (List.getElem_mem h)
   rw [List.drop_eq_getElem_cons h] at ih
   simp only [num] at ih
   omega
  ·rw [List.drop_of_length_le (by omega)]
   exact (num_range _ hb).1
theorem or_u8 (x b:Int) (h0:0≤x) (h1:x*256+b<256) (hb0:0≤b) (hb1:b<256):Go.bits .or .u8 (x*256) b=x*256+b:=by
 exact bits_join .u8 8 (by decide) (fun n h0 h1=>by have e:(2:Int) ^ 8=256:=rfl;rw [e] at h1;rw [IntKind.wrap_u8];omega) 8 (x*256) b (by omega) (by rw [show ((2:Int) ^ 8)=256 from rfl];omega) (by omega) hb0 (by rw [show ((2:Int) ^ 8)=256 from rfl];omega) (by have e:(2:Int) ^ 8=256:=rfl;rw [e];omega)
theorem number_uint8_l0 (l:List Int) (hb:Bytes l) (h8:num l<256) (n:Nat):∀ k:Nat,n≤l.length→n<k→n≤1000→memory_number_uint8.l0 k l (num (l.drop n)) ((n:Int) - 1)=some (num l):=by
 induction n with
 | zero =>
  intro k _ hk _
  obtain ⟨k,rfl⟩:∃ m,k=m+1:=⟨k - 1,by omega⟩
  simp only [memory_number_uint8.l0]
  have h0:=(num_range l hb).1
  rw [if_neg (by omega),List.drop_zero]
  rw [u64 _ h0 (by omega)]
 | succ n ih =>
  intro k hn hk hs8
  obtain ⟨k,rfl⟩:∃ m,k=m+1:=⟨k - 1,by omega⟩
  have hx:((n+1:Nat):Int) - 1=(n:Int):=by omega
  have hlt:n<l.length:=by omega
  have hd:Bytes (l.drop (n+1)):=fun b h=>hb b (List.mem_of_mem_drop h)
  have r0:=(num_range _ hd).1
  have hbn:=hb l[n] (List.getElem_mem hlt)
  have hs:num (l.drop n)=num (l.drop (n+1))*256+l[n]:=by
   rw [List.drop_eq_getElem_cons hlt];simp only [num];omega
  have hle:=num_drop_le l hb n
  have hi:=ih k (by omega) (by omega) (by omega)
  rw [hx]
  simp only [memory_number_uint8.l0]
  rw [if_pos (by omega),if_pos (by omega),if_pos (by omega),rd_at l n hlt]
  have e:Go.bits .or .u8 ((IntKind.u64.wrap ((IntKind.u64.wrap (num (l.drop (n+1))))*256)) % 256) l[n]=num (l.drop (n+1))*256+l[n]:=by
   rw [u64 (num (l.drop (n+1))) (by omega) (by omega),u64 (num (l.drop (n+1))*256) (by omega) (by omega),Int.emod_eq_of_lt (by omega) (by omega)];exact or_u8 _ _ r0 (by omega) hbn.1 hbn.2
  rw [e,← hs,w64 _ (by omega) (by omega)]
  exact hi
theorem number_uint8_eq (l:List Int) (hb:Bytes l) (hl:l.length=1) (k:Nat) (hk:20<k):memory_number_uint8.f k l=some (num l):=by
 obtain ⟨r0,r1⟩:=num_range l hb
 rw [hl,show (256:Int) ^ 1=256 from rfl] at r1
 have h:=number_uint8_l0 l hb r1 l.length k (Nat.le_refl _) (by omega) (by omega)
 rw [List.drop_length] at h
 unfold memory_number_uint8.f
 rw [w64 ((l.length:Int) - 1) (by omega) (by omega)]
 exact h
theorem or_u16 (x b:Int) (h0:0≤x) (h1:x*256+b<65536) (hb0:0≤b) (hb1:b<256):Go.bits .or .u16 (x*256) b=x*256+b:=by
 exact bits_join .u16 16 (by decide) (fun n h0 h1=>by have e:(2:Int) ^ 16=65536:=rfl;rw [e] at h1;rw [IntKind.wrap_u16];omega) 8 (x*256) b (by omega) (by rw [show ((2:Int) ^ 8)=256 from rfl];omega) (by omega) hb0 (by rw [show ((2:Int) ^ 8)=256 from rfl];omega) (by have e:(2:Int) ^ 16=65536:=rfl;rw [e];omega)
theorem number_uint16_l0 (l:List Int) (hb:Bytes l) (h8:num l<65536) (n:Nat):∀ k:Nat,n≤l.length→n<k→n≤1000→memory_number_uint16.l0 k l (num (l.drop n)) ((n:Int) - 1)=some (num l):=by
 induction n with
 | zero =>
  intro k _ hk _
  obtain ⟨k,rfl⟩:∃ m,k=m+1:=⟨k - 1,by omega⟩
  simp only [memory_number_uint16.l0]
  have h0:=(num_range l hb).1
  rw [if_neg (by omega),List.drop_zero]
  rw [u64 _ h0 (by omega)]
 | succ n ih =>
  intro k hn hk hs8
  obtain ⟨k,rfl⟩:∃ m,k=m+1:=⟨k - 1,by omega⟩
  have hx:((n+1:Nat):Int) - 1=(n:Int):=by omega
  have hlt:n<l.length:=by omega
  have hd:Bytes (l.drop (n+1)):=fun b h=>hb b (List.mem_of_mem_drop h)
  have r0:=(num_range _ hd).1
  have hbn:=hb l[n] (List.getElem_mem hlt)
  have hs:num (l.drop n)=num (l.drop (n+1))*256+l[n]:=by
   rw [List.drop_eq_getElem_cons hlt];simp only [num];omega
  have hle:=num_drop_le l hb n
  have hi:=ih k (by omega) (by omega) (by omega)
  rw [hx]
  simp only [memory_number_uint16.l0]
  rw [if_pos (by omega),if_pos (by omega),if_pos (by omega),rd_at l n hlt]
  have e:Go.bits .or .u16 (IntKind.u16.wrap (IntKind.u64.wrap ((IntKind.u64.wrap (num (l.drop (n+1))))*256))) (IntKind.u16.wrap l[n])=num (l.drop (n+1))*256+l[n]:=by
   rw [u64 (num (l.drop (n+1))) (by omega) (by omega),u64 (num (l.drop (n+1))*256) (by omega) (by omega),IntKind.wrap_u16,IntKind.wrap_u16,Int.emod_eq_of_lt (by omega) (by omega),Int.emod_eq_of_lt (by omega) (by omega)];exact or_u16 _ _ r0 (by omega) hbn.1 hbn.2
  rw [e,← hs,w64 _ (by omega) (by omega)]
  exact hi
theorem number_uint16_eq (l:List Int) (hb:Bytes l) (hl:l.length=2) (k:Nat) (hk:20<k):memory_number_uint16.f k l=some (num l):=by
 obtain ⟨r0,r1⟩:=num_range l hb
 rw [hl,show (256:Int) ^ 2=65536 from rfl] at r1
 have h:=number_uint16_l0 l hb r1 l.length k (Nat.le_refl _) (by omega) (by omega)
 rw [List.drop_length] at h
 unfold memory_number_uint16.f
 rw [w64 ((l.length:Int) - 1) (by omega) (by omega)]
 exact h
theorem or_u32 (x b:Int) (h0:0≤x) (h1:x*256+b<4294967296) (hb0:0≤b) (hb1:b<256):Go.bits .or .u32 (x*256) b=x*256+b:=by
 exact bits_join .u32 32 (by decide) (fun n h0 h1=>by have e:(2:Int) ^ 32=4294967296:=rfl;rw [e] at h1;rw [IntKind.wrap_u32];omega) 8 (x*256) b (by omega) (by rw [show ((2:Int) ^ 8)=256 from rfl];omega) (by omega) hb0 (by rw [show ((2:Int) ^ 8)=256 from rfl];omega) (by have e:(2:Int) ^ 32=4294967296:=rfl;rw [e];omega)
theorem number_uint32_l0 (l:List Int) (hb:Bytes l) (h8:num l<4294967296) (n:Nat):∀ k:Nat,n≤l.length→n<k→n≤1000→memory_number_uint32.l0 k l (num (l.drop n)) ((n:Int) - 1)=some (num l):=by
 induction n with
 | zero =>
  intro k _ hk _
  obtain ⟨k,rfl⟩:∃ m,k=m+1:=⟨k - 1,by omega⟩
  simp only [memory_number_uint32.l0]
  have h0:=(num_range l hb).1
  rw [if_neg (by omega),List.drop_zero]
  rw [u64 _ h0 (by omega)]
 | succ n ih =>
  intro k hn hk hs8
  obtain ⟨k,rfl⟩:∃ m,k=m+1:=⟨k - 1,by omega⟩
  have hx:((n+1:Nat):Int) - 1=(n:Int):=by omega
  have hlt:n<l.length:=by omega
  have hd:Bytes (l.drop (n+1)):=fun b h=>hb b (List.mem_of_mem_drop h)
  have r0:=(num_range _ hd).1
  have hbn:=hb l[n] (List.getElem_mem hlt)
  have hs:num (l.drop n)=num (l.drop (n+1))*256+l[n]:=by
   rw [List.drop_eq_getElem_cons hlt];simp only [num];omega
  have hle:=num_drop_le l hb n
  have hi:=ih k (by omega) (by omega) (by omega)
  rw [hx]
  simp only [memory_number_uint32.l0]
  rw [if_pos (by omega),if_pos (by omega),if_pos (by omega),rd_at l n hlt]
  have e:Go.bits .or .u32 ((IntKind.u64.wrap ((IntKind.u64.wrap (num (l.drop (n+1))))*256)) % 4294967296) (l[n] % 4294967296)=num (l.drop (n+1))*256+l[n]:=by
   rw [u64 (num (l.drop (n+1))) (by omega) (by omega),u64 (num (l.drop (n+1))*256) (by omega) (by omega),Int.emod_eq_of_lt (by omega) (by omega),Int.emod_eq_of_lt (by omega) (by omega)];exact or_u32 _ _ r0 (by omega) hbn.1 hbn.2
  rw [e,← hs,w64 _ (by omega) (by omega)]
  exact hi
theorem number_uint32_eq (l:List Int) (hb:Bytes l) (hl:l.length=4) (k:Nat) (hk:20<k):memory_number_uint32.f k l=some (num l):=by
 obtain ⟨r0,r1⟩:=num_range l hb
 rw [hl,show (256:Int) ^ 4=4294967296 from rfl] at r1
 have h:=number_uint32_l0 l hb r1 l.length k (Nat.le_refl _) (by omega) (by omega)
 rw [List.drop_length] at h
 unfold memory_number_uint32.f
 rw [w64 ((l.length:Int) - 1) (by omega) (by omega)]
 exact h
theorem or_u64 (x b:Int) (h0:0≤x) (h1:x*256+b<18446744073709551616) (hb0:0≤b) (hb1:b<256):Go.bits .or .u64 (x*256) b=x*256+b:=by
 exact bits_join .u64 64 (by decide) (fun n h0 h1=>by have e:(2:Int) ^ 64=18446744073709551616:=rfl;rw [e] at h1;rw [IntKind.wrap_u64];omega) 8 (x*256) b (by omega) (by rw [show ((2:Int) ^ 8)=256 from rfl];omega) (by omega) hb0 (by rw [show ((2:Int) ^ 8)=256 from rfl];omega) (by have e:(2:Int) ^ 64=18446744073709551616:=rfl;rw [e];omega)
theorem number_uint64_l0 (l:List Int) (hb:Bytes l) (h8:num l<18446744073709551616) (n:Nat):∀ k:Nat,n≤l.length→n<k→n≤1000→memory_number_uint64.l0 k l (num (l.drop n)) ((n:Int) - 1)=some (num l):=by
 induction n with
 | zero =>
  intro k _ hk _
  obtain ⟨k,rfl⟩:∃ m,k=m+1:=⟨k - 1,by omega⟩
  simp only [memory_number_uint64.l0]
  have h0:=(num_range l hb).1
  rw [if_neg (by omega),List.drop_zero]
 | succ n ih =>
  intro k hn hk hs8
  obtain ⟨k,rfl⟩:∃ m,k=m+1:=⟨k - 1,by omega⟩
  have hx:((n+1:Nat):Int) - 1=(n:Int):=by omega
  have hlt:n<l.length:=by omega
  have hd:Bytes (l.drop (n+1)):=fun b h=>hb b (List.mem_of_mem_drop h)
  have r0:=(num_range _ hd).1
  have hbn:=hb l[n] (List.getElem_mem hlt)
  have hs:num (l.drop n)=num (l.drop (n+1))*256+l[n]:=by
   rw [List.drop_eq_getElem_cons hlt];simp only [num];omega
  have hle:=num_drop_le l hb n
  have hi:=ih k (by omega) (by omega) (by omega)
  rw [hx]
  simp only [memory_number_uint64.l0]
  rw [if_pos (by omega),if_pos (by omega),if_pos (by omega),rd_at l n hlt]
  have e:Go.bits .or .u64 (IntKind.u64.wrap (num (l.drop (n+1))*256)) (IntKind.u64.wrap l[n])=num (l.drop (n+1))*256+l[n]:=by
   rw [u64 (num (l.drop (n+1))*256) (by omega) (by omega),u64 l[n] (by omega) (by omega)];exact or_u64 _ _ r0 (by omega) hbn.1 hbn.2
  rw [e,← hs,w64 _ (by omega) (by omega)]
  exact hi
theorem number_uint64_eq (l:List Int) (hb:Bytes l) (hl:l.length=8) (k:Nat) (hk:20<k):memory_number_uint64.f k l=some (num l):=by
 obtain ⟨r0,r1⟩:=num_range l hb
 rw [hl,show (256:Int) ^ 8=18446744073709551616 from rfl] at r1
 have h:=number_uint64_l0 l hb r1 l.length k (Nat.le_refl _) (by omega) (by omega)
 rw [List.drop_length] at h
 unfold memory_number_uint64.f
 rw [w64 ((l.length:Int) - 1) (by omega) (by omega)]
 exact h
theorem RegAt.below {w w':World} {r:Reg} (h:RegAt w r) (hb:Below w.heap.size w w'):RegAt w' r:=by
 refine ⟨h.blk.below hb h.blk.lt,h.len,h.small,h.first0,h.first1,fun hp=>?_⟩
 obtain ⟨d,cs,e,hd,hl,hc⟩:=h.row hp
 exact ⟨d,cs,e,hd.below hb hd.lt,hl,hc⟩
theorem RowAt.below {w w':World} {P:Option Addr} {cap:Nat} {rs:List Reg} (h:RowAt w P cap rs) (hb:Below w.heap.size w w'):RowAt w' P cap rs:=by
 refine ⟨h.big,h.len,h.small,?_,fun r hr=>(h.regs r hr).below hb⟩
 rcases h.row with h0|⟨d,cs,e,hd,hl,hc⟩
 ·exact .inl h0
 ·exact .inr ⟨d,cs,e,hd.below hb hd.lt,hl,hc⟩
theorem SpaceAt.below {w w':World} {s:Nat} {rs:List Reg} (h:SpaceAt w s rs) (hb:Below w.heap.size w w'):SpaceAt w' s rs:=by
 obtain ⟨P,cap,h1,h2⟩:=h
 exact ⟨P,cap,h1.below hb h1.lt,h2.below hb⟩
theorem SpaceAt.drewN {w:World} {s:Nat} {rs:List Reg} (h:SpaceAt w s rs) (n:Nat):SpaceAt (w.drewN n) s rs:=h.below (pw_below_drewN (Below.refl _ _) n)
theorem wb_range (width:Int):wb width=1∨wb width=2∨wb width=4∨wb width=8:=by
 unfold wb;split
 ·exact .inl rfl
 ·split
  ·exact .inr (.inl rfl)
  ·split
   ·exact .inr (.inr (.inl rfl))
   ·exact .inr (.inr (.inr rfl))
def loadOf (rs:List Reg) (x width:Int):Int × Int:=
 match viewOf rs x (wb width) with
 | some (r,o)=>(num ((r.data.drop o).take (wb width)),0)
 | none=>(0,200)
def AllBytes (rs:List Reg):Prop:=∀ r∈rs,Bytes r.data
theorem load_ (w:World) (s:Nat) (rs:List Reg) (x width:Int) (h:SpaceAt w s rs) (hr:Rising rs) (hb:AllBytes rs) (hx0:0≤x) (hx1:x<18446744073709551616) :
  Calls Try.prog 12 #[.pointer (some ⟨s,0,none⟩),.int .u64 x,.int .i64 width] w fun e w'=>e=.returned (.tuple #[.int .u64 (loadOf rs x width).1,.int .i64 (loadOf rs x width).2])∧Drawn0 w w':=by
 have HS:=Lib.hid h
 have HR:=Lib.hid hr
 have HX:=Lib.hid (And.intro hx0 hx1)
 have HW:=Lib.hid (bytes_ width)
 obtain ⟨n,hn⟩:∃ n,n=wb width:=⟨_,rfl⟩
 have HN:=Lib.hid hn
 have hr4:=wb_range width
 rw [← hn] at hr4
 cases hv:viewOf rs x n with
 | none =>
  have HV:=Lib.hid hv
  have hl:=Lib.hid (show loadOf rs x width=(0,200) by unfold loadOf;rw [← hn,hv])
  clear h hr hb hx0 hx1 hv hn
  go_enter Try.func12,Try.ntmps12
  go_wp2_with (first|(go_at_call 24;refine (memory_bytes.calls width _ _ HW.out).mono ?_;rintro e' w' ⟨rfl,⟨nd,rfl⟩⟩;rw [← HN.out])|(go_at_call 23;refine (view_ _ _ rs x n (HS.out.drewN nd) HR.out (by omega) (by omega) HX.out.1 HX.out.2).mono ?_;rintro e' w' ⟨rfl,⟨nd2,rfl⟩⟩;rw [HV.out,show viewVal n none=.tuple #[.slice none 0 0,.int .i64 200] from rfl]))
  go_ret2
  refine ⟨?_,⟨⟨_,rfl⟩⟩⟩
  rw [hl.out];rfl
 | some ro =>
  obtain ⟨r,o⟩:=ro
  obtain ⟨hm,hlen,hxo⟩:=viewOf_some rs x n r o hv
  clear hxo
  have HV:=Lib.hid hv
  obtain ⟨P,cap,hbk,hrow⟩:=h
  have hreg:=hrow.regs r hm
  have hC:=Lib.hid (view_C hreg o n hlen)
  obtain ⟨l,hl0⟩:∃ l,l=(r.data.drop o).take n:=⟨_,rfl⟩
  have hll:l.length=n:=by rw [hl0];simp;omega
  have hlb:Bytes l:=fun b hbm=>hb r hm b (by rw [hl0] at hbm;exact List.mem_of_mem_drop (List.mem_of_mem_take hbm))
  have hl:=Lib.hid (show loadOf rs x width=(num l,0) by unfold loadOf;rw [← hn,hv,hl0])
  have hcap:n≤r.cap - o:=by have:=hreg.len;omega
  obtain ⟨A,hA⟩:∃ A,A=r.A.map (fun a=>a.add o):=⟨_,rfl⟩
  have HVV:=Lib.hid (show viewVal n (some (r,o))=.tuple #[.slice A n (r.cap - o),.int .i64 0] by rw [hA];rfl)
  rw [← hl0] at hC
  have HCC:=Lib.hid (show Kd.C (Kd.int .u8) w A l.length l by rw [hll,hA];exact hC.out)
  have HCAP:=Lib.hid (show l.length≤r.cap - o by omega)
  have HB:=Lib.hid hlb
  have HLL:=Lib.hid hll
  clear hrow hbk hreg hC hl0 hll hlb hA hr hb hx0 hx1 hv hn hm hlen hcap
  obtain ⟨kk,hkk⟩:∃ kk,20<kk:=⟨100,by omega⟩
  have HKK:=Lib.hid hkk
  clear hkk
  rcases hr4 with e|e|e|e
  ·have HE:=Lib.hid e
   have hn1:n<9223372036854775808:=by omega
   have hn0:1≤n:=by omega
   have HNN:=Lib.hid (And.intro hn0 hn1)
   clear e hn0 hn1
   have HCN:=Lib.hid (show ∀ W:World,Kd.C (Kd.int .u8) W A l.length l→Calls Try.prog 30 #[.slice A 1 (r.cap - o)] W fun e w'=>e=.returned (.int .u64 (num l))∧Drawn0 W w' from fun W hW=>by
    have h:=memory_number_uint8.calls kk A (r.cap - o) l (num l) W hW HCAP.out (number_uint8_eq l HB.out (HLL.out.trans HE.out) kk HKK.out)
    rw [HLL.out,HE.out] at h
    exact h)
   go_enter Try.func12,Try.ntmps12
   go_wp2_with (first|(go_at_call 24;refine (memory_bytes.calls width _ _ HW.out).mono ?_;rintro e' w' ⟨rfl,⟨nd,rfl⟩⟩;rw [← HN.out])|(go_at_call 23;refine (view_ _ _ rs x n (HS.out.drewN nd) HR.out HNN.out.1 HNN.out.2 HX.out.1 HX.out.2).mono ?_;rintro e' w' ⟨rfl,⟨nd2,rfl⟩⟩;rw [HV.out,HVV.out,HE.out])|(go_at_call 30;refine (HCN.out _ (by first|exact Kd.C_drewN HCC.out _|exact Kd.C_drewN (Kd.C_drewN HCC.out _) _)).mono ?_;rintro e' w' ⟨rfl,⟨nd3,rfl⟩⟩))
   go_ret2
   refine ⟨?_,⟨⟨_,rfl⟩⟩⟩
   rw [hl.out];rfl
  ·have HE:=Lib.hid e
   have hn1:n<9223372036854775808:=by omega
   have hn0:1≤n:=by omega
   have HNN:=Lib.hid (And.intro hn0 hn1)
   clear e hn0 hn1
   have HCN:=Lib.hid (show ∀ W:World,Kd.C (Kd.int .u8) W A l.length l→Calls Try.prog 31 #[.slice A 2 (r.cap - o)] W fun e w'=>e=.returned (.int .u64 (num l))∧Drawn0 W w' from fun W hW=>by
    have h:=memory_number_uint16.calls kk A (r.cap - o) l (num l) W hW HCAP.out (number_uint16_eq l HB.out (HLL.out.trans HE.out) kk HKK.out)
    rw [HLL.out,HE.out] at h
    exact h)
   go_enter Try.func12,Try.ntmps12
   go_wp2_with (first|(go_at_call 24;refine (memory_bytes.calls width _ _ HW.out).mono ?_;rintro e' w' ⟨rfl,⟨nd,rfl⟩⟩;rw [← HN.out])|(go_at_call 23;refine (view_ _ _ rs x n (HS.out.drewN nd) HR.out HNN.out.1 HNN.out.2 HX.out.1 HX.out.2).mono ?_;rintro e' w' ⟨rfl,⟨nd2,rfl⟩⟩;rw [HV.out,HVV.out,HE.out])|(go_at_call 31;refine (HCN.out _ (by first|exact Kd.C_drewN HCC.out _|exact Kd.C_drewN (Kd.C_drewN HCC.out _) _)).mono ?_;rintro e' w' ⟨rfl,⟨nd3,rfl⟩⟩))
   go_ret2
   refine ⟨?_,⟨⟨_,rfl⟩⟩⟩
   rw [hl.out];rfl
  ·have HE:=Lib.hid e
   have hn1:n<9223372036854775808:=by omega
   have hn0:1≤n:=by omega
   have HNN:=Lib.hid (And.intro hn0 hn1)
   clear e hn0 hn1
   have HCN:=Lib.hid (show ∀ W:World,Kd.C (Kd.int .u8) W A l.length l→Calls Try.prog 32 #[.slice A 4 (r.cap - o)] W fun e w'=>e=.returned (.int .u64 (num l))∧Drawn0 W w' from fun W hW=>by
    have h:=memory_number_uint32.calls kk A (r.cap - o) l (num l) W hW HCAP.out (number_uint32_eq l HB.out (HLL.out.trans HE.out) kk HKK.out)
    rw [HLL.out,HE.out] at h
    exact h)
   go_enter Try.func12,Try.ntmps12
   go_wp2_with (first|(go_at_call 24;refine (memory_bytes.calls width _ _ HW.out).mono ?_;rintro e' w' ⟨rfl,⟨nd,rfl⟩⟩;rw [← HN.out])|(go_at_call 23;refine (view_ _ _ rs x n (HS.out.drewN nd) HR.out HNN.out.1 HNN.out.2 HX.out.1 HX.out.2).mono ?_;rintro e' w' ⟨rfl,⟨nd2,rfl⟩⟩;rw [HV.out,HVV.out,HE.out])|(go_at_call 32;refine (HCN.out _ (by first|exact Kd.C_drewN HCC.out _|exact Kd.C_drewN (Kd.C_drewN HCC.out _) _)).mono ?_;rintro e' w' ⟨rfl,⟨nd3,rfl⟩⟩))
   go_ret2
   refine ⟨?_,⟨⟨_,rfl⟩⟩⟩
   rw [hl.out];rfl
  ·have HE:=Lib.hid e
   have hn1:n<9223372036854775808:=by omega
   have hn0:1≤n:=by omega
   have HNN:=Lib.hid (And.intro hn0 hn1)
   clear e hn0 hn1
   have HCN:=Lib.hid (show ∀ W:World,Kd.C (Kd.int .u8) W A l.length l→Calls Try.prog 33 #[.slice A 8 (r.cap - o)] W fun e w'=>e=.returned (.int .u64 (num l))∧Drawn0 W w' from fun W hW=>by
    have h:=memory_number_uint64.calls kk A (r.cap - o) l (num l) W hW HCAP.out (number_uint64_eq l HB.out (HLL.out.trans HE.out) kk HKK.out)
    rw [HLL.out,HE.out] at h
    exact h)
   go_enter Try.func12,Try.ntmps12
   go_wp2_with (first|(go_at_call 24;refine (memory_bytes.calls width _ _ HW.out).mono ?_;rintro e' w' ⟨rfl,⟨nd,rfl⟩⟩;rw [← HN.out])|(go_at_call 23;refine (view_ _ _ rs x n (HS.out.drewN nd) HR.out HNN.out.1 HNN.out.2 HX.out.1 HX.out.2).mono ?_;rintro e' w' ⟨rfl,⟨nd2,rfl⟩⟩;rw [HV.out,HVV.out,HE.out])|(go_at_call 33;refine (HCN.out _ (by first|exact Kd.C_drewN HCC.out _|exact Kd.C_drewN (Kd.C_drewN HCC.out _) _)).mono ?_;rintro e' w' ⟨rfl,⟨nd3,rfl⟩⟩))
   go_ret2
   refine ⟨?_,⟨⟨_,rfl⟩⟩⟩
   rw [hl.out];rfl
end Go.Proofs.Ythmeojeehemlaaa.Mem
end
section
namespace Go.Proofs.Ythmeojeehemlaaa.Mem
open Go.RowKit Go.Proofs.YthmeojeehemlaaaW.PrintWords
attribute [local go_sem] isSome_setCell
structure Only (w w':World) (d:Nat):Prop where
 os:w'.os=w.os
 tape:w'.tape=w.tape
 output:w'.output=w.output
 size:w.heap.size=w'.heap.size
 block:∀ i,i≠d→w'.heap[i]?=w.heap[i]?
theorem Only.refl (w:World) (d:Nat):Only w w d:=⟨rfl,rfl,rfl,rfl,fun _ _=>rfl⟩
theorem Only.set_ {w w':World} {d:Nat} (h:Only w w' d) (i:Nat) (u:Value):Only w (w'.setCell ⟨d,i,none⟩ u) d:=by
 refine ⟨h.os,h.tape,h.output,by rw [h.size];simp [World.setCell],fun k hk=>?_⟩
 rw [← h.block k hk]
 have:d≠k:=fun e=>hk e.symm
 simp [World.setCell,Array.getElem?_modify,this]
theorem Only.drew {w w':World} {d:Nat} (h:Only w w' d):Only w w'.drew d:=⟨h.os,h.tape,h.output,h.size,h.block⟩
def le:Nat→Int→List Int
 | 0,_=>[]
 | n+1,x=>x % 256 :: le n (x / 256)
theorem lay64_ (w:World) (d o n c:Nat) (cs:Array Value) (x:Int) (hb:Blk w d 5 cs) (hl:o+n≤cs.size) (hn:n<1000) (hx0:0≤x) :
  Calls Try.prog 29 #[.slice (some ⟨d,o,none⟩) n c,.int .u64 x] w fun e w'=>e=.returned (.tuple #[])∧∃ cs':Array Value,Blk w' d 5 cs'∧cs'.size=cs.size∧(∀ j,j<n→cs'[o+j]?=some (.int .u8 ((x / 256 ^ j) % 256)))∧(∀ j,(j<o∨o+n≤j)→cs'[j]?=cs[j]?)∧Only w w' d:=by
 have HB:=Lib.hid hb
 have HL:=Lib.hid hl
 have HX:=Lib.hid hx0
 clear hb hl hx0
 go_enter Try.func29,Try.ntmps29
 go_wp2
 go_loopw [1,7] (fun v i wr=>∃ (k:Nat) (y:Int) (cs':Array Value),k≤n∧v=.int .u64 y∧i=.int .i64 (k:Int)∧Hid (y=x / 256 ^ k)∧Hid (Blk wr d 5 cs')∧Hid (cs'.size=cs.size)∧Hid (∀ j,j<k→cs'[o+j]?=some (.int .u8 ((x / 256 ^ j) % 256)))∧Hid (∀ j,(j<o∨o+k≤j)→cs'[j]?=cs[j]?)∧Hid (Only w wr d)) (fun _ i _=>n - (intOf i).toNat)
 case atStart=>exact ⟨0,x,cs,Nat.zero_le _,rfl,rfl,Lib.hid (by rw [Int.pow_zero,Int.ediv_one]),HB,Lib.hid rfl,Lib.hid (fun j h=>absurd h (Nat.not_lt_zero j)),Lib.hid (fun _ _=>rfl),Lib.hid (Only.refl w d)⟩
 case round =>
  obtain ⟨k,y,cs',hk,rfl,rfl,hy,hB,hs,h1,h2,hO⟩:=hrel
  by_cases hlt:k<n
  ·have hkc:o+k<cs'.size:=by rw [hs.out];have:=HL.out;omega
   obtain ⟨v0,hv0⟩:∃ v0,cs'[o+k]?=some v0:=⟨_,Array.getElem?_eq_getElem hkc⟩
   have cb:=hB.out.cell (o+k)
   rw [hv0] at cb
   have fb:=hB.out.frozen (o+k)
   have HKC:=Lib.hid hkc
   have hy0:0≤y:=by rw [hy.out];exact Int.ediv_nonneg HX.out (Int.pow_nonneg (by decide))
   clear hv0 hkc
   go_wp2
   go_roundw
   case rel =>
    refine ⟨k+1,y / 256,cs'.setIfInBounds (o+k) (.int .u8 (y % 256)),by omega,rfl,by go_num,Lib.hid ?_,Lib.hid (hB.out.set_ _ _),Lib.hid (by simpa using hs.out),Lib.hid ?_,Lib.hid ?_,Lib.hid (hO.out.set_ _ _)⟩
    ·rw [hy.out,Int.pow_succ,← Int.ediv_ediv_of_nonneg (Int.pow_nonneg (by decide))]
    ·intro j hj
     by_cases e:j=k
     ·subst e
      rw [Array.getElem?_setIfInBounds_self_of_lt HKC.out,hy.out]
     ·rw [Array.getElem?_setIfInBounds_ne (by omega)]
      exact h1.out j (by omega)
    ·intro j hj
     rw [Array.getElem?_setIfInBounds_ne (by omega)]
     exact h2.out j (by omega)
   case measure=>simp [intOf];omega
  ·obtain rfl:k=n:=by omega
   go_wp2
   go_end0
   exact ⟨rfl,cs',hB.out,hs.out,h1.out,h2.out,hO.out⟩
theorem lay32_ (w:World) (d o n c:Nat) (cs:Array Value) (x:Int) (hb:Blk w d 5 cs) (hl:o+n≤cs.size) (hn:n<1000) (hx0:0≤x) (hx1:x<4294967296) :
  Calls Try.prog 28 #[.slice (some ⟨d,o,none⟩) n c,.int .u32 x] w fun e w'=>e=.returned (.tuple #[])∧∃ cs':Array Value,Blk w' d 5 cs'∧cs'.size=cs.size∧(∀ j,j<n→cs'[o+j]?=some (.int .u8 ((x / 256 ^ j) % 256)))∧(∀ j,(j<o∨o+n≤j)→cs'[j]?=cs[j]?)∧Only w w' d:=by
 have HB:=Lib.hid hb
 have HL:=Lib.hid hl
 have HX:=Lib.hid hx0
 have HX1:=Lib.hid hx1
 clear hb hl hx0 hx1
 go_enter Try.func28,Try.ntmps28
 go_wp2
 go_loopw [1,7] (fun v i wr=>∃ (k:Nat) (y:Int) (cs':Array Value),k≤n∧v=.int .u32 y∧i=.int .i64 (k:Int)∧Hid (y=x / 256 ^ k)∧Hid (Blk wr d 5 cs')∧Hid (cs'.size=cs.size)∧Hid (∀ j,j<k→cs'[o+j]?=some (.int .u8 ((x / 256 ^ j) % 256)))∧Hid (∀ j,(j<o∨o+k≤j)→cs'[j]?=cs[j]?)∧Hid (Only w wr d)) (fun _ i _=>n - (intOf i).toNat)
 case atStart=>exact ⟨0,x,cs,Nat.zero_le _,rfl,rfl,Lib.hid (by rw [Int.pow_zero,Int.ediv_one]),HB,Lib.hid rfl,Lib.hid (fun j h=>absurd h (Nat.not_lt_zero j)),Lib.hid (fun _ _=>rfl),Lib.hid (Only.refl w d)⟩
 case round =>
  obtain ⟨k,y,cs',hk,rfl,rfl,hy,hB,hs,h1,h2,hO⟩:=hrel
  by_cases hlt:k<n
  ·have hkc:o+k<cs'.size:=by rw [hs.out];have:=HL.out;omega
   obtain ⟨v0,hv0⟩:∃ v0,cs'[o+k]?=some v0:=⟨_,Array.getElem?_eq_getElem hkc⟩
   have cb:=hB.out.cell (o+k)
   rw [hv0] at cb
   have fb:=hB.out.frozen (o+k)
   have HKC:=Lib.hid hkc
   have hy0:0≤y:=by rw [hy.out];exact Int.ediv_nonneg HX.out (Int.pow_nonneg (by decide))
   have hy1:y<4294967296:=by
    have h:x / 256 ^ k≤x:=Int.ediv_le_self _ HX.out
    have h2:=HX1.out
    rw [hy.out];omega
   have kw:IntKind.u64.wrap y=y:=u64 y hy0 (by omega)
   have kq:(y / 256) % 4294967296=y / 256:=Int.emod_eq_of_lt (by omega) (by omega)
   have HY:=Lib.hid (And.intro hy0 hy1)
   clear hv0 hkc
   go_wp2
   go_roundw
   case rel =>
    refine ⟨k+1,y / 256,cs'.setIfInBounds (o+k) (.int .u8 (y % 256)),by omega,rfl,by go_num,Lib.hid ?_,Lib.hid (hB.out.set_ _ _),Lib.hid (by simpa using hs.out),Lib.hid ?_,Lib.hid ?_,Lib.hid (hO.out.set_ _ _)⟩
    ·rw [hy.out,Int.pow_succ,← Int.ediv_ediv_of_nonneg (Int.pow_nonneg (by decide))]
    ·intro j hj
     by_cases e:j=k
     ·subst e
      rw [Array.getElem?_setIfInBounds_self_of_lt HKC.out,hy.out]
     ·rw [Array.getElem?_setIfInBounds_ne (by omega)]
      exact h1.out j (by omega)
    ·intro j hj
     rw [Array.getElem?_setIfInBounds_ne (by omega)]
     exact h2.out j (by omega)
   case measure=>simp [intOf];omega
  ·obtain rfl:k=n:=by omega
   go_wp2
   go_end0
   exact ⟨rfl,cs',hB.out,hs.out,h1.out,h2.out,hO.out⟩
theorem lay16_ (w:World) (d o n c:Nat) (cs:Array Value) (x:Int) (hb:Blk w d 5 cs) (hl:o+n≤cs.size) (hn:n<1000) (hx0:0≤x) (hx1:x<65536) :
  Calls Try.prog 27 #[.slice (some ⟨d,o,none⟩) n c,.int .u16 x] w fun e w'=>e=.returned (.tuple #[])∧∃ cs':Array Value,Blk w' d 5 cs'∧cs'.size=cs.size∧(∀ j,j<n→cs'[o+j]?=some (.int .u8 ((x / 256 ^ j) % 256)))∧(∀ j,(j<o∨o+n≤j)→cs'[j]?=cs[j]?)∧Only w w' d:=by
 have HB:=Lib.hid hb
 have HL:=Lib.hid hl
 have HX:=Lib.hid hx0
 have HX1:=Lib.hid hx1
 clear hb hl hx0 hx1
 go_enter Try.func27,Try.ntmps27
 go_wp2
 go_loopw [1,7] (fun v i wr=>∃ (k:Nat) (y:Int) (cs':Array Value),k≤n∧v=.int .u16 y∧i=.int .i64 (k:Int)∧Hid (y=x / 256 ^ k)∧Hid (Blk wr d 5 cs')∧Hid (cs'.size=cs.size)∧Hid (∀ j,j<k→cs'[o+j]?=some (.int .u8 ((x / 256 ^ j) % 256)))∧Hid (∀ j,(j<o∨o+k≤j)→cs'[j]?=cs[j]?)∧Hid (Only w wr d)) (fun _ i _=>n - (intOf i).toNat)
 case atStart=>exact ⟨0,x,cs,Nat.zero_le _,rfl,rfl,Lib.hid (by rw [Int.pow_zero,Int.ediv_one]),HB,Lib.hid rfl,Lib.hid (fun j h=>absurd h (Nat.not_lt_zero j)),Lib.hid (fun _ _=>rfl),Lib.hid (Only.refl w d)⟩
 case round =>
  obtain ⟨k,y,cs',hk,rfl,rfl,hy,hB,hs,h1,h2,hO⟩:=hrel
  by_cases hlt:k<n
  ·have hkc:o+k<cs'.size:=by rw [hs.out];have:=HL.out;omega
   obtain ⟨v0,hv0⟩:∃ v0,cs'[o+k]?=some v0:=⟨_,Array.getElem?_eq_getElem hkc⟩
   have cb:=hB.out.cell (o+k)
   rw [hv0] at cb
   have fb:=hB.out.frozen (o+k)
   have HKC:=Lib.hid hkc
   have hy0:0≤y:=by rw [hy.out];exact Int.ediv_nonneg HX.out (Int.pow_nonneg (by decide))
   have hy1:y<65536:=by
    have h:x / 256 ^ k≤x:=Int.ediv_le_self _ HX.out
    have h2:=HX1.out
    rw [hy.out];omega
   have kw:IntKind.u64.wrap y=y:=u64 y hy0 (by omega)
   have kq:IntKind.u16.wrap (y / 256)=y / 256:=by rw [IntKind.wrap_u16];exact Int.emod_eq_of_lt (by omega) (by omega)
   have HY:=Lib.hid (And.intro hy0 hy1)
   clear hv0 hkc
   go_wp2
   go_roundw
   case rel =>
    refine ⟨k+1,y / 256,cs'.setIfInBounds (o+k) (.int .u8 (y % 256)),by omega,rfl,by go_num,Lib.hid ?_,Lib.hid (hB.out.set_ _ _),Lib.hid (by simpa using hs.out),Lib.hid ?_,Lib.hid ?_,Lib.hid (hO.out.set_ _ _)⟩
    ·rw [hy.out,Int.pow_succ,← Int.ediv_ediv_of_nonneg (Int.pow_nonneg (by decide))]
    ·intro j hj
     by_cases e:j=k
     ·subst e
      rw [Array.getElem?_setIfInBounds_self_of_lt HKC.out,hy.out]
     ·rw [Array.getElem?_setIfInBounds_ne (by omega)]
      exact h1.out j (by omega)
    ·intro j hj
     rw [Array.getElem?_setIfInBounds_ne (by omega)]
     exact h2.out j (by omega)
   case measure=>simp [intOf];omega
  ·obtain rfl:k=n:=by omega
   go_wp2
   go_end0
   exact ⟨rfl,cs',hB.out,hs.out,h1.out,h2.out,hO.out⟩
theorem lay8_ (w:World) (d o n c:Nat) (cs:Array Value) (x:Int) (hb:Blk w d 5 cs) (hl:o+n≤cs.size) (hn:n<1000) (hx0:0≤x) (hx1:x<256) :
  Calls Try.prog 26 #[.slice (some ⟨d,o,none⟩) n c,.int .u8 x] w fun e w'=>e=.returned (.tuple #[])∧∃ cs':Array Value,Blk w' d 5 cs'∧cs'.size=cs.size∧(∀ j,j<n→cs'[o+j]?=some (.int .u8 ((x / 256 ^ j) % 256)))∧(∀ j,(j<o∨o+n≤j)→cs'[j]?=cs[j]?)∧Only w w' d:=by
 have HB:=Lib.hid hb
 have HL:=Lib.hid hl
 have HX:=Lib.hid hx0
 have HX1:=Lib.hid hx1
 clear hb hl hx0 hx1
 go_enter Try.func26,Try.ntmps26
 go_wp2
 go_loopw [1,7] (fun v i wr=>∃ (k:Nat) (y:Int) (cs':Array Value),k≤n∧v=.int .u8 y∧i=.int .i64 (k:Int)∧Hid (y=x / 256 ^ k)∧Hid (Blk wr d 5 cs')∧Hid (cs'.size=cs.size)∧Hid (∀ j,j<k→cs'[o+j]?=some (.int .u8 ((x / 256 ^ j) % 256)))∧Hid (∀ j,(j<o∨o+k≤j)→cs'[j]?=cs[j]?)∧Hid (Only w wr d)) (fun _ i _=>n - (intOf i).toNat)
 case atStart=>exact ⟨0,x,cs,Nat.zero_le _,rfl,rfl,Lib.hid (by rw [Int.pow_zero,Int.ediv_one]),HB,Lib.hid rfl,Lib.hid (fun j h=>absurd h (Nat.not_lt_zero j)),Lib.hid (fun _ _=>rfl),Lib.hid (Only.refl w d)⟩
 case round =>
  obtain ⟨k,y,cs',hk,rfl,rfl,hy,hB,hs,h1,h2,hO⟩:=hrel
  by_cases hlt:k<n
  ·have hkc:o+k<cs'.size:=by rw [hs.out];have:=HL.out;omega
   obtain ⟨v0,hv0⟩:∃ v0,cs'[o+k]?=some v0:=⟨_,Array.getElem?_eq_getElem hkc⟩
   have cb:=hB.out.cell (o+k)
   rw [hv0] at cb
   have fb:=hB.out.frozen (o+k)
   have HKC:=Lib.hid hkc
   have hy0:0≤y:=by rw [hy.out];exact Int.ediv_nonneg HX.out (Int.pow_nonneg (by decide))
   have hy1:y<256:=by
    have h:x / 256 ^ k≤x:=Int.ediv_le_self _ HX.out
    have h2:=HX1.out
    rw [hy.out];omega
   have kw:IntKind.u64.wrap y=y:=u64 y hy0 (by omega)
   have kq:(y / 256) % 256=y / 256:=Int.emod_eq_of_lt (by omega) (by omega)
   have kr:y % 256=y:=Int.emod_eq_of_lt (by omega) (by omega)
   have HY:=Lib.hid (And.intro hy0 hy1)
   clear hv0 hkc
   go_wp2
   go_roundw
   case rel =>
    refine ⟨k+1,y / 256,cs'.setIfInBounds (o+k) (.int .u8 y),by omega,rfl,by go_num,Lib.hid ?_,Lib.hid (hB.out.set_ _ _),Lib.hid (by simpa using hs.out),Lib.hid ?_,Lib.hid ?_,Lib.hid (hO.out.set_ _ _)⟩
    ·rw [hy.out,Int.pow_succ,← Int.ediv_ediv_of_nonneg (Int.pow_nonneg (by decide))]
    ·intro j hj
     by_cases e:j=k
     ·subst e
      rw [Array.getElem?_setIfInBounds_self_of_lt HKC.out,← hy.out,Int.emod_eq_of_lt HY.out.1 HY.out.2]
     ·rw [Array.getElem?_setIfInBounds_ne (by omega)]
      exact h1.out j (by omega)
    ·intro j hj
     rw [Array.getElem?_setIfInBounds_ne (by omega)]
     exact h2.out j (by omega)
   case measure=>simp [intOf];omega
  ·obtain rfl:k=n:=by omega
   go_wp2
   go_end0
   exact ⟨rfl,cs',hB.out,hs.out,h1.out,h2.out,hO.out⟩
end Go.Proofs.Ythmeojeehemlaaa.Mem
end
section
namespace Go.Proofs.Ythmeojeehemlaaa.Mem
open Go.RowKit Go.Proofs.YthmeojeehemlaaaW.PrintWords
open Go.Proofs.Ythmeojeehemlaaa.PM
theorem clone_ (ad:Addr) (n c:Nat) (zs:List Int) (w:World) (hz:n=zs.length) (hbig:n≤140737488355328) (hc:∀ j,j<zs.length→w.cell? (ad.add j)=some (.int .u8 (zs.getD j 0))) :
  Calls Try.prog 57 #[.slice (some ad) n c] w fun e w'=>∃ v',e=.returned v'∧w'.ownsRow w.heap.size 5 1 v' n (zs.map (Value.int .u8))∧v'≠.slice none 0 0∧Below w.heap.size w w':=by
 obtain ⟨i0,hi,hz0,hz1,hz2⟩:=info_parts (P:=Try.prog) (e:=5) (z:=.int .u8 0) (size:=1) (bytes:=1) (by kernel_rfl)
 have q22:∀ (w:World) (a:Option Addr) (n c n' c':Nat),(binOp .eql 37 (.slice a n c) (.slice none n' c')).run Try.prog w=.ok (.bool a.isNone) w:=fun w a n c n' c'=>Lib.run_eql_slice_nil w _ _ a n c n' c' Try.underlying37
 have A:=Lib.hid hc
 clear hc
 go_enter Try.func57,Try.ntmps57
 go_wp2_with (at_builtin;refine wpList_append_own _ rfl _ _ 37 rfl w.heap.size 5 i0 (.int .u8 0) 1 1 Try.underlying37 hi hz0 hz1 hz2 rfl (by decide) _ _ _ rfl (World.ownsRow_made w #[] 0 (Nat.le_refl _) (Nat.zero_le _) rfl) ad n c (zs.map (Value.int .u8)) rfl ?qc1 ?qc2 ?qc3 ?qc4 ?qc5 ?qc6 ?_)
 case qc1=>simp;omega
 case qc2 =>
  intro j u hj
  have hjn:j<zs.length:=by
   have:=(List.getElem?_eq_some_iff.1 hj).1
   simpa using this
  refine Lib.cell?_alloc_some _ ?_
  rw [A.out j hjn]
  have e:(zs.map (Value.int .u8))[j]?=some (Value.int .u8 (zs.getD j 0)):=by simp [List.getD,List.getElem?_eq_getElem hjn]
  rw [e] at hj
  exact hj
 case qc3=>intro u hu;obtain ⟨x,_,rfl⟩:=List.mem_map.1 hu;rfl
 case qc4=>unfold maxLen;omega
 case qc5=>omega
 case qc6=>simp
 intro v' w1 hown hgrow hnil
 go_wp2
 go_ret
 refine ⟨v',rfl,by rw [hz];simpa using hown,?_,?_⟩
 ·exact hnil
 ·exact ((Below.refl _ w).alloc (Nat.le_refl _) _).grown hgrow (by simp) (by intro k hk;simp [Value.ownBlock] at hk;omega)
theorem clone_nil (n c:Nat) (w:World) :
  Calls Try.prog 57 #[.slice none n c] w fun e w'=>e=.returned (.slice none 0 0)∧w'=w:=by
 have q22:∀ (w:World) (a:Option Addr) (n c n' c':Nat),(binOp .eql 37 (.slice a n c) (.slice none n' c')).run Try.prog w=.ok (.bool a.isNone) w:=fun w a n c n' c'=>Lib.run_eql_slice_nil w _ _ a n c n' c' Try.underlying37
 go_enter Try.func57,Try.ntmps57
 go_wp2
 go_ret
 exact ⟨rfl,rfl⟩
end Go.Proofs.Ythmeojeehemlaaa.Mem
end
section
namespace Go.Proofs.Ythmeojeehemlaaa.Mem
open Go.RowKit Go.Lib Go.Proofs.YthmeojeehemlaaaW.PrintWords
theorem i106:(Try.prog.info? 106).map (fun i=>(i.zero,i.size,i.bytes))=some (some (.pointer none),1,8):=by kernel_rfl
theorem z106:∀ w,(Go.sizeOf 106).run Try.prog w=.ok 1 w:=fun w=>by
 obtain ⟨i0,hi0,h0,h1,h2⟩:=info_parts i106
 simp [Go.sizeOf,typeInfo,hi0,h1]
theorem insert_shift (b off n c i vb voff m vc:Nat) (cs vs:List Value) (w:World) (hi:i<n) (hm:0<m) (hroom:n+m≤c) (hc63:c≤9223372036854775807) (hvb:vb≠b)
  (hcl:cs.length=n) (hvl:vs.length=m)
  (hcs:∀ j v,cs[j]?=some v→w.cell? ⟨b,off+j,none⟩=some v) (hsp:∀ j,j<n+m→(w.cell? ⟨b,off+j,none⟩).isSome=true) (hfz:∀ j,j<n+m→w.frozen? ⟨b,off+j,none⟩=false)
  (hvs:∀ j v,vs[j]?=some v→w.cell? ⟨vb,voff+j,none⟩=some v) (h1c:∀ v∈cs,v.oneCell'=true) (h1v:∀ v∈vs,v.oneCell'=true)
  (tA tB:TypeId) (kA kB:Nat) (hsa:w.shape? vb=some (tA,kA)) (hsb:w.shape? b=some (tB,kB)) (hkB:kB≠0) (hfa:w.frozen? ⟨vb,voff,none⟩=false) (hfe:w.frozen? ⟨vb,kA,none⟩=false) :
  Calls Try.prog 61 #[.slice (some ⟨b,off,none⟩) n c,.int .i64 i,.slice (some ⟨vb,voff,none⟩) m vc] w fun e w' =>
   e=.returned (.slice (some ⟨b,off,none⟩) (n+m) c)∧w'=(w.drew.setCells b (off+(i+m)) (cs.drop i)).setCells b (off+i) vs:=by
 have hz1:¬ ((m:Int)=0):=by omega
 have hz2:¬ ((i:Int)=(n:Int)):=by omega
 have hsz:(Try.prog.info? 106).map (·.size)=some 1:=by
  obtain ⟨i0,hi0,h0,h1,h2⟩:=info_parts i106
  rw [hi0];simp [h1]
 have hov:∀ lb cb,(callFunc 83 #[.slice (some ⟨vb,voff,none⟩) m vc,.slice (some ⟨b,off+(i+m),none⟩) lb cb]).run Try.prog w=.ok (.value (.bool false)) w:=fun lb cb=>by
  rw [run_callFunc_extern Try.func83 (by kernel_rfl) (by kernel_rfl) (by kernel_rfl) (e:=Extern.SlicesOverlaps.overlaps #[59,59] #[4]) (by kernel_rfl),
   Lib.run_overlaps_apart w 59 4 106 Try.underlying59 1 z106 ⟨vb,voff,none⟩ ⟨b,off+(i+m),none⟩ m vc lb cb hvb tA tB kA kB hsa hsb hkB hfa hfe]
  rfl
 have hdl:(cs.drop i).length=n - i:=by rw [List.length_drop,hcl]
 have hw1:IntKind.i64.wrap ((i:Int)+(m:Int))=(i:Int)+(m:Int):=by rw [IntKind.wrap_i64];omega
 have hb1:(0:Int)≤(i:Int)+(m:Int):=by omega
 have hin:i≤n:=by omega
 have htn:((i:Int)+(m:Int)).toNat=i+m:=by omega
 have hb2:¬ (c=i+m):=by omega
 have hb3:(i:Int)≤(n:Int)+(m:Int):=by omega
 have hb4:¬ (c=i):=by omega
 have hcp1:∀ ty dc sc,(Builtin.copy_ #[59,59] ty #[.slice (some ⟨b,off+(i+m),none⟩) (n+m - (i+m)) dc,.slice (some ⟨b,off+i,none⟩) (n+m - i) sc]).run Try.prog w.drew=.ok (goInt (cs.drop i).length) (w.drew.setCells b (off+(i+m)) (cs.drop i)):=fun ty dc sc =>
  run_copy_cells w.drew _ _ ty 106 b (off+(i+m)) (n+m - (i+m)) dc ⟨b,off+i,none⟩ (n+m - i) sc (cs.drop i) Try.underlying59 hsz (by rw [hdl];simp only [Nat.min_def];split <;> omega)
   (fun j v hj=>by rw [Addr.add_lit,Nat.add_assoc];exact hcs (i+j) v (by rwa [List.getElem?_drop] at hj))
   (fun j hj=>by rw [Nat.add_assoc];exact hsp _ (by omega)) (fun j hj=>by rw [Nat.add_assoc];exact hfz _ (by omega)) (fun v hv=>h1c v (List.mem_of_mem_drop hv))
 obtain ⟨W1,hW1⟩:∃ W1,W1=w.drew.setCells b (off+(i+m)) (cs.drop i):=⟨_,rfl⟩
 have hsp1:∀ k,k<n+m→(W1.cell? ⟨b,off+k,none⟩).isSome=true:=fun k hk=>by
  rw [hW1]
  exact isSome_setCells b _ _ _ (fun j hj=>by rw [Nat.add_assoc];exact hsp _ (by omega)) _ (hsp k hk)
 have hcp2:∀ (W:World),(∀ x,W.cell? x=W1.cell? x)→(∀ x,W.frozen? x=W1.frozen? x)→∀ ty dc,(Builtin.copy_ #[59,59] ty #[.slice (some ⟨b,off+i,none⟩) (n+m - i) dc,.slice (some ⟨vb,voff,none⟩) m vc]).run Try.prog W=.ok (goInt vs.length) (W.setCells b (off+i) vs):=fun W hWc hWf ty dc =>
  run_copy_cells W _ _ ty 106 b (off+i) (n+m - i) dc ⟨vb,voff,none⟩ m vc vs Try.underlying59 hsz (by rw [hvl];simp only [Nat.min_def];split <;> omega)
   (fun j v hj=>by
    rw [Addr.add_lit,hWc,hW1,World.cell?_setCells_out b _ _ _ _ (fun h _=>absurd h hvb)]
    exact hvs j v hj)
   (fun j hj=>by rw [hWc,Nat.add_assoc];exact hsp1 _ (by omega)) (fun j hj=>by rw [hWf,hW1,World.frozen?_setCells,Nat.add_assoc];exact hfz _ (by omega)) h1v
 rw [← hW1] at hcp1
 go_enter Try.func61,Try.ntmps61
 go_wp2_with (simp only [hov])
 go_region_law (refine step_copy_runI rfl _ _ 59 59 rfl _ _ (by simp [Act.eval,Act.put]) (by simp [Act.eval,Act.put]) (hcp1 _ _ _) ?_)
 go_wp2_with (at_builtin;refine wpList_copy_runI _ rfl _ _ 59 59 rfl _ _ rfl rfl (hcp2 _ (fun _=>rfl) (fun _=>rfl) _ _) ?_)
 go_ret
 first|exact ⟨rfl,rfl⟩|exact ⟨rfl,by rw [hW1]⟩
theorem insert_end_room (b off n c vb voff m vc:Nat) (vs:List Value) (w:World) (hm:0<m) (hroom:n+m≤c) (hc63:c≤9223372036854775807)
  (hvl:vs.length=m) (hsp:∀ j,j<m→(w.cell? ⟨b,off+n+j,none⟩).isSome=true) (hfz:∀ j,j<m→w.frozen? ⟨b,off+n+j,none⟩=false)
  (hvs:∀ j v,vs[j]?=some v→w.cell? ⟨vb,voff+j,none⟩=some v) (h1v:∀ v∈vs,v.oneCell'=true) :
  Calls Try.prog 61 #[.slice (some ⟨b,off,none⟩) n c,.int .i64 n,.slice (some ⟨vb,voff,none⟩) m vc] w fun e w' =>
   e=.returned (.slice (some ⟨b,off,none⟩) (n+m) c)∧w'=w.setCells b (off+n) vs:=by
 have hz1:¬ ((m:Int)=0):=by omega
 have hsrc:Src Try.prog 1 59 (.slice (some ⟨vb,voff,none⟩) m vc) m vs w:=Src.ofSlice w Try.underlying59 ⟨vb,voff,none⟩ m vc vs (by omega) (fun j u hj=>by rw [Addr.add_lit];exact hvs j u hj) h1v
 go_enter Try.func61,Try.ntmps61
 go_wp2_with (at_builtin;refine wpList_append_room1 _ rfl _ _ 59 59 rfl 106 _ _ Try.underlying59 i106 b off n c rfl _ rfl m vs hsrc hroom (by rw [hvl];exact hsp) (by rw [hvl];exact hfz) ?_)
 go_ret
 exact ⟨rfl,rfl⟩
theorem insert_end_grow (base:Option Addr) (n c vb voff m vc:Nat) (cs vs:List Value) (w:World) (hm:0<m) (hnc:n≤c) (hroom:c<n+m) (hbig:(n+m)*8≤140737488355328)
  (hcl:cs.length=n) (hvl:vs.length=m) (hnil:base=none→n=0)
  (hcs:∀ a,base=some a→∀ j v,cs[j]?=some v→w.cell? (a.add j)=some v)
  (hvs:∀ j v,vs[j]?=some v→w.cell? ⟨vb,voff+j,none⟩=some v) (h1v:∀ v∈vs,v.oneCell'=true) :
  Calls Try.prog 61 #[.slice base n c,.int .i64 n,.slice (some ⟨vb,voff,none⟩) m vc] w fun e w' =>
   e=.returned (.slice (some ⟨w.heap.size,0,none⟩) (n+m) (grownCap w (n+m) c 106)) ∧
   w'=w.drew.alloc (.cells ((cs ++ vs).toArray ++ Builtin.zeroCells (Value.pointer none).cells (grownCap w (n+m) c 106 - (n+m))) 106):=by
 obtain ⟨i0,hi0,hz0,hzs,hzb⟩:=info_parts i106
 have hz1:¬ ((m:Int)=0):=by omega
 have hsrc:Src Try.prog i0.size 59 (.slice (some ⟨vb,voff,none⟩) m vc) m vs w:=by
  rw [hzs]
  exact Src.ofSlice w Try.underlying59 ⟨vb,voff,none⟩ m vc vs (by omega) (fun j u hj=>by rw [Addr.add_lit];exact hvs j u hj) h1v
 have hold:(Builtin.firstCells i0.size n (.slice base n c)).run Try.prog w.drew=.ok cs.toArray w.drew:=by
  rw [hzs]
  cases base with
  | none =>
   have h0:=hnil rfl
   subst h0
   rw [List.length_eq_zero_iff.1 hcl]
   exact run_firstCells_none w.drew 1 0 0 c
  | some a=>exact run_firstCells_some w.drew 1 n a n c cs (by omega) (fun j v hj=>hcs a rfl j v hj)
 have hrun:∀ ty,(Builtin.append_ #[59,59] ty #[.slice base n c,.slice (some ⟨vb,voff,none⟩) m vc]).run Try.prog w=_:=fun ty =>
  run_append_grow_src w 59 59 ty 106 i0 _ Try.underlying59 hi0 hz0 base n c cs hold _ m vs hsrc hroom (by omega) (by rw [hzb];exact growslice_fits hroom hbig)
 go_enter Try.func61,Try.ntmps61
 cases base with
 | none =>
  have h0:=hnil rfl
  subst h0
  go_wp2_with (at_builtin;refine Lib.wpList_append_run _ rfl _ _ _ _ rfl _ _ rfl rfl _ _ (hrun _) ?_)
  go_ret
  exact ⟨rfl,rfl⟩
 | some a =>
  obtain ⟨ab,ao,asp⟩:=a
  go_wp2_with (at_builtin;refine Lib.wpList_append_run _ rfl _ _ _ _ rfl _ _ rfl rfl _ _ (hrun _) ?_)
  all_goals (go_ret;exact ⟨rfl,rfl⟩)
#print axioms Any2.slices_Insert_string_shift
#print axioms Any2.slices_Insert_string_end_room
#print axioms Any2.slices_Insert_string_end_grow
#print axioms Any2.slices_Insert_int_shift
#print axioms Any2.slices_Insert_int_end_room
#print axioms insert_end_grow
theorem insert_grow (b off n c i vb voff m vc:Nat) (cs vs:List Value) (w:World) (hi:i<n) (hm:0<m) (hnc:n≤c) (hroom:c<n+m) (hbig:(n+m)*8≤140737488355328)
  (hcl:cs.length=n) (hvl:vs.length=m)
  (hcs:∀ j v,cs[j]?=some v→w.cell? ⟨b,off+j,none⟩=some v)
  (hvs:∀ j v,vs[j]?=some v→w.cell? ⟨vb,voff+j,none⟩=some v) (h1c:∀ v∈cs,v.oneCell'=true) (h1v:∀ v∈vs,v.oneCell'=true) :
  Calls Try.prog 61 #[.slice (some ⟨b,off,none⟩) n c,.int .i64 i,.slice (some ⟨vb,voff,none⟩) m vc] w fun e w' =>
   e=.returned (.slice (some ⟨w.heap.size,0,none⟩) (n+m) (grownCap w (n+m) c 106)) ∧
   w'=(((w.alloc (.cells ((cs.take i).toArray ++ Builtin.zeroCells (Value.pointer none).cells (n+m - i) ++ Builtin.zeroCells (Value.pointer none).cells (grownCap w (n+m) c 106 - (n+m))) 106)).drew.setCells w.heap.size i vs).drew).setCells w.heap.size (i+m) (cs.drop i):=by
 obtain ⟨i0,hi0,hz0,hzs,hzb⟩:=info_parts i106
 have hz1:¬ ((m:Int)=0):=by omega
 have hz2:¬ ((i:Int)=(n:Int)):=by omega
 have hz3:(c:Int)<(n:Int)+(m:Int):=by omega
 have hsz:(Try.prog.info? 106).map (·.size)=some 1:=by rw [hi0];simp [hzs]
 have hbw:b<w.heap.size:=block_lt_of_cell (hcs 0 _ (List.getElem?_eq_getElem (by omega)))
 have hvw:vb<w.heap.size:=block_lt_of_cell (hvs 0 _ (List.getElem?_eq_getElem (by omega)))
 have hkk:(n:Int)+(m:Int) - (i:Int)=((n+m - i:Nat):Int):=by omega
 have hik:i+(n+m - i)=n+m:=by omega
 have hold:(Builtin.firstCells i0.size i (.slice (some ⟨b,off,none⟩) i c)).run Try.prog w.drew=.ok (cs.take i).toArray w.drew:=by
  rw [hzs]
  exact run_firstCells_some w.drew 1 i ⟨b,off,none⟩ i c (cs.take i) (by rw [List.length_take];omega) (fun j v hj=>by
   rw [Addr.add_lit]
   rw [List.getElem?_take] at hj
   split at hj
   ·exact hcs j v hj
   ·cases hj)
 have hrz:∀ ty,(Builtin.append_ #[59,3] ty #[.slice (some ⟨b,off,none⟩) i c,.int .i64 ((n:Int)+(m:Int) - (i:Int))]).run Try.prog w =
   .ok (.slice (some ⟨w.heap.size,0,none⟩) (n+m) (grownCap w (n+m) c 106)) (w.drew.alloc (.cells ((cs.take i).toArray ++ Builtin.zeroCells (Value.pointer none).cells (n+m - i) ++ Builtin.zeroCells (Value.pointer none).cells (grownCap w (n+m) c 106 - (n+m))) 106)):=fun ty=>by
  have h:=Lib.run_append_grow_zeros w 59 3 ty 106 i0 _ .i64 .i64 Try.underlying59 Try.underlying3 hi0 hz0 (some ⟨b,off,none⟩) i c (cs.take i) hold (n+m - i) (by omega) (by omega) (by omega) (by omega) (by rw [hzb];omega) (by rw [hzb,hik];exact growslice_fits hroom hbig)
  rw [hik] at h
  rw [hkk]
  exact h
 obtain ⟨G,hG⟩:∃ G,G=grownCap w (n+m) c 106:=⟨_,rfl⟩
 obtain ⟨ROW,hROW⟩:∃ ROW:Array Value,ROW=(cs.take i).toArray ++ Builtin.zeroCells (Value.pointer none).cells (n+m - i) ++ Builtin.zeroCells (Value.pointer none).cells (G - (n+m)):=⟨_,rfl⟩
 rw [← hG] at hrz ⊢
 rw [← hROW] at hrz ⊢
 have hRl:n+m≤ROW.size:=by
  rw [hROW]
  simp [Builtin.zeroCells,Value.cells]
  omega
 obtain ⟨W1,hW1⟩:∃ W1,W1=w.drew.alloc (.cells ROW 106):=⟨_,rfl⟩
 rw [← hW1] at hrz
 have hN:∀ j,j<n+m→(W1.cell? ⟨w.heap.size,j,none⟩).isSome=true:=fun j hj=>by
  rw [hW1,World.cell?_alloc_at (w:=w.drew) ROW _ w.heap.size j rfl,Array.getElem?_eq_getElem (by omega)];rfl
 have hNf:∀ j,W1.frozen? ⟨w.heap.size,j,none⟩=false:=fun j=>by rw [hW1];exact World.frozen?_alloc_at (w:=w.drew) ROW _ w.heap.size j rfl
 have hOb:∀ j v,w.cell? ⟨b,j,none⟩=some v→W1.cell? ⟨b,j,none⟩=some v:=fun j v h=>by rw [hW1,World.cell?_alloc_past (w:=w.drew) _ b j hbw];exact h
 have hOv:∀ j v,w.cell? ⟨vb,j,none⟩=some v→W1.cell? ⟨vb,j,none⟩=some v:=fun j v h=>by rw [hW1,World.cell?_alloc_past (w:=w.drew) _ vb j hvw];exact h
 have hcpA:∀ (W:World),(∀ x,W.cell? x=W1.cell? x)→(∀ x,W.frozen? x=W1.frozen? x)→∀ ty dc,(Builtin.copy_ #[59,59] ty #[.slice (some ⟨w.heap.size,i,none⟩) (n+m - i) dc,.slice (some ⟨vb,voff,none⟩) m vc]).run Try.prog W=.ok (goInt vs.length) (W.setCells w.heap.size i vs):=fun W hWc hWf ty dc =>
  run_copy_cells W _ _ ty 106 w.heap.size i (n+m - i) dc ⟨vb,voff,none⟩ m vc vs Try.underlying59 hsz (by rw [hvl];simp only [Nat.min_def];split <;> omega)
   (fun j v hj=>by rw [Addr.add_lit,hWc];exact hOv _ v (hvs j v hj))
   (fun j hj=>by rw [hWc];exact hN _ (by omega)) (fun j hj=>by rw [hWf];exact hNf _) h1v
 have hGn:n+m≤G:=by rw [hG];exact grownCap_ge w _ _ _
 have hG63:G≤9223372036854775807:=by
  have:=grownCap_le_maxLen w (n+m) c 106 (by unfold maxLen;omega)
  rw [← hG] at this
  unfold maxLen at this
  omega
 have hGi:¬ (G=i):=by omega
 have hGim:¬ (G=i+m):=by omega
 have hci:¬ (c=i):=by omega
 have hbN:b≠w.heap.size:=by omega
 have hdl:(cs.drop i).length=n - i:=by rw [List.length_drop,hcl]
 have hcpB:∀ (W:World),(∀ x,W.cell? x=(W1.setCells w.heap.size i vs).cell? x)→(∀ x,W.frozen? x=(W1.setCells w.heap.size i vs).frozen? x)→∀ ty dc sc,(Builtin.copy_ #[59,59] ty #[.slice (some ⟨w.heap.size,i+m,none⟩) (n+m - (i+m)) dc,.slice (some ⟨b,off+i,none⟩) (n - i) sc]).run Try.prog W=.ok (goInt (cs.drop i).length) (W.setCells w.heap.size (i+m) (cs.drop i)):=fun W hWc hWf ty dc sc =>
  run_copy_cells W _ _ ty 106 w.heap.size (i+m) (n+m - (i+m)) dc ⟨b,off+i,none⟩ (n - i) sc (cs.drop i) Try.underlying59 hsz (by rw [hdl];simp only [Nat.min_def];split <;> omega)
   (fun j v hj=>by
    rw [Addr.add_lit,hWc,World.cell?_setCells_out _ _ _ _ _ (fun h _=>absurd h hbN),Nat.add_assoc]
    exact hOb _ v (hcs (i+j) v (by rwa [List.getElem?_drop] at hj)))
   (fun j hj=>by rw [hWc];exact isSome_setCells _ _ _ _ (fun t ht=>hN _ (by omega)) _ (hN _ (by omega)))
   (fun j hj=>by rw [hWf,World.frozen?_setCells];exact hNf _) (fun v hv=>h1c v (List.mem_of_mem_drop hv))
 subst hW1
 have hE1:∀ x,((w.alloc (.cells ROW 106)).drew).cell? x=(w.drew.alloc (.cells ROW 106)).cell? x:=fun x=>rfl
 have hE2:∀ x,((w.alloc (.cells ROW 106)).drew).frozen? x=(w.drew.alloc (.cells ROW 106)).frozen? x:=fun x=>rfl
 have hF1:∀ x,(((w.alloc (.cells ROW 106)).drew.setCells w.heap.size i vs).drew).cell? x=((w.drew.alloc (.cells ROW 106)).setCells w.heap.size i vs).cell? x:=fun x=>rfl
 have hF2:∀ x,(((w.alloc (.cells ROW 106)).drew.setCells w.heap.size i vs).drew).frozen? x=((w.drew.alloc (.cells ROW 106)).setCells w.heap.size i vs).frozen? x:=fun x=>rfl
 have hw1:IntKind.i64.wrap ((i:Int)+(m:Int))=(i:Int)+(m:Int):=by rw [IntKind.wrap_i64];omega
 have hb1:(0:Int)≤(i:Int)+(m:Int):=by omega
 have hin:i≤n:=by omega
 have htn:((i:Int)+(m:Int)).toNat=i+m:=by omega
 have hb3:(i:Int)≤(n:Int):=by omega
 clear hkk hik hold hROW hG hRl
 go_enter Try.func61,Try.ntmps61
 go_wp2_with (first
  | (at_builtin;refine Lib.wpList_append_run _ rfl _ _ _ _ rfl _ _ rfl rfl _ _ (hrz _) ?_)
  | (at_builtin;refine wpList_copy_runI _ rfl _ _ 59 59 rfl _ _ rfl rfl (hcpA _ hE1 hE2 _ _) ?_)
  | (at_builtin;refine wpList_copy_runI _ rfl _ _ 59 59 rfl _ _ rfl rfl (hcpB _ (fun _=>rfl) (fun _=>rfl) _ _ _) ?_))
 go_region_law (refine step_copy_runI rfl _ _ 59 59 rfl (.slice (some ⟨w.heap.size,i+m,none⟩) (n+m - (i+m)) (G - (i+m))) (.slice (some ⟨b,off+i,none⟩) (n - i) (c - i)) (by simp [Act.eval,Act.put]) (by simp [Act.eval,Act.put]) (hcpB _ hF1 hF2 3 (G - (i+m)) (c - i)) ?_)
 go_wp2
 go_ret
 exact ⟨rfl,rfl⟩
#print axioms Any2.slices_Insert_string_grow
#print axioms insert_grow
end Go.Proofs.Ythmeojeehemlaaa.Mem
end
section
namespace Go.Proofs.Ythmeojeehemlaaa.Mem
open Go.RowKit Go.Lib Go.Proofs.YthmeojeehemlaaaW.PrintWords
open Go.Proofs.Ythmeojeehemlaaa.PM
theorem Blk.setCells {g:Nat} {t:TypeId}:∀ (vs:List Value) (o:Nat) (w:World) (cs:Array Value),Blk w g t cs→o+vs.length≤cs.size→∃ cs':Array Value,Blk (w.setCells g o vs) g t cs'∧cs'.size=cs.size∧(∀ j,j<vs.length→cs'[o+j]?=vs[j]?)∧(∀ j,(j<o∨o+vs.length≤j)→cs'[j]?=cs[j]?)
 | [],o,w,cs,h,_=>⟨cs,h,rfl,fun j hj=>absurd hj (Nat.not_lt_zero j),fun _ _=>rfl⟩
 | v :: vs,o,w,cs,h,hl=>by
  simp only [List.length_cons] at hl
  obtain ⟨cs',h1,h2,h3,h4⟩:=Blk.setCells vs (o+1) (w.setCell ⟨g,o,none⟩ v) _ (h.set_ o v) (by simp;omega)
  refine ⟨cs',h1,by simpa using h2,fun j hj=>?_,fun j hj=>?_⟩
  ·cases j with
   | zero =>
    rw [Nat.add_zero,h4 o (Or.inl (by omega)),Array.getElem?_setIfInBounds_self_of_lt (by omega)]
    rfl
   | succ j =>
    have:=h3 j (by simpa using hj)
    rw [show o+(j+1)=o+1+j by omega,this]
    simp
  ·simp only [List.length_cons] at hj
   rw [h4 j (by omega),Array.getElem?_setIfInBounds_ne (by omega)]
theorem Blk.setCells_far {g h:Nat} {t:TypeId} (hne:h≠g):∀ (vs:List Value) (o:Nat) (w:World) (cs:Array Value),Blk w h t cs→Blk (w.setCells g o vs) h t cs
 | [],o,w,cs,hb=>hb
 | v :: vs,o,w,cs,hb=>Blk.setCells_far hne vs (o+1) _ cs (hb.far (fun e=>hne e.symm) v)
theorem below_set {B g:Nat} (hg:B≤g) {a w:World} (h:Below B a w) (o:Nat) (v:Value):Below B a (w.setCell ⟨g,o,none⟩ v):=by
 refine ⟨h.os,h.tape,h.output,by simpa [World.setCell] using h.size,fun k hk=>?_⟩
 rw [← h.block k hk]
 have:g≠k:=by omega
 simp [World.setCell,Array.getElem?_modify,this]
theorem below_sets {B g:Nat} (hg:B≤g) {a:World}:∀ (vs:List Value) (o:Nat) (w:World),Below B a w→Below B a (w.setCells g o vs)
 | [],o,w,h=>h
 | v :: vs,o,w,h=>below_sets hg vs (o+1) _ (below_set hg h o v)
theorem below_drew {B:Nat} {a w:World} (h:Below B a w):Below B a w.drew:=⟨h.os,h.tape,h.output,h.size,h.block⟩
theorem below_push {B:Nat} {a w:World} (hB:B≤w.heap.size) (h:Below B a w) (o:Obj):Below B a (w.alloc o):=h.alloc hB o
theorem Blk.uniq {w:World} {g:Nat} {t t':TypeId} {cs cs':Array Value} (h:Blk w g t cs) (h':Blk w g t' cs'):t=t':=by
 unfold Blk at h h'
 rw [h] at h'
 cases h';rfl
theorem Blk.shape {w:World} {g:Nat} {t:TypeId} {cs:Array Value} (h:Blk w g t cs):w.shape? g=some (t,cs.size):=by
 unfold Blk at h
 simp [World.shape?,h]
structure PRow (w:World) (P:Option Addr) (cap:Nat) (qs:List Value):Prop where
 len:qs.length≤cap
 small:cap≤9223372036854775807
 one:∀ v∈qs,v.oneCell'=true
 row:(P=none∧cap=0)∨∃ (p:Nat) (cs:Array Value),P=some ⟨p,0,none⟩∧Blk w p 106 cs∧cs.size=cap∧∀ i,i<qs.length→cs[i]?=qs[i]?
structure Chg (F:Nat→Prop) (w w':World):Prop where
 os:w'.os=w.os
 tape:w'.tape=w.tape
 output:w'.output=w.output
 size:w.heap.size≤w'.heap.size
 block:∀ k,k<w.heap.size→¬ F k→w'.heap[k]?=w.heap[k]?
theorem Chg.refl (F:Nat→Prop) (w:World):Chg F w w:=⟨rfl,rfl,rfl,Nat.le_refl _,fun _ _ _=>rfl⟩
theorem Chg.trans {F:Nat→Prop} {a b c:World} (h:Chg F a b) (h':Chg F b c):Chg F a c:=
 ⟨h'.os.trans h.os,h'.tape.trans h.tape,h'.output.trans h.output,Nat.le_trans h.size h'.size,fun k hk hf=>(h'.block k (Nat.lt_of_lt_of_le hk h.size) hf).trans (h.block k hk hf)⟩
theorem Chg.mono {F G:Nat→Prop} {a b:World} (h:Chg F a b) (hg:∀ k,k<a.heap.size→F k→G k):Chg G a b:=
 ⟨h.os,h.tape,h.output,h.size,fun k hk hf=>h.block k hk (fun hF=>hf (hg k hk hF))⟩
theorem Chg.of_below {F:Nat→Prop} {B:Nat} {a b:World} (h:Below B a b) (hB:a.heap.size≤B):Chg F a b:=
 ⟨h.os,h.tape,h.output,h.size,fun k hk _=>h.block k (Nat.lt_of_lt_of_le hk hB)⟩
theorem Chg.below {B:Nat} {a b:World} (h:Chg (fun g=>B≤g) a b) (hB:B≤a.heap.size):Below B a b:=
 ⟨h.os,h.tape,h.output,h.size,fun k hk=>h.block k (Nat.lt_of_lt_of_le hk hB) (fun h=>Nat.lt_irrefl _ (Nat.lt_of_lt_of_le hk h))⟩
theorem chg_push {F:Nat→Prop} {a w:World} (h:Chg F a w) (o:Obj):Chg F a (w.alloc o):=
 h.trans (Chg.of_below (below_push (Nat.le_refl _) (Below.refl _ _) o) (Nat.le_refl _))
theorem chg_drew {F:Nat→Prop} {a w:World} (h:Chg F a w):Chg F a w.drew:=⟨h.os,h.tape,h.output,h.size,h.block⟩
theorem chg_set {F:Nat→Prop} {g:Nat} (hg:F g) {a w:World} (h:Chg F a w) (o:Nat) (v:Value):Chg F a (w.setCell ⟨g,o,none⟩ v):=by
 have hb:=below_set (Nat.le_refl g) (Below.refl g w) o v
 refine ⟨hb.os.trans h.os,hb.tape.trans h.tape,hb.output.trans h.output,Nat.le_trans h.size hb.size,fun k hk hf=>?_⟩
 have hne:k≠g:=fun e=>hf (by rw [e];exact hg)
 exact (Below.heap_setCell w ⟨g,o,none⟩ v k hne).trans (h.block k hk hf)
theorem chg_sets {F:Nat→Prop} {g:Nat} (hg:F g) {a:World}:∀ (vs:List Value) (o:Nat) (w:World),Chg F a w→Chg F a (w.setCells g o vs)
 | [],_,_,h=>h
 | v :: vs,o,w,h=>chg_sets hg vs (o+1) _ (chg_set hg h o v)
structure Moved (w w':World) (P P':Option Addr):Prop where
 far:∀ g t cs,t≠106→Blk w g t cs→Blk w' g t cs
 size:w.heap.size≤w'.heap.size
 chg:∀ F:Nat→Prop,(∀ k,w.heap.size≤k→F k)→(∀ p,P=some p→F p.block)→Chg F w w'∧∀ p,P'=some p→F p.block
theorem zeros_size (n:Nat):(Builtin.zeroCells (Value.pointer none).cells n).size=n:=by
 simp [Builtin.zeroCells,Value.cells]
theorem insert_ (w:World) (P:Option Addr) (cap:Nat) (qs:List Value) (k:Nat) (v:Value) (vb:Nat) (hp:PRow w P cap qs) (hk:k≤qs.length) (hv1:v.oneCell'=true) (hv:Blk w vb 106 #[v]) (hvp:∀ p,P=some p→vb≠p.block) (hbig:(qs.length+1)*8≤140737488355328) :
  Calls Try.prog 61 #[.slice P qs.length cap,.int .i64 k,.slice (some ⟨vb,0,none⟩) 1 1] w fun e w'=>∃ P' cap',e=.returned (.slice P' (qs.length+1) cap')∧PRow w' P' cap' (qs.take k ++ v :: qs.drop k)∧Moved w w' P P':=by
 have hlen:(qs.take k ++ v :: qs.drop k).length=qs.length+1:=by simp;omega
 have hone:∀ x∈qs.take k ++ v :: qs.drop k,x.oneCell'=true:=by
  intro x hx
  rcases List.mem_append.1 hx with h|h
  ·exact hp.one x (List.mem_of_mem_take h)
  ·rcases List.mem_cons.1 h with rfl|h
   ·exact hv1
   ·exact hp.one x (List.mem_of_mem_drop h)
 have hvs:∀ j u,([v]:List Value)[j]?=some u→w.cell? ⟨vb,0+j,none⟩=some u:=by
  intro j u hj
  rw [Nat.zero_add,hv.cell j]
  simpa using hj
 have h1v:∀ x∈([v]:List Value),x.oneCell'=true:=by
  intro x hx
  rw [List.mem_singleton.1 hx];exact hv1
 have hget:∀ i,(qs.take k ++ v :: qs.drop k)[i]?=if i<k then qs[i]? else if i=k then some v else qs[i - 1]?:=by
  intro i
  rw [List.getElem?_append,List.length_take,Nat.min_eq_left hk]
  split
  ·rw [List.getElem?_take,if_pos (by omega)]
  ·split
   ·subst_vars;simp
   ·obtain ⟨j,rfl⟩:∃ j,i=k+1+j:=⟨i - k - 1,by omega⟩
    rw [show k+1+j - k=j+1 by omega,List.getElem?_cons_succ,List.getElem?_drop]
    congr 1;omega
 rcases hp.row with ⟨rfl,rfl⟩|⟨p,cs,rfl,hb,hcs,hat⟩
 ·have h0:qs.length=0:=by have:=hp.len;omega
  have hq:qs=[]:=List.length_eq_zero_iff.1 h0
  subst hq
  have hk0:k=0:=by simpa using hk
  subst hk0
  refine (insert_end_grow none 0 0 vb 0 1 1 [] [v] w (by omega) (by omega) (by omega) (by omega) rfl rfl (fun _=>rfl) (fun a h=>by cases h) hvs h1v).mono ?_
  rintro e w' ⟨rfl,rfl⟩
  refine ⟨_,_,rfl,⟨?_,?_,hone,.inr ⟨w.heap.size,_,rfl,Blk.new w.drew _ _,?_,?_⟩⟩,⟨fun g t cs _ h=>h.drew.alloc _,by simp,fun F hB _=>⟨chg_push (chg_drew (Chg.refl F w)) _,fun q hq=>by cases hq;exact hB _ (Nat.le_refl _)⟩⟩⟩
  ·exact grownCap_ge w 1 0 106
  ·exact grownCap_le_maxLen w 1 0 106 (by decide)
  ·have:=grownCap_ge w 1 0 106
   simp only [Array.size_append,zeros_size];simp;omega
  ·intro i hi
   have:i=0:=by simpa using hi
   subst this
   simp
   rw [Array.getElem?_append_left (by simp)]
   rfl
 ·by_cases hroom:qs.length+1≤cap
  ·rcases Nat.lt_or_ge k qs.length with hlt|hge
   ·refine (insert_shift p 0 qs.length cap k vb 0 1 1 qs [v] w hlt (by omega) hroom hp.small (hvp _ rfl) rfl rfl (fun j u hj=>?_) (fun j hj=>?_) (fun j hj=>?_) hvs hp.one h1v 106 106 _ _ hv.shape hb.shape (by omega) (hv.frozen _) (hv.frozen _)).mono ?_
    ·rw [Nat.zero_add,hb.cell,hat j (List.getElem?_eq_some_iff.1 hj).1];exact hj
    ·rw [Nat.zero_add,hb.cell,Array.getElem?_eq_getElem (by omega)];rfl
    ·rw [Nat.zero_add];exact hb.frozen j
    rintro e w' ⟨rfl,rfl⟩
    simp only [Nat.zero_add]
    obtain ⟨c1,b1,s1,i1,o1⟩:=Blk.setCells (qs.drop k) (k+1) w.drew cs hb.drew (by simp;omega)
    obtain ⟨c2,b2,s2,i2,o2⟩:=Blk.setCells [v] k _ c1 b1 (by simp;omega)
    refine ⟨_,_,rfl,⟨by rw [hlen];exact hroom,hp.small,hone,.inr ⟨p,c2,rfl,b2,by omega,fun i hi=>?_⟩⟩,⟨fun g t ds ht h=>?_,?_,fun F hB hB2=>⟨?_,fun q hq=>by cases hq;exact hB2 _ rfl⟩⟩⟩
    ·rw [hget]
     split
     ·rw [o2 i (Or.inl (by omega)),o1 i (Or.inl (by omega)),hat i (by omega)]
     ·split
      ·subst_vars
       have:=i2 0 (by simp)
       rw [Nat.add_zero] at this
       rw [this];rfl
      ·have hj:=i1 (i - (k+1)) (by simp;rw [hlen] at hi;omega)
       rw [show k+1+(i - (k+1))=i by omega] at hj
       rw [o2 i (Or.inr (by simp;omega)),hj,List.getElem?_drop]
       congr 1;omega
    ·have hne:g≠p:=fun e=>ht (by subst e;exact h.uniq hb)
     exact Blk.setCells_far hne _ _ _ _ (Blk.setCells_far hne _ _ _ _ h.drew)
    ·exact (below_sets (Nat.zero_le p) _ _ _ (below_sets (Nat.zero_le p) _ _ _ (below_drew (Below.refl 0 w)))).size
    ·exact chg_sets (hB2 _ rfl) _ _ _ (chg_sets (hB2 _ rfl) _ _ _ (chg_drew (Chg.refl F w)))
   ·have hk':k=qs.length:=by omega
    subst hk'
    refine (insert_end_room p 0 qs.length cap vb 0 1 1 [v] w (by omega) hroom hp.small rfl (fun j hj=>?_) (fun j hj=>?_) hvs h1v).mono ?_
    ·rw [Nat.zero_add,hb.cell,Array.getElem?_eq_getElem (by omega)];rfl
    ·exact hb.frozen _
    rintro e w' ⟨rfl,rfl⟩
    simp only [Nat.zero_add]
    obtain ⟨c1,b1,s1,i1,o1⟩:=Blk.setCells [v] qs.length w cs hb (by simp;omega)
    refine ⟨_,_,rfl,⟨by rw [hlen];exact hroom,hp.small,hone,.inr ⟨p,c1,rfl,b1,by omega,fun i hi=>?_⟩⟩,⟨fun g t ds ht h=>?_,?_,fun F hB hB2=>⟨?_,fun q hq=>by cases hq;exact hB2 _ rfl⟩⟩⟩
    ·rw [hget]
     split
     ·rw [o1 i (Or.inl (by omega)),hat i (by omega)]
     ·split
      ·subst_vars
       have:=i1 0 (by simp)
       rw [Nat.add_zero] at this
       rw [this];rfl
      ·rw [hlen] at hi;omega
    ·have hne:g≠p:=fun e=>ht (by subst e;exact h.uniq hb)
     exact Blk.setCells_far hne _ _ _ _ h
    ·exact (below_sets (Nat.zero_le p) _ _ _ (Below.refl 0 w)).size
    ·exact chg_sets (hB2 _ rfl) _ _ _ (Chg.refl F w)
  ·have hcells:∀ j u,qs[j]?=some u→w.cell? ⟨p,0+j,none⟩=some u:=fun j u hj=>by
    rw [Nat.zero_add,hb.cell,hat j (List.getElem?_eq_some_iff.1 hj).1];exact hj
   rcases Nat.lt_or_ge k qs.length with hlt|hge
   ·refine (insert_grow p 0 qs.length cap k vb 0 1 1 qs [v] w hlt (by omega) hp.len (by omega) hbig rfl rfl hcells hvs hp.one h1v).mono ?_
    rintro e w' ⟨rfl,rfl⟩
    have hg:=grownCap_ge w (qs.length+1) cap 106
    obtain ⟨c1,b1,s1,i1,o1⟩:=Blk.setCells [v] k _ _ (Blk.new w 106 ((qs.take k).toArray ++ Builtin.zeroCells (Value.pointer none).cells (qs.length+1 - k) ++ Builtin.zeroCells (Value.pointer none).cells (grownCap w (qs.length+1) cap 106 - (qs.length+1)))).drew (by simp only [Array.size_append,zeros_size];simp;omega)
    obtain ⟨c2,b2,s2,i2,o2⟩:=Blk.setCells (qs.drop k) (k+1) _ c1 b1.drew (by rw [s1];simp only [Array.size_append,zeros_size];simp;omega)
    have hsz:c2.size=grownCap w (qs.length+1) cap 106:=by
     rw [s2,s1];simp only [Array.size_append,zeros_size];simp;omega
    refine ⟨_,_,rfl,⟨by rw [hlen];exact hg,grownCap_le_maxLen w _ _ 106 (by unfold maxLen;omega),hone,.inr ⟨w.heap.size,c2,rfl,b2,hsz,fun i hi=>?_⟩⟩,⟨fun g t ds ht h=>?_,?_,fun F hB hB2=>⟨?_,fun q hq=>by cases hq;exact hB _ (Nat.le_refl _)⟩⟩⟩
    ·rw [hget]
     split
     ·rw [o2 i (Or.inl (by omega)),o1 i (Or.inl (by omega))]
      rw [Array.append_assoc,Array.getElem?_append_left (by simp;omega)]
      simp [List.getElem?_take, *]
     ·split
      ·subst_vars
       have:=i1 0 (by simp)
       rw [Nat.add_zero] at this
       rw [o2 i (Or.inl (by omega)),this];rfl
      ·have hj:=i2 (i - (k+1)) (by simp;rw [hlen] at hi;omega)
       rw [show k+1+(i - (k+1))=i by omega] at hj
       rw [hj,List.getElem?_drop]
       congr 1;omega
    ·have hne:g≠w.heap.size:=by have:=h.lt;omega
     exact Blk.setCells_far hne _ _ _ _ (Blk.drew (Blk.setCells_far hne _ _ _ _ (h.alloc _).drew))
    ·exact (below_sets (Nat.zero_le _) _ _ _ (below_drew (below_sets (Nat.zero_le _) _ _ _ (below_drew (below_push (Nat.zero_le _) (Below.refl 0 w) _))))).size
    ·exact chg_sets (hB _ (Nat.le_refl _)) _ _ _ (chg_drew (chg_sets (hB _ (Nat.le_refl _)) _ _ _ (chg_drew (chg_push (Chg.refl F w) _))))
   ·have hk':k=qs.length:=by omega
    subst hk'
    refine (insert_end_grow (some ⟨p,0,none⟩) qs.length cap vb 0 1 1 qs [v] w (by omega) hp.len (by omega) hbig rfl rfl (fun h=>by cases h) (fun a ha j u hj=>by cases ha;rw [Addr.add_lit];exact hcells j u hj) hvs h1v).mono ?_
    rintro e w' ⟨rfl,rfl⟩
    have hg:=grownCap_ge w (qs.length+1) cap 106
    refine ⟨_,_,rfl,⟨by rw [hlen];exact hg,grownCap_le_maxLen w _ _ 106 (by unfold maxLen;omega),hone,.inr ⟨w.heap.size,_,rfl,Blk.new w.drew _ _,?_,fun i hi=>?_⟩⟩,⟨fun g t ds ht h=>h.drew.alloc _,by simp,fun F hB hB2=>⟨chg_push (chg_drew (Chg.refl F w)) _,fun q hq=>by cases hq;exact hB _ (Nat.le_refl _)⟩⟩⟩
    ·simp only [Array.size_append,zeros_size];simp;omega
    ·rw [Array.getElem?_append_left (by simp;rw [hlen] at hi;omega),List.getElem?_toArray]
     simp
end Go.Proofs.Ythmeojeehemlaaa.Mem
end
end
