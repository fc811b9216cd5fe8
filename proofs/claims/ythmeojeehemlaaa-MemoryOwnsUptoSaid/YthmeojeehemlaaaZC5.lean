/- Parts of the proof, laid together by a program of this session (pack.py): ZA5. Of the kit's print what the claim does not use is left out. -/
import Derived.Test.YthmeojeehemlaaaZC4
set_option linter.unusedVariables false
set_option linter.unusedSimpArgs false
set_option maxRecDepth 100000
set_option maxHeartbeats 16000000
section
section
namespace Go.Proofs.Ythmeojeehemlaaa.Mem
open Go.RowKit Go.Lib Go.Proofs.YthmeojeehemlaaaW.PrintWords
open Go.Proofs.Ythmeojeehemlaaa.PM
structure Dat (w:World) (A:Option Addr) (cap:Nat) (l:List Int):Prop where
 len:l.length≤cap
 small:cap<9223372036854775808
 row:0<l.length→∃ (d:Nat) (cs:Array Value),A=some ⟨d,0,none⟩∧Blk w d 5 cs∧l.length≤cs.size∧∀ i (h:i<l.length),cs[i]?=some (.int .u8 l[i])
theorem Kd.C_byte {w:World} {A:Option Addr} {n:Nat} {l:List Int} (h:Kd.C (Kd.int .u8) w A n l):l.length=n∧∀ ad,A=some ad→∀ j,j<l.length→w.cell? (ad.add j)=some (.int .u8 (l.getD j 0)):=by
 refine ⟨h.1,fun ad hA j hj=>?_⟩
 obtain ⟨ad',c,e,_,hK,hc⟩:=Kd.C_get h (0:Int) (j:Int) (by omega) (by rw [← h.1];omega)
 have ea:ad'=ad:=Option.some.inj (e.symm.trans hA)
 subst ea
 have hc0:∀ i u,c[i]?=some u→w.cell? (ad'.add ((j:Int).toNat*1+i))=some u:=hc
 have hk:c=[.int .u8 (l.getD (j:Int).toNat 0)]:=hK
 have:=hc0 0 _ (by rw [hk];rfl)
 simpa using this
theorem cloneAny_ (w:World) (A:Option Addr) (n c:Nat) (l:List Int) (hC:Kd.C (Kd.int .u8) w A n l) (hbig:n≤140737488355328) :
  Calls Try.prog 57 #[.slice A n c] w fun e w'=>∃ A' c',e=.returned (.slice A' l.length c')∧Dat w' A' c' l∧Below w.heap.size w w'∧(0<l.length→∀ d,A'=some ⟨d,0,none⟩→w.heap.size≤d):=by
 obtain ⟨hl,hc⟩:=Kd.C_byte hC
 cases A with
 | none =>
  have h0:n=0:=by
   rcases Nat.eq_zero_or_pos n with h|h
   ·exact h
   ·obtain ⟨ad,_,e,_⟩:=Kd.C_get hC (0:Int) 0 (by omega) (by omega)
    cases e
  refine (clone_nil n c w).mono ?_
  rintro e w' ⟨rfl,rfl⟩
  have hl0:l.length=0:=by omega
  rw [hl0]
  exact ⟨none,0,rfl,⟨by omega,by omega,fun h=>absurd h (by omega)⟩,Below.refl _ _,fun h=>absurd h (by omega)⟩
 | some ad =>
  refine (clone_ ad n c l w hl.symm hbig (hc ad rfl)).mono ?_
  rintro e w' ⟨v',rfl,ho,hne,hb⟩
  rcases ho.2 with ⟨hv,_⟩|⟨g,cap,cur,rfl,hg,hh,hnc,hcm,hsz,ht⟩
  ·exact absurd hv hne
  ·refine ⟨_,cap,by rw [hl],⟨by omega,by unfold maxLen at hcm;omega,fun hp=>⟨g,cur,rfl,hh,by omega,fun i hi=>?_⟩⟩,hb,fun _ d hd=>by cases hd;exact hg⟩
   have e1:(cur.toList.take (n*1))[i]?=some (.int .u8 l[i]):=by
    rw [ht,List.getElem?_map,List.getElem?_eq_getElem hi];rfl
   rw [List.getElem?_take] at e1
   split at e1
   ·simpa using e1
   ·cases e1
def wlast (f:Int) (n:Nat):Int:=IntKind.u64.wrap (f+(n:Int) - 1)
theorem last_ (w:World) (b:Nat) (f:Int) (A:Option Addr) (n c:Nat) (c0:w.cell? ⟨b,0,none⟩=some (.int .u64 f)) (c1:w.cell? ⟨b,1,none⟩=some (.slice A n c)) :
  Calls Try.prog 59 #[.pointer (some ⟨b,0,none⟩)] w fun e w'=>e=.returned (.int .u64 (wlast f n))∧∃ m,w'=w.drewN m:=by
 have k:IntKind.u64.wrap (IntKind.u64.wrap (f+IntKind.u64.wrap n) - 1)=wlast f n:=by
  unfold wlast;simp only [IntKind.wrap_u64];omega
 go_enter Try.func59,Try.ntmps59
 go_wp2
 go_quiet (fail)
 go_wp2
 go_ret
 exact ⟨rfl,_,rfl⟩
structure StF (F:Nat→Prop) (w:World) (s:Nat) (rs:List Reg):Prop where
 sp:∃ P cap,Blk w s 61 #[.slice P rs.length cap]∧RowAt w P cap rs∧∀ p,P=some p→F p.block
 base:F s
 data:∀ r∈rs,∀ d,r.A=some ⟨d,0,none⟩→0<r.data.length→F d
 apart:rs.Pairwise fun a b=>0<a.data.length→0<b.data.length→a.A≠b.A
 rising:Rising rs
 bytes:AllBytes rs
 regs:∀ r∈rs,F r.b
abbrev St (B:Nat) (w:World) (s:Nat) (rs:List Reg):Prop:=StF (fun g=>B≤g) w s rs
theorem StF.space {F:Nat→Prop} {w:World} {s:Nat} {rs:List Reg} (h:StF F w s rs):SpaceAt w s rs:=by
 obtain ⟨P,cap,h1,h2,_⟩:=h.sp
 exact ⟨P,cap,h1,h2⟩
theorem StF.slt {F:Nat→Prop} {w:World} {s:Nat} {rs:List Reg} (h:StF F w s rs):s<w.heap.size:=by
 obtain ⟨P,cap,h1,h2,_⟩:=h.sp
 exact h1.lt
theorem StF.lt {B:Nat} {w:World} {s:Nat} {rs:List Reg} (h:StF (fun g=>B≤g) w s rs):B<w.heap.size:=by
 have:=h.slt
 have:=h.base
 omega
theorem StF.below {F:Nat→Prop} {w w':World} {s:Nat} {rs:List Reg} (h:StF F w s rs) (hb:Below w.heap.size w w'):StF F w' s rs:=by
 obtain ⟨P,cap,h1,h2,h3⟩:=h.sp
 exact ⟨⟨P,cap,h1.below hb h1.lt,h2.below hb,h3⟩,h.base,h.data,h.apart,h.rising,h.bytes,h.regs⟩
theorem StF.drewN {F:Nat→Prop} {w:World} {s:Nat} {rs:List Reg} (h:StF F w s rs) (n:Nat):StF F (w.drewN n) s rs:=h.below (pw_below_drewN (Below.refl _ _) n)
theorem StF.drew {F:Nat→Prop} {w:World} {s:Nat} {rs:List Reg} (h:StF F w s rs):StF F w.drew s rs:=h.below (below_drew (Below.refl _ _))
def put (l:List Int) (o:Nat) (bs:List Int):List Int:=l.take o ++ bs ++ l.drop (o+bs.length)
theorem put_length (l:List Int) (o:Nat) (bs:List Int) (h:o+bs.length≤l.length):(put l o bs).length=l.length:=by
 unfold put;simp;omega
theorem put_get (l:List Int) (o:Nat) (bs:List Int) (h:o+bs.length≤l.length) (i:Nat):(put l o bs)[i]?=if i<o then l[i]? else if i<o+bs.length then bs[i - o]? else l[i]?:=by
 unfold put
 by_cases h1:i<o
 ·rw [if_pos h1,List.getElem?_append_left (by simp;omega),List.getElem?_append_left (by simp;omega),List.getElem?_take,if_pos h1]
 ·rw [if_neg h1]
  by_cases h2:i<o+bs.length
  ·rw [if_pos h2,List.getElem?_append_left (by simp;omega),List.getElem?_append_right (by simp;omega)]
   congr 1;simp;omega
  ·rw [if_neg h2,List.getElem?_append_right (by simp;omega),List.getElem?_drop]
   congr 1;simp;omega
theorem le_length:∀ (n:Nat) (x:Int),(le n x).length=n
 | 0,_=>rfl
 | n+1,x=>by simp only [le,List.length_cons,le_length n]
theorem le_get:∀ (n:Nat) (x:Int) (j:Nat),0≤x→j<n→(le n x)[j]?=some ((x / 256 ^ j) % 256)
 | n+1,x,0,_,_=>by simp [le]
 | n+1,x,j+1,h0,h=>by
  simp only [le,List.getElem?_cons_succ]
  rw [le_get n (x / 256) j (Int.ediv_nonneg h0 (by decide)) (by omega),Int.pow_succ',← Int.ediv_ediv_of_nonneg (by decide)]
theorem le_bytes:∀ (n:Nat) (x:Int),Bytes (le n x)
 | 0,_,b,h=>by cases h
 | n+1,x,b,h=>by
  simp only [le,List.mem_cons] at h
  rcases h with rfl|h
  ·omega
  ·exact le_bytes n _ b h
def upd (r:Reg) (o:Nat) (bs:List Int) (q:Reg):Reg:=if q.first=r.first then { q with data:=put q.data o bs } else q
theorem upd_first (r:Reg) (o:Nat) (bs:List Int) (q:Reg):(upd r o bs q).first=q.first:=by unfold upd;split <;> rfl
theorem upd_b (r:Reg) (o:Nat) (bs:List Int) (q:Reg):(upd r o bs q).b=q.b:=by unfold upd;split <;> rfl
theorem upd_A (r:Reg) (o:Nat) (bs:List Int) (q:Reg):(upd r o bs q).A=q.A:=by unfold upd;split <;> rfl
theorem upd_cap (r:Reg) (o:Nat) (bs:List Int) (q:Reg):(upd r o bs q).cap=q.cap:=by unfold upd;split <;> rfl
theorem rising_map (f:Reg→Reg) (hf:∀ q,(f q).first=q.first):∀ rs:List Reg,Rising rs→Rising (rs.map f)
 | [],_=>trivial
 | r :: rs,h=>⟨fun q hq=>by
   obtain ⟨q',hq',rfl⟩:=List.mem_map.1 hq
   rw [hf,hf];exact h.1 q' hq',rising_map f hf rs h.2⟩
theorem rising_uniq (rs:List Reg) (h:Rising rs) (a b:Reg) (ha:a∈rs) (hb:b∈rs) (e:a.first=b.first):a=b:=by
 obtain ⟨i,hi,rfl⟩:=List.getElem_of_mem ha
 obtain ⟨j,hj,rfl⟩:=List.getElem_of_mem hb
 rcases Nat.lt_trichotomy i j with hij|hij|hij
 ·have:=rising_at rs h i j hij hj;omega
 ·subst hij;rfl
 ·have:=rising_at rs h j i hij hi;omega
theorem upd_len (rs:List Reg) (hr:Rising rs) (r:Reg) (hm:r∈rs) (o:Nat) (bs:List Int) (hl:o+bs.length≤r.data.length) (q:Reg) (hq:q∈rs):(upd r o bs q).data.length=q.data.length:=by
 unfold upd
 split
 ·rename_i e
  rw [rising_uniq rs hr q r hq hm e]
  exact put_length _ _ _ hl
 ·rfl
theorem Only.blk {w w':World} {d:Nat} (h:Only w w' d) {g:Nat} {t:TypeId} {cs:Array Value} (hb:Blk w g t cs) (hne:g≠d):Blk w' g t cs:=by
 unfold Blk at hb ⊢
 rw [h.block g hne];exact hb
theorem Only.below {w w':World} {d B:Nat} (h:Only w w' d) (hB:B≤d):Below B w w':=⟨h.os,h.tape,h.output,by rw [h.size];exact Nat.le_refl _,fun k hk=>h.block k (by omega)⟩
theorem Only.chg {F:Nat→Prop} {w w':World} {d:Nat} (h:Only w w' d) (hF:F d):Chg F w w':=⟨h.os,h.tape,h.output,by rw [h.size];exact Nat.le_refl _,fun k _ hf=>h.block k (fun e=>hf (by rw [e];exact hF))⟩
theorem Only.from_drewN {w w':World} {d n:Nat} (h:Only (w.drewN n) w' d):Only w w' d:=⟨h.os,h.tape,h.output,h.size,h.block⟩
theorem StF.stored {F:Nat→Prop} {w w':World} {s:Nat} {rs:List Reg} (h:StF F w s rs) (r:Reg) (hm:r∈rs) (o:Nat) (bs:List Int) (hbs:Bytes bs) (hl:o+bs.length≤r.data.length) (h0:0<r.data.length) (d:Nat) (hA:r.A=some ⟨d,0,none⟩)
  (cs cs':Array Value) (hb0:Blk w d 5 cs) (hdat:∀ i (h:i<r.data.length),cs[i]?=some (.int .u8 r.data[i])) (hsz0:r.data.length≤cs.size) (hb:Blk w' d 5 cs') (hsz:cs'.size=cs.size) (hin:∀ j,j<bs.length→cs'[o+j]?=bs[j]?.map (Value.int .u8)) (hout:∀ j,(j<o∨o+bs.length≤j)→cs'[j]?=cs[j]?) (hO:Only w w' d) :
  StF F w' s (rs.map (upd r o bs))∧Chg F w w':=by
 obtain ⟨P,cap,h1,h2,h3⟩:=h.sp
 have far:∀ g t ds,t≠5→Blk w g t ds→Blk w' g t ds:=fun g t ds ht hg=>hO.blk hg (fun e=>ht (by subst e;exact hg.uniq hb0))
 have hlen:∀ q∈rs,(upd r o bs q).data.length=q.data.length:=fun q hq=>upd_len rs h.rising r hm o bs hl q hq
 refine ⟨⟨⟨P,cap,by rw [List.length_map];exact far _ _ _ (by decide) h1,⟨by rw [List.length_map];exact h2.big,by rw [List.length_map];exact h2.len,h2.small,?_,?_⟩,h3⟩,h.base,?_,?_,rising_map _ (upd_first r o bs) rs h.rising,?_,fun q' hq'=>by obtain ⟨q,hq,rfl⟩:=List.mem_map.1 hq';rw [upd_b];exact h.regs q hq⟩,hO.chg (h.data r hm d hA h0)⟩
 ·rcases h2.row with hn|⟨p,ps,e,hp,hps,hat⟩
  ·exact .inl hn
  ·refine .inr ⟨p,ps,e,far _ _ _ (by decide) hp,hps,fun i hi=>?_⟩
   have hi':i<rs.length:=by simpa using hi
   rw [hat i hi']
   simp only [List.getElem_map,upd_b]
 ·intro q' hq'
  obtain ⟨q,hq,rfl⟩:=List.mem_map.1 hq'
  have hreg:=h2.regs q hq
  have hlq:=hlen q hq
  refine ⟨by rw [upd_b,upd_first,upd_A,upd_cap,hlq];exact far _ _ _ (by decide) hreg.blk,by rw [hlq,upd_cap];exact hreg.len,by rw [upd_cap];exact hreg.small,by rw [upd_first];exact hreg.first0,by rw [upd_first];exact hreg.first1,fun hp=>?_⟩
  rw [hlq] at hp
  rw [upd_A]
  obtain ⟨d2,cs2,hA2,hb2,hl2,hc2⟩:=hreg.row hp
  by_cases e:q.first=r.first
  ·have eq:q=r:=rising_uniq rs h.rising q r hq hm e
   subst eq
   refine ⟨d,cs',hA,hb,by rw [hlq,hsz];exact hsz0,fun i hi=>?_⟩
   have hi':i<q.data.length:=by rw [hlq] at hi;exact hi
   have hg:=put_get q.data o bs hl i
   have hd:(upd q o bs q).data=put q.data o bs:=by unfold upd;rw [if_pos rfl]
   have hgoal:cs'[i]?=((put q.data o bs)[i]?).map (Value.int .u8):=by
    rw [hg]
    split
    ·rw [hout i (Or.inl (by omega)),hdat i hi',List.getElem?_eq_getElem hi'];rfl
    ·split
     ·have:=hin (i - o) (by omega)
      rw [show o+(i - o)=i by omega] at this
      exact this
     ·rw [hout i (Or.inr (by omega)),hdat i hi',List.getElem?_eq_getElem hi'];rfl
   rw [hgoal,← hd,List.getElem?_eq_getElem hi]
   rfl
  ·have hne:d2≠d:=by
    intro e2
    subst e2
    have hq_ne:q≠r:=fun e3=>e (by rw [e3])
    obtain ⟨i,hi,rfl⟩:=List.getElem_of_mem hq
    obtain ⟨j,hj,rfl⟩:=List.getElem_of_mem hm
    have hp2:=List.pairwise_iff_getElem.1 h.apart
    rcases Nat.lt_trichotomy i j with hij|hij|hij
    ·exact hp2 i j hi hj hij hp h0 (hA2.trans hA.symm)
    ·subst hij;exact hq_ne rfl
    ·exact hp2 j i hj hi hij h0 hp (hA.trans hA2.symm)
   have hd:(upd r o bs q).data=q.data:=by unfold upd;rw [if_neg e]
   refine ⟨d2,cs2,hA2,hO.blk hb2 hne,by rw [hlq];exact hl2,fun i hi=>?_⟩
   simp only [hd]
   exact hc2 i (by rw [hlq] at hi;exact hi)
 ·intro q' hq' d2 hd2 hp
  obtain ⟨q,hq,rfl⟩:=List.mem_map.1 hq'
  rw [upd_A] at hd2
  rw [hlen q hq] at hp
  exact h.data q hq d2 hd2 hp
 ·refine List.pairwise_map.2 ?_
  refine List.Pairwise.imp_of_mem ?_ h.apart
  intro a b ha hb hab hla hlb
  rw [hlen a ha] at hla
  rw [hlen b hb] at hlb
  rw [upd_A,upd_A]
  exact hab hla hlb
 ·intro q' hq'
  obtain ⟨q,hq,rfl⟩:=List.mem_map.1 hq'
  have hbq:=h.bytes q hq
  unfold upd
  split
  ·intro b hb'
   unfold put at hb'
   rcases List.mem_append.1 hb' with h1|h1
   ·rcases List.mem_append.1 h1 with h2|h2
    ·exact hbq b (List.mem_of_mem_take h2)
    ·exact hbs b h2
   ·exact hbq b (List.mem_of_mem_drop h1)
  ·exact hbq
end Go.Proofs.Ythmeojeehemlaaa.Mem
end
section
namespace Go.Proofs.Ythmeojeehemlaaa.Mem
open Go.RowKit Go.Lib Go.Proofs.YthmeojeehemlaaaW.PrintWords Go.Proofs.YthmeojeehemlaaaW.PrintMore
open Go.Proofs.Ythmeojeehemlaaa.PM
theorem narrow_8 (v:Int) (h0:0≤v) (h1:v<18446744073709551616):word_Narrow.f v 8=some (v % 256):=by
 unfold word_Narrow.f word_shl_uint8.f word_bits_uint8.f shl
 simp [IntKind.wrap_u8,IntKind.wrap_u64];omega
theorem narrow_16 (v:Int) (h0:0≤v) (h1:v<18446744073709551616):word_Narrow.f v 16=some (v % 65536):=by
 unfold word_Narrow.f word_shl_uint16.f word_bits_uint16.f shl
 simp [IntKind.wrap_u16,IntKind.wrap_u64];omega
theorem narrow_32 (v:Int) (h0:0≤v) (h1:v<18446744073709551616):word_Narrow.f v 32=some (v % 4294967296):=by
 unfold word_Narrow.f word_shl_uint32.f word_bits_uint32.f shl
 simp [IntKind.wrap_u32,IntKind.wrap_u64];omega
theorem narrow_64 (v:Int) (h0:0≤v) (h1:v<18446744073709551616):word_Narrow.f v 64=some (v % 18446744073709551616):=by
 unfold word_Narrow.f word_shl_uint64.f word_bits_uint64.f shl
 simp [IntKind.wrap_u64]
theorem narrow_byte (n:Nat) (v:Int) (j:Nat) {M:Int} (hM:(256:Int) ^ n=M) (hj:j<n):(v % M) / 256 ^ j % 256=v / 256 ^ j % 256:=by
 subst hM
 obtain ⟨m,rfl⟩:∃ m,n=j+1+m:=⟨n - j - 1,by omega⟩
 have hp:(0:Int)<256 ^ j:=Int.pow_pos (by decide)
 obtain ⟨K,hK⟩:∃ K:Int,v % 256 ^ (j+1+m)=v+256 ^ j*(256*K):=by
  refine ⟨-(256 ^ m*(v / 256 ^ (j+1+m))),?_⟩
  have e:(256:Int) ^ (j+1+m)=256 ^ j*(256*256 ^ m):=by
   rw [Int.pow_add,Int.pow_succ,Int.mul_assoc]
  rw [Int.emod_def,Int.sub_eq_add_neg,Int.mul_neg,Int.mul_neg,← Int.mul_assoc 256,← Int.mul_assoc,← e]
 rw [hK,Int.add_mul_ediv_left _ _ (by omega),Int.add_mul_emod_self_left]
def StoreResF (r:Option (List Reg)) (rs:List Reg) (F:Nat→Prop) (w:World) (s:Nat) (e:Ending) (w':World):Prop:=
 match r with
 | some rs'=>e=.returned (.int .i64 0)∧StF F w' s rs'∧Chg F w w'∧∃ d,(∃ q∈rs,0<q.data.length∧q.A=some ⟨d,0,none⟩)∧Only w w' d
 | none=>e=.returned (.int .i64 200)∧Drawn0 w w'
def StoreRes (r:Option (List Reg)) (rs:List Reg) (B:Nat) (w:World) (s:Nat) (e:Ending) (w':World):Prop:=
 match r with
 | some rs'=>e=.returned (.int .i64 0)∧St B w' s rs'∧Below B w w'∧∃ d,(∃ q∈rs,0<q.data.length∧q.A=some ⟨d,0,none⟩)∧Only w w' d
 | none=>e=.returned (.int .i64 200)∧Drawn0 w w'
def storeOf (rs:List Reg) (x width v:Int):Option (List Reg):=
 match viewOf rs x (wb width) with
 | some (r,o)=>some (rs.map (upd r o (le (wb width) v)))
 | none=>none
theorem store_F (F:Nat→Prop) (w:World) (s:Nat) (rs:List Reg) (x width v:Int) (h:StF F w s rs) (hx0:0≤x) (hx1:x<18446744073709551616) (hv0:0≤v) (hv1:v<18446744073709551616) :
  Calls Try.prog 11 #[.pointer (some ⟨s,0,none⟩),.int .u64 x,.int .i64 width,.int .u64 v] w fun e w'=>StoreResF (storeOf rs x width v) rs F w s e w':=by
 have HS:=Lib.hid h.space
 have HST:=Lib.hid h
 have HR:=Lib.hid h.rising
 have HX:=Lib.hid (And.intro hx0 hx1)
 have HVR:=Lib.hid hv0
 have HW:=Lib.hid (bytes_ width)
 obtain ⟨n,hn⟩:∃ n,n=wb width:=⟨_,rfl⟩
 have HN:=Lib.hid hn
 have hr4:=wb_range width
 rw [← hn] at hr4
 cases hv:viewOf rs x n with
 | none =>
  have HV:=Lib.hid hv
  have hl:=Lib.hid (show storeOf rs x width v=none by unfold storeOf;rw [← hn,hv])
  clear h hx0 hx1 hv hn
  go_enter Try.func11,Try.ntmps11
  go_wp2_with (first|(go_at_call 24;refine (memory_bytes.calls width _ _ HW.out).mono ?_;rintro e' w' ⟨rfl,⟨nd,rfl⟩⟩;rw [← HN.out])|(go_at_call 23;refine (view_ _ _ rs x n (HS.out.drewN nd) HR.out (by omega) (by omega) HX.out.1 HX.out.2).mono ?_;rintro e' w' ⟨rfl,⟨nd2,rfl⟩⟩;rw [HV.out,show viewVal n none=.tuple #[.slice none 0 0,.int .i64 200] from rfl]))
  go_ret
  rw [hl.out]
  exact ⟨rfl,⟨_,rfl⟩⟩
 | some ro =>
  obtain ⟨r,o⟩:=ro
  obtain ⟨hm,hlen,hxo⟩:=viewOf_some rs x n r o hv
  clear hxo
  have HV:=Lib.hid hv
  have HM:=Lib.hid hm
  obtain ⟨P,cap,hbk,hrow⟩:=h.space
  have hreg:=hrow.regs r hm
  obtain ⟨d,cs,hA,hB,hsz,hdat⟩:=hreg.row (by omega)
  have hl:=Lib.hid (show storeOf rs x width v=some (rs.map (upd r o (le n v))) by unfold storeOf;rw [← hn,hv])
  have HVV:=Lib.hid (viewVal_some n r o d hA)
  have HA:=Lib.hid hA
  have HB:=Lib.hid hB
  have HDAT:=Lib.hid hdat
  have HOL:=Lib.hid (And.intro hlen hsz)
  clear hrow hbk hreg hA hB hsz hdat h hx0 hx1 hv hn hm hlen
  rcases hr4 with e|e|e|e
  ·have HE:=Lib.hid e
   have hn1:n<9223372036854775808:=by omega
   have hn0:1≤n:=by omega
   have HNN:=Lib.hid (And.intro hn0 hn1)
   obtain ⟨nv,hnv⟩:∃ nv,nv=v % 256:=⟨_,rfl⟩
   have hnv0:0≤nv:=by omega
   have hnv1:nv<256:=by omega
   have k:nv % 256=nv:=by exact Int.emod_eq_of_lt hnv0 hnv1
   have HNV:=Lib.hid (And.intro hnv (And.intro hnv0 hnv1))
   have HNAR:=Lib.hid (show ∀ W:World,Calls Try.prog 25 #[.int .u64 v,.int .i64 8] W fun e w'=>e=.returned (.int .u64 nv)∧Drawn0 W w' from fun W=>word_Narrow.calls v 8 nv W (by rw [hnv];exact narrow_8 v hv0 hv1))
   have HO1:=Lib.hid (show o+1≤cs.size by have:=HOL.out;omega)
   clear e hn0 hn1 hnv hnv0 hnv1 hv0 hv1
   go_enter Try.func11,Try.ntmps11
   go_wp2_with (first|(go_at_call 24;refine (memory_bytes.calls width _ _ HW.out).mono ?_;rintro e' w' ⟨rfl,⟨nd,rfl⟩⟩;rw [← HN.out])|(go_at_call 23;refine (view_ _ _ rs x n (HS.out.drewN nd) HR.out HNN.out.1 HNN.out.2 HX.out.1 HX.out.2).mono ?_;rintro e' w' ⟨rfl,⟨nd2,rfl⟩⟩;rw [HV.out,HVV.out,HE.out])|(go_at_call 25;refine (HNAR.out _).mono ?_;rintro e' w' ⟨rfl,⟨nd3,rfl⟩⟩)|(go_at_call 26;refine (lay8_ _ d o 1 _ cs nv (by first|exact HB.out.drewN _|exact (HB.out.drewN _).drewN _|exact ((HB.out.drewN _).drewN _).drewN _) HO1.out (by omega) HNV.out.2.1 HNV.out.2.2).mono ?_;rintro e' w' ⟨rfl,hw'⟩;have HW':=Lib.hid hw';clear hw'))
   go_ret
   obtain ⟨cs',b1,s1,i1,o1,O1⟩:=HW'.out
   have fin:=HST.out.stored r HM.out o (le 1 v) (le_bytes _ _) (by rw [le_length];have:=HOL.out;have:=HE.out;omega) (by have:=HOL.out;have:=HNN.out;omega) d HA.out cs cs' HB.out HDAT.out (by have:=HOL.out;omega) b1 s1 (fun j hj=>?_) (fun j hj=>o1 j (by rw [le_length] at hj;exact hj)) (by first|exact O1.from_drewN|exact O1.from_drewN.from_drewN|exact O1.from_drewN.from_drewN.from_drewN)
   ·rw [hl.out,HE.out]
    exact ⟨rfl,fin.1,fin.2,d,⟨r,HM.out,by have:=HOL.out;have:=HNN.out;omega,HA.out⟩,by first|exact O1.from_drewN|exact O1.from_drewN.from_drewN|exact O1.from_drewN.from_drewN.from_drewN⟩
   ·rw [le_length] at hj
    rw [i1 j hj,le_get _ _ _ HVR.out hj,HNV.out.1,narrow_byte 1 v j (by rw [show (256:Int) ^ 1=256 from rfl]) hj]
    rfl
  ·have HE:=Lib.hid e
   have hn1:n<9223372036854775808:=by omega
   have hn0:1≤n:=by omega
   have HNN:=Lib.hid (And.intro hn0 hn1)
   obtain ⟨nv,hnv⟩:∃ nv,nv=v % 65536:=⟨_,rfl⟩
   have hnv0:0≤nv:=by omega
   have hnv1:nv<65536:=by omega
   have k:IntKind.u16.wrap nv=nv:=by rw [IntKind.wrap_u16];exact Int.emod_eq_of_lt hnv0 hnv1
   have HNV:=Lib.hid (And.intro hnv (And.intro hnv0 hnv1))
   have HNAR:=Lib.hid (show ∀ W:World,Calls Try.prog 25 #[.int .u64 v,.int .i64 16] W fun e w'=>e=.returned (.int .u64 nv)∧Drawn0 W w' from fun W=>word_Narrow.calls v 16 nv W (by rw [hnv];exact narrow_16 v hv0 hv1))
   have HO1:=Lib.hid (show o+2≤cs.size by have:=HOL.out;omega)
   clear e hn0 hn1 hnv hnv0 hnv1 hv0 hv1
   go_enter Try.func11,Try.ntmps11
   go_wp2_with (first|(go_at_call 24;refine (memory_bytes.calls width _ _ HW.out).mono ?_;rintro e' w' ⟨rfl,⟨nd,rfl⟩⟩;rw [← HN.out])|(go_at_call 23;refine (view_ _ _ rs x n (HS.out.drewN nd) HR.out HNN.out.1 HNN.out.2 HX.out.1 HX.out.2).mono ?_;rintro e' w' ⟨rfl,⟨nd2,rfl⟩⟩;rw [HV.out,HVV.out,HE.out])|(go_at_call 25;refine (HNAR.out _).mono ?_;rintro e' w' ⟨rfl,⟨nd3,rfl⟩⟩)|(go_at_call 27;refine (lay16_ _ d o 2 _ cs nv (by first|exact HB.out.drewN _|exact (HB.out.drewN _).drewN _|exact ((HB.out.drewN _).drewN _).drewN _) HO1.out (by omega) HNV.out.2.1 HNV.out.2.2).mono ?_;rintro e' w' ⟨rfl,hw'⟩;have HW':=Lib.hid hw';clear hw'))
   go_ret
   obtain ⟨cs',b1,s1,i1,o1,O1⟩:=HW'.out
   have fin:=HST.out.stored r HM.out o (le 2 v) (le_bytes _ _) (by rw [le_length];have:=HOL.out;have:=HE.out;omega) (by have:=HOL.out;have:=HNN.out;omega) d HA.out cs cs' HB.out HDAT.out (by have:=HOL.out;omega) b1 s1 (fun j hj=>?_) (fun j hj=>o1 j (by rw [le_length] at hj;exact hj)) (by first|exact O1.from_drewN|exact O1.from_drewN.from_drewN|exact O1.from_drewN.from_drewN.from_drewN)
   ·rw [hl.out,HE.out]
    exact ⟨rfl,fin.1,fin.2,d,⟨r,HM.out,by have:=HOL.out;have:=HNN.out;omega,HA.out⟩,by first|exact O1.from_drewN|exact O1.from_drewN.from_drewN|exact O1.from_drewN.from_drewN.from_drewN⟩
   ·rw [le_length] at hj
    rw [i1 j hj,le_get _ _ _ HVR.out hj,HNV.out.1,narrow_byte 2 v j (by rw [show (256:Int) ^ 2=65536 from rfl]) hj]
    rfl
  ·have HE:=Lib.hid e
   have hn1:n<9223372036854775808:=by omega
   have hn0:1≤n:=by omega
   have HNN:=Lib.hid (And.intro hn0 hn1)
   obtain ⟨nv,hnv⟩:∃ nv,nv=v % 4294967296:=⟨_,rfl⟩
   have hnv0:0≤nv:=by omega
   have hnv1:nv<4294967296:=by omega
   have k:nv % 4294967296=nv:=by exact Int.emod_eq_of_lt hnv0 hnv1
   have HNV:=Lib.hid (And.intro hnv (And.intro hnv0 hnv1))
   have HNAR:=Lib.hid (show ∀ W:World,Calls Try.prog 25 #[.int .u64 v,.int .i64 32] W fun e w'=>e=.returned (.int .u64 nv)∧Drawn0 W w' from fun W=>word_Narrow.calls v 32 nv W (by rw [hnv];exact narrow_32 v hv0 hv1))
   have HO1:=Lib.hid (show o+4≤cs.size by have:=HOL.out;omega)
   clear e hn0 hn1 hnv hnv0 hnv1 hv0 hv1
   go_enter Try.func11,Try.ntmps11
   go_wp2_with (first|(go_at_call 24;refine (memory_bytes.calls width _ _ HW.out).mono ?_;rintro e' w' ⟨rfl,⟨nd,rfl⟩⟩;rw [← HN.out])|(go_at_call 23;refine (view_ _ _ rs x n (HS.out.drewN nd) HR.out HNN.out.1 HNN.out.2 HX.out.1 HX.out.2).mono ?_;rintro e' w' ⟨rfl,⟨nd2,rfl⟩⟩;rw [HV.out,HVV.out,HE.out])|(go_at_call 25;refine (HNAR.out _).mono ?_;rintro e' w' ⟨rfl,⟨nd3,rfl⟩⟩)|(go_at_call 28;refine (lay32_ _ d o 4 _ cs nv (by first|exact HB.out.drewN _|exact (HB.out.drewN _).drewN _|exact ((HB.out.drewN _).drewN _).drewN _) HO1.out (by omega) HNV.out.2.1 HNV.out.2.2).mono ?_;rintro e' w' ⟨rfl,hw'⟩;have HW':=Lib.hid hw';clear hw'))
   go_ret
   obtain ⟨cs',b1,s1,i1,o1,O1⟩:=HW'.out
   have fin:=HST.out.stored r HM.out o (le 4 v) (le_bytes _ _) (by rw [le_length];have:=HOL.out;have:=HE.out;omega) (by have:=HOL.out;have:=HNN.out;omega) d HA.out cs cs' HB.out HDAT.out (by have:=HOL.out;omega) b1 s1 (fun j hj=>?_) (fun j hj=>o1 j (by rw [le_length] at hj;exact hj)) (by first|exact O1.from_drewN|exact O1.from_drewN.from_drewN|exact O1.from_drewN.from_drewN.from_drewN)
   ·rw [hl.out,HE.out]
    exact ⟨rfl,fin.1,fin.2,d,⟨r,HM.out,by have:=HOL.out;have:=HNN.out;omega,HA.out⟩,by first|exact O1.from_drewN|exact O1.from_drewN.from_drewN|exact O1.from_drewN.from_drewN.from_drewN⟩
   ·rw [le_length] at hj
    rw [i1 j hj,le_get _ _ _ HVR.out hj,HNV.out.1,narrow_byte 4 v j (by rw [show (256:Int) ^ 4=4294967296 from rfl]) hj]
    rfl
  ·have HE:=Lib.hid e
   have hn1:n<9223372036854775808:=by omega
   have hn0:1≤n:=by omega
   have HNN:=Lib.hid (And.intro hn0 hn1)
   obtain ⟨nv,hnv⟩:∃ nv,nv=v % 18446744073709551616:=⟨_,rfl⟩
   have hnv0:0≤nv:=by omega
   have hnv1:nv<18446744073709551616:=by omega
   have k:nv % 18446744073709551616=nv:=by exact Int.emod_eq_of_lt hnv0 hnv1
   have HNV:=Lib.hid (And.intro hnv (And.intro hnv0 hnv1))
   have HNAR:=Lib.hid (show ∀ W:World,Calls Try.prog 25 #[.int .u64 v,.int .i64 64] W fun e w'=>e=.returned (.int .u64 nv)∧Drawn0 W w' from fun W=>word_Narrow.calls v 64 nv W (by rw [hnv];exact narrow_64 v hv0 hv1))
   have HO1:=Lib.hid (show o+8≤cs.size by have:=HOL.out;omega)
   clear e hn0 hn1 hnv hnv0 hnv1 hv0 hv1
   go_enter Try.func11,Try.ntmps11
   go_wp2_with (first|(go_at_call 24;refine (memory_bytes.calls width _ _ HW.out).mono ?_;rintro e' w' ⟨rfl,⟨nd,rfl⟩⟩;rw [← HN.out])|(go_at_call 23;refine (view_ _ _ rs x n (HS.out.drewN nd) HR.out HNN.out.1 HNN.out.2 HX.out.1 HX.out.2).mono ?_;rintro e' w' ⟨rfl,⟨nd2,rfl⟩⟩;rw [HV.out,HVV.out,HE.out])|(go_at_call 25;refine (HNAR.out _).mono ?_;rintro e' w' ⟨rfl,⟨nd3,rfl⟩⟩)|(go_at_call 29;refine (lay64_ _ d o 8 _ cs nv (by first|exact HB.out.drewN _|exact (HB.out.drewN _).drewN _|exact ((HB.out.drewN _).drewN _).drewN _) HO1.out (by omega) HNV.out.2.1 ).mono ?_;rintro e' w' ⟨rfl,hw'⟩;have HW':=Lib.hid hw';clear hw'))
   go_ret
   obtain ⟨cs',b1,s1,i1,o1,O1⟩:=HW'.out
   have fin:=HST.out.stored r HM.out o (le 8 v) (le_bytes _ _) (by rw [le_length];have:=HOL.out;have:=HE.out;omega) (by have:=HOL.out;have:=HNN.out;omega) d HA.out cs cs' HB.out HDAT.out (by have:=HOL.out;omega) b1 s1 (fun j hj=>?_) (fun j hj=>o1 j (by rw [le_length] at hj;exact hj)) (by first|exact O1.from_drewN|exact O1.from_drewN.from_drewN|exact O1.from_drewN.from_drewN.from_drewN)
   ·rw [hl.out,HE.out]
    exact ⟨rfl,fin.1,fin.2,d,⟨r,HM.out,by have:=HOL.out;have:=HNN.out;omega,HA.out⟩,by first|exact O1.from_drewN|exact O1.from_drewN.from_drewN|exact O1.from_drewN.from_drewN.from_drewN⟩
   ·rw [le_length] at hj
    rw [i1 j hj,le_get _ _ _ HVR.out hj,HNV.out.1,narrow_byte 8 v j (by rw [show (256:Int) ^ 8=18446744073709551616 from rfl]) hj]
    rfl
theorem store_ (B:Nat) (w:World) (s:Nat) (rs:List Reg) (x width v:Int) (h:St B w s rs) (hx0:0≤x) (hx1:x<18446744073709551616) (hv0:0≤v) (hv1:v<18446744073709551616) :
  Calls Try.prog 11 #[.pointer (some ⟨s,0,none⟩),.int .u64 x,.int .i64 width,.int .u64 v] w fun e w'=>StoreRes (storeOf rs x width v) rs B w s e w':=by
 refine (store_F _ w s rs x width v h hx0 hx1 hv0 hv1).mono ?_
 intro e w' hr
 unfold StoreRes
 unfold StoreResF at hr
 cases hs:storeOf rs x width v with
 | some rs'=>rw [hs] at hr;exact ⟨hr.1,hr.2.1,hr.2.2.1.below (Nat.le_of_lt h.lt),hr.2.2.2⟩
 | none=>rw [hs] at hr;exact hr
end Go.Proofs.Ythmeojeehemlaaa.Mem
end
section
namespace Go.Proofs.Ythmeojeehemlaaa.Mem
open Go.RowKit Go.Lib Go.Proofs.YthmeojeehemlaaaW.PrintWords
open Go.Proofs.Ythmeojeehemlaaa.PM
attribute [local go_sem] isSome_setCell
def ins (rs:List Reg) (k:Nat) (r:Reg):List Reg:=rs.take k ++ r :: rs.drop k
def ptrV (r:Reg):Value:=.pointer (some ⟨r.b,0,none⟩)
theorem ins_length (rs:List Reg) (k:Nat) (r:Reg):(ins rs k r).length=rs.length+1:=by unfold ins;simp;omega
theorem ins_map {α:Type} (g:Reg→α) (rs:List Reg) (k:Nat) (r:Reg):(ins rs k r).map g=(rs.map g).take k ++ g r :: (rs.map g).drop k:=by unfold ins;simp
theorem mem_ins (rs:List Reg) (k:Nat) (r q:Reg):q∈ins rs k r↔q=r∨q∈rs:=by
 unfold ins
 rw [List.mem_append,List.mem_cons]
 constructor
 ·rintro (h|h|h)
  ·exact .inr (List.mem_of_mem_take h)
  ·exact .inl h
  ·exact .inr (List.mem_of_mem_drop h)
 ·rintro (h|h)
  ·exact .inr (.inl h)
  ·have:q∈rs.take k ++ rs.drop k:=by rw [List.take_append_drop];exact h
   rcases List.mem_append.1 this with h|h
   ·exact .inl h
   ·exact .inr (.inr h)
theorem RowAt.prow {w:World} {P:Option Addr} {cap:Nat} {rs:List Reg} (h:RowAt w P cap rs):PRow w P cap (rs.map ptrV):=by
 refine ⟨by simpa using h.len,h.small,fun v hv=>?_,?_⟩
 ·obtain ⟨r,_,rfl⟩:=List.mem_map.1 hv;rfl
 ·rcases h.row with hn|⟨p,cs,e,hb,hs,hat⟩
  ·exact .inl hn
  ·refine .inr ⟨p,cs,e,hb,hs,fun i hi=>?_⟩
   have hi':i<rs.length:=by simpa using hi
   rw [hat i hi',List.getElem?_map,List.getElem?_eq_getElem hi'];rfl
theorem pairwise_ins {R:Reg→Reg→Prop} (hs:∀ a b,R a b→R b a):∀ (rs:List Reg) (k:Nat) (r:Reg),rs.Pairwise R→(∀ q∈rs,R r q)→(ins rs k r).Pairwise R:=by
 intro rs k r h hr
 unfold ins
 rw [List.pairwise_append]
 refine ⟨h.sublist (List.take_sublist k rs),List.pairwise_cons.2 ⟨fun q hq=>hr q (List.mem_of_mem_drop hq),h.sublist (List.drop_sublist k rs)⟩,fun a ha b hb=>?_⟩
 rcases List.mem_cons.1 hb with rfl|hb
 ·exact hs _ _ (hr a (List.mem_of_mem_take ha))
 ·have h2:=h
  rw [← List.take_append_drop k rs,List.pairwise_append] at h2
  exact h2.2.2 a ha b hb
theorem StF.inserted {F:Nat→Prop} {w w1:World} {s:Nat} {rs:List Reg} {P P':Option Addr} {cap cap':Nat} (h:StF F w s rs) (hup:∀ k,w.heap.size≤k→F k) (hsP:Blk w s 61 #[.slice P rs.length cap]) (hrow:RowAt w P cap rs) (hPB:∀ p,P=some p→F p.block) (rg:Reg) (hreg:RegAt w rg) (k:Nat) (hbytes:Bytes rg.data) (hdB:∀ d,rg.A=some ⟨d,0,none⟩→0<rg.data.length→F d) (hrb:F rg.b)
  (hfresh:∀ q∈rs,0<rg.data.length→0<q.data.length→rg.A≠q.A) (hris:Rising (ins rs k rg)) (hbig:rs.length+1<4398046511104)
  (hp:PRow w1 P' cap' ((rs.map ptrV).take k ++ ptrV rg :: (rs.map ptrV).drop k)) (hm:Moved w w1 P P') :
  StF F (w1.setCell ⟨s,0,none⟩ (.slice P' (rs.length+1) cap')) s (ins rs k rg)∧Chg F w (w1.setCell ⟨s,0,none⟩ (.slice P' (rs.length+1) cap')):=by
 obtain ⟨hbl,hP'⟩:=hm.chg F hup hPB
 have hs1:Blk w1 s 61 #[.slice P rs.length cap]:=hm.far _ _ _ (by decide) hsP
 have hs2:=hs1.set_ 0 (.slice P' (rs.length+1) cap')
 have far:∀ g t cs,t≠106→t≠61→Blk w g t cs→Blk (w1.setCell ⟨s,0,none⟩ (.slice P' (rs.length+1) cap')) g t cs:=fun g t cs h1 h2 hb=>by
  refine (hm.far g t cs h1 hb).far ?_ _
  intro e
  refine h2 ?_
  rw [← (show s=g from e)] at hb
  exact hb.uniq hsP
 have regOf:∀ q,RegAt w q→RegAt (w1.setCell ⟨s,0,none⟩ (.slice P' (rs.length+1) cap')) q:=fun q hq=>by
  refine ⟨far _ _ _ (by decide) (by decide) hq.blk,hq.len,hq.small,hq.first0,hq.first1,fun hp=>?_⟩
  obtain ⟨d,cs,e,hd,hl,hc⟩:=hq.row hp
  exact ⟨d,cs,e,far _ _ _ (by decide) (by decide) hd,hl,hc⟩
 have hql:((rs.map ptrV).take k ++ ptrV rg :: (rs.map ptrV).drop k)=(ins rs k rg).map ptrV:=(ins_map ptrV rs k rg).symm
 rw [hql] at hp
 refine ⟨⟨⟨P',cap',?_,⟨by rw [ins_length];exact hbig,by simpa using hp.len,hp.small,?_,fun q hq=>?_⟩,hP'⟩,h.base,fun q hq=>?_,?_,hris,fun q hq=>?_,fun q hq=>?_⟩,chg_set h.base hbl 0 _⟩
 ·rw [ins_length];exact hs2
 ·rcases hp.row with hn|⟨p,cs,e,hb,hsz,hat⟩
  ·exact .inl hn
  ·refine .inr ⟨p,cs,e,hb.far ?_ _,hsz,fun i hi=>?_⟩
   ·intro e2
    rw [← (show s=p from e2)] at hb
    exact absurd (hb.uniq hs1) (by decide)
   ·rw [hat i (by simpa using hi),List.getElem?_map,List.getElem?_eq_getElem hi];rfl
 ·rcases (mem_ins rs k rg q).1 hq with rfl|hq
  ·exact regOf q hreg
  ·exact regOf q (hrow.regs q hq)
 ·rcases (mem_ins rs k rg q).1 hq with rfl|hq
  ·exact hdB
  ·exact h.data q hq
 ·refine pairwise_ins (fun a b hab ha hb e=>hab hb ha e.symm) rs k rg h.apart (fun q hq=>hfresh q hq)
 ·rcases (mem_ins rs k rg q).1 hq with rfl|hq
  ·exact hbytes
  ·exact h.bytes q hq
 ·rcases (mem_ins rs k rg q).1 hq with rfl|hq
  ·exact hrb
  ·exact h.regs q hq
theorem rising_ins:∀ (rs:List Reg) (r:Reg),Rising rs→(¬ ∃ q∈rs,q.first=r.first)→Rising (ins rs (place rs r.first) r)
 | [],r,_,_=>⟨fun q hq=>by simp [place] at hq,trivial⟩
 | q :: rs,r,h,hn=>by
  by_cases hc:q.first<r.first
  ·have e:place (q :: rs) r.first=place rs r.first+1:=by
    unfold place;rw [List.takeWhile_cons,if_pos (by simpa using hc)];rfl
   rw [e]
   show Rising (q :: ins rs (place rs r.first) r)
   refine ⟨fun p hp=>?_,rising_ins rs r h.2 (fun ⟨p,hp,hpf⟩=>hn ⟨p,List.mem_cons_of_mem _ hp,hpf⟩)⟩
   rcases (mem_ins rs _ r p).1 hp with rfl|hp
   ·exact hc
   ·exact h.1 p hp
  ·have e:place (q :: rs) r.first=0:=by
    unfold place;rw [List.takeWhile_cons,if_neg (by simpa using hc)];rfl
   rw [e]
   show Rising (r :: q :: rs)
   have hne:q.first≠r.first:=fun e=>hn ⟨q,List.mem_cons_self,e⟩
   refine ⟨fun p hp=>?_,h⟩
   rcases List.mem_cons.1 hp with rfl|hp
   ·omega
   ·have:=h.1 p hp;omega
def aheadBad (rs:List Reg) (f:Int):Bool:=match fullDown rs (place rs f) with
 | some a=>decide (f≤wlast a.first a.data.length)
 | none=>false
def behindBad (rs:List Reg) (f:Int) (n:Nat):Bool:=match fullUp rs (place rs f) with
 | some b=>decide (b.first≤wlast f n)
 | none=>false
def mayAdd (rs:List Reg) (f:Int) (l:List Int):Bool:=
 !decide (∃ r∈rs,r.first=f) && (l.isEmpty || (!decide (wlast f l.length<f) && !aheadBad rs f && !behindBad rs f l.length))
def AddResF (may:Bool) (F:Nat→Prop) (w:World) (s:Nat) (rs:List Reg) (f:Int) (l:List Int) (e:Ending) (w':World):Prop:=
 if may then e=.returned (.int .i64 0)∧Chg F w w'∧∃ rg:Reg,rg.first=f∧rg.data=l∧StF F w' s (ins rs (place rs f) rg)
 else e=.returned (.int .i64 201)∧Chg F w w'∧StF F w' s rs
def AddRes (may:Bool) (B:Nat) (w:World) (s:Nat) (rs:List Reg) (f:Int) (l:List Int) (e:Ending) (w':World):Prop:=
 if may then e=.returned (.int .i64 0)∧Below B w w'∧∃ rg:Reg,rg.first=f∧rg.data=l∧St B w' s (ins rs (place rs f) rg)
 else e=.returned (.int .i64 201)∧Below B w w'∧St B w' s rs
theorem fullUp_mem (rs:List Reg) (n:Nat) (r:Reg) (h:fullUp rs n=some r):r∈rs∧0<r.data.length:=by
 have hf:=List.find?_some h
 have hm:=List.mem_of_find?_eq_some h
 exact ⟨List.mem_of_mem_drop hm,by simpa [full] using hf⟩
theorem fullDown_mem' (rs:List Reg) (n:Nat) (r:Reg) (h:fullDown rs n=some r):r∈rs∧0<r.data.length:=by
 obtain ⟨i,hi,_,rfl,hf⟩:=fullDown_mem rs n r h
 exact ⟨List.getElem_mem hi,by simpa [full] using hf⟩
end Go.Proofs.Ythmeojeehemlaaa.Mem
end
section
namespace Go.Proofs.Ythmeojeehemlaaa.Mem
open Go.RowKit Go.Lib Go.Proofs.YthmeojeehemlaaaW.PrintWords
open Go.Proofs.Ythmeojeehemlaaa.PM
attribute [local go_sem] isSome_setCell
theorem quiet_at {P:Program} {f:FuncId} {args:Array Value} {w:World} {q a:Nat} {v:Value} (h:Calls P f args (w.drewN (q+a)) fun e w'=>e=.returned v∧∃ m,w'=(w.drewN (q+a)).drewN m):Calls P f args (w.drewN (q+a)) fun e w''=>e=.returned v∧∃ n,w''=w.drewN (q+n):=
 h.mono fun _ _ ⟨he,m,hm⟩=>⟨he,a+m,by rw [hm,World.drewN_drewN,Nat.add_assoc]⟩
def Norm (R:Act→World→Prop):Exit→Act→World→Prop
 | .normal,a,w=>R a w
 | _,_,_=>False
theorem Norm.elim {R:Act→World→Prop} {Q:Exit→Act→World→Prop} (h:∀ a w,R a w→Q .normal a w):∀ e a w,Norm R e a w→Q e a w:=by
 intro e a w hn
 cases e <;> first|exact h a w hn|exact False.elim hn
theorem insertR_ (w:World) (P:Option Addr) (cap:Nat) (rs:List Reg) (K:Nat) (rg:Reg) (vb:Nat) (hrow:RowAt w P cap rs) (hk:K≤rs.length) (hv:Blk w vb 106 #[ptrV rg]) (hvp:∀ p,P=some p→vb≠p.block) (hbig:(rs.length+1)*8≤140737488355328) :
  Calls Try.prog 61 #[.slice P rs.length cap,.int .i64 K,.slice (some ⟨vb,0,none⟩) 1 1] w fun e w'=>∃ P' cap',e=.returned (.slice P' (rs.length+1) cap')∧PRow w' P' cap' ((rs.map ptrV).take K ++ ptrV rg :: (rs.map ptrV).drop K)∧Moved w w' P P':=by
 have h:=insert_ w P cap (rs.map ptrV) K (ptrV rg) vb hrow.prow (by simpa using hk) rfl hv hvp (by simpa using hbig)
 rw [List.length_map] at h
 exact h
def Mid (F:Nat→Prop) (w:World) (s:Nat) (rs:List Reg) (f:Int) (l:List Int) (W:World) (x:Nat) (A':Option Addr) (c':Nat):Prop:=
 StF F W s rs∧RegAt W ⟨x,f,A',c',l⟩∧(∀ q∈rs,0<l.length→0<q.data.length→A'≠q.A)∧(∀ d,A'=some ⟨d,0,none⟩→0<l.length→F d)∧Chg F w W∧(∀ k,W.heap.size≤k→F k)∧F x
theorem mid_of {F:Nat→Prop} {w w0 w':World} {s:Nat} {rs:List Reg} {f:Int} {l:List Int} {A':Option Addr} {c':Nat} (h:StF F w s rs) (hup:∀ k,w.heap.size≤k→F k) (h0:Below w.heap.size w w0) (hD:Dat w' A' c' l) (hb:Below w0.heap.size w0 w') (hfr:0<l.length→∀ d,A'=some ⟨d,0,none⟩→w0.heap.size≤d) (hf0:0≤f) (hf1:f<18446744073709551616) :
  Mid F w s rs f l (w'.alloc (.cells #[.int .u64 f,.slice A' l.length c'] 108)) w'.heap.size A' c':=by
 have hs:=h0.size
 have h1:Below w.heap.size w w':=h0.trans (hb.mono hs)
 have h2:Below w.heap.size w (w'.alloc (.cells #[.int .u64 f,.slice A' l.length c'] 108)):=below_push h1.size h1 _
 refine ⟨h.below h2,⟨Blk.new _ _ _,hD.len,hD.small,hf0,hf1,fun hp=>?_⟩,fun q hq hl hql e=>?_,fun d hd hl=>?_,Chg.of_below h2 (Nat.le_refl _),fun k hk=>hup k (Nat.le_trans h2.size hk),hup _ h1.size⟩
 ·obtain ⟨d,cs,e,hd,hl,hc⟩:=hD.row hp
  exact ⟨d,cs,e,hd.alloc _,hl,hc⟩
 ·obtain ⟨P,cap,_,hrow,_⟩:=h.sp
  obtain ⟨d,cs,e2,hd,_,_⟩:=(hrow.regs q hq).row hql
  have:=hfr hl d (e.trans e2)
  have:=hd.lt
  omega
 ·exact hup d (Nat.le_trans hs (hfr hl d hd))
theorem add_F (F:Nat→Prop) (w:World) (s:Nat) (rs:List Reg) (f:Int) (A:Option Addr) (n c:Nat) (l:List Int) (h:StF F w s rs) (hup:∀ k,w.heap.size≤k→F k) (hC:Kd.C (Kd.int .u8) w A n l) (hl:Bytes l) (hf0:0≤f) (hf1:f<18446744073709551616) (hn:n≤140737488355328) (hbig:rs.length+1<4398046511104) :
  Calls Try.prog 20 #[.pointer (some ⟨s,0,none⟩),.agg #[.int .u64 f,.slice A n c]] w fun e w'=>AddResF (mayAdd rs f l) F w s rs f l e w':=by
 have HST:=Lib.hid h
 have HUP:=Lib.hid hup
 have HC:=Lib.hid hC
 have HN:=Lib.hid hn
 have HF:=Lib.hid (And.intro hf0 hf1)
 have HL:=Lib.hid hl
 have HBIG:=Lib.hid hbig
 clear h hup hC hn hf0 hf1 hl hbig
 have H0:=Lib.hid (below_drew (below_push (Nat.le_refl _) (Below.refl w.heap.size w) (.cells #[.int .u64 f,.slice A n c] 39)))
 have HBX:=Lib.hid (Blk.new w 39 #[.int .u64 f,.slice A n c])
 have HC1:=Lib.hid (show Kd.C (Kd.int .u8) (w.alloc (.cells #[.int .u64 f,.slice A n c] 39)).drew A n l from Kd.C_drewN (Kd.C_below HC.out (below_push (Nat.le_refl _) (Below.refl _ _) _)) 1)
 obtain ⟨m,hm⟩:∃ m,m=mayAdd rs f l:=⟨_,rfl⟩
 rw [← hm]
 have HMAY:=Lib.hid hm
 clear hm
 go_enter Try.func20,Try.ntmps20
 go_wp2
 refine Code.wp_mono (Q:=Norm fun a W=>∃ x A' c',a={ tmps:=#[Value.pointer (some ⟨s,0,none⟩),Value.agg #[Value.int IntKind.u64 f,Value.slice A n c],undef,Value.pointer (some ⟨w.heap.size,0,none⟩),Value.int IntKind.i64 0,Value.pointer (some ⟨x,0,none⟩),undef,undef,undef,undef,Value.pointer (some ⟨s,0,none⟩),Value.bool false,Value.pointer (some ⟨w.heap.size,0,none⟩),Value.int IntKind.u64 f,Value.pointer (some ⟨w.heap.size,1,none⟩),Value.slice A n c,Value.slice A' l.length c',Value.agg #[Value.int IntKind.u64 f,Value.slice A' l.length c'],Value.pointer (some ⟨x,0,none⟩),undef,undef,undef,undef,undef,undef,undef,undef,undef,undef,undef,undef,undef,undef,undef,undef,undef,undef,undef,undef,undef,undef,undef,undef,undef,undef,undef,undef,undef,undef,undef,undef,undef,undef,undef,undef,undef,undef,undef,undef,undef,undef,undef,undef,undef,undef,undef,undef,undef,undef,undef,undef,undef,undef,undef,undef,undef,undef,undef,undef,undef,undef,undef,undef,undef,undef,undef,undef,undef,undef,undef,undef,undef,undef,undef],defers:=[] }∧Hid (Mid F w s rs f l W x A' c')) ?_ ?_
 rotate_left
 ·go_region_with (go_at_call 57;refine (cloneAny_ _ A n c l HC1.out HN.out).mono ?_;rintro e w' ⟨A',c',rfl,hd,hb,hfr⟩;have bx:=(HBX.out.drew).below hb HBX.out.lt;have HM:=Lib.hid (mid_of (f:=f) HST.out HUP.out H0.out hd hb hfr HF.out.1 HF.out.2);have b0:=bx.cell 0;have b1:=bx.cell 1;simp only [List.getElem?_toArray,List.getElem?_cons_zero,List.getElem?_cons_succ] at b0 b1;clear hd hb hfr bx)
  all_goals exact ⟨_,_,_,rfl,HM⟩
 refine Norm.elim ?_
 rintro a W ⟨x,A',c',rfl,HM⟩
 have HS:=Lib.hid HM.out.1.space
 have HR:=Lib.hid HM.out.1.rising
 have HRG:=Lib.hid HM.out.2.1
 have cx0:=HM.out.2.1.f
 have cx1:=HM.out.2.1.d
 dsimp only at cx0 cx1
 obtain ⟨P,cap,hsp,hrow,hPB⟩:=HM.out.1.sp
 have cs0:=hsp.cell 0
 simp only [List.getElem?_toArray,List.getElem?_cons_zero] at cs0
 have HSP:=Lib.hid hsp
 have HROW:=Lib.hid hrow
 have HPB:=Lib.hid hPB
 have hKle:=place_le rs f
 obtain ⟨K,hK⟩:∃ K,K=place rs f:=⟨_,rfl⟩
 rw [← hK] at hKle
 have HK:=Lib.hid hK
 have HKL:=Lib.hid hKle
 have hKs:K<4398046511104:=by have:=HBIG.out;omega
 clear hsp hrow hPB hK hKle H0 HBX HC1
 have HVP:=Lib.hid (show ∀ p,P=some p→∀ q,(W.drewN q).heap.size≠p.block from fun p hp q=>by
  rcases HROW.out.row with ⟨h1,_⟩|⟨g,cs,h1,h2,_⟩
  ·rw [h1] at hp;cases hp
  ·rw [h1] at hp;cases hp
   have:=h2.lt
   show W.heap.size≠g
   omega)
 cases hT:decide (∃ r∈rs,r.first=f) with
 | true =>
  have HT:=Lib.hid hT
  clear hT
  go_wp2_with (go_at_call 58;refine (find_ _ _ rs _ HS.out HR.out).mono ?_;rintro e' w' ⟨rfl,rfl⟩;rw [← HK.out,HT.out])
  go_quiet (fail)
  go_wp2
  go_ret
  rw [show m=false from HMAY.out.trans (by unfold mayAdd;rw [HT.out];rfl)]
  first|exact ⟨rfl,HM.out.2.2.2.2.1.trans (Chg.of_below (pw_below_drewN (Below.refl _ _) _) (Nat.le_refl _)),HM.out.1.drewN _⟩|exact ⟨rfl,HM.out.2.2.2.2.1.trans (Chg.of_below (pw_below_drewN (pw_below_drewN (Below.refl _ _) _) _) (Nat.le_refl _)),(HM.out.1.drewN _).drewN _⟩
 | false =>
  have HT:=Lib.hid hT
  clear hT
  obtain ⟨ln,hln⟩:∃ ln,ln=l.length:=⟨_,rfl⟩
  have HLN:=Lib.hid hln
  rw [← hln] at cx1 ⊢
  by_cases hz:ln=0
  ·have HE:=Lib.hid (show l.isEmpty=true by rw [List.isEmpty_iff_length_eq_zero,← hln,hz])
   clear hln
   subst hz
   go_wp2_with (go_at_call 58;refine (find_ _ _ rs _ HS.out HR.out).mono ?_;rintro e' w' ⟨rfl,rfl⟩;rw [← HK.out,HT.out])
   go_quiet (fail)
   go_wp2_with (go_at_call 61;refine (insertR_ _ P cap rs K ⟨x,f,A',c',l⟩ _ ((HROW.out.below (below_push (Nat.le_refl _) (pw_below_drewN (Below.refl _ _) _) _))) HKL.out (Blk.new _ _ _) (fun p hp=>HVP.out p hp _) (by have:=HBIG.out;omega)).mono ?_;rintro e' w' ⟨P',cap',rfl,hpr,hmv⟩;have HPR:=Lib.hid hpr;have HMV:=Lib.hid hmv;have hs1:=hmv.far _ _ _ (by decide) ((HSP.out.drewN _).alloc _);have ss0:=hs1.cell 0;have sf0:=hs1.frozen 0;simp only [List.getElem?_toArray,List.getElem?_cons_zero] at ss0;clear hpr hmv hs1)
   go_ret
   rw [show m=true from HMAY.out.trans (by unfold mayAdd;rw [HT.out,HE.out];rfl)]
   have h2:=StF.inserted ((HM.out.1.drewN _).below (below_push (Nat.le_refl _) (Below.refl _ _) _)) (fun k hk=>HM.out.2.2.2.2.2.1 k (Nat.le_trans (below_push (w:=World.drewN _ _) (Nat.le_refl _) (Below.refl _ _) _).size hk)) ((HSP.out.drewN _).alloc _) (HROW.out.below (below_push (Nat.le_refl _) (pw_below_drewN (Below.refl _ _) _) _)) HPB.out ⟨x,f,A',c',l⟩ (HRG.out.below (below_push (Nat.le_refl _) (pw_below_drewN (Below.refl _ _) _) _)) K HL.out HM.out.2.2.2.1 HM.out.2.2.2.2.2.2 HM.out.2.2.1 (by rw [HK.out];exact rising_ins rs ⟨x,f,A',c',l⟩ HR.out (of_decide_eq_false HT.out)) (by have:=HBIG.out;omega) HPR.out HMV.out
   exact ⟨rfl,HM.out.2.2.2.2.1.trans ((Chg.of_below (below_push (w:=World.drewN _ _) (Nat.le_refl _) (pw_below_drewN (Below.refl _ _) _) _) (Nat.le_refl _)).trans h2.2),⟨x,f,A',c',l⟩,rfl,rfl,by rw [← HK.out];exact h2.1⟩
  ·have hlp:decide (0<ln)=true:=decide_eq_true (by omega)
   have hlp2:0<ln:=of_decide_eq_true hlp
   have HE:=Lib.hid (show l.isEmpty=false by
    cases h:l.isEmpty with
    | false=>rfl
    | true=>exact absurd (by rw [hln];exact List.isEmpty_iff_length_eq_zero.1 h) hz)
   clear hln hz
   cases hW:decide (wlast f ln<f) with
   | true =>
    have HW:=Lib.hid hW
    go_wp2_with (go_at_call 58;refine (find_ _ _ rs _ HS.out HR.out).mono ?_;rintro e' w' ⟨rfl,rfl⟩;rw [← HK.out,HT.out])
    go_quiet (first|(go_at_call_of 59 (Value.pointer (some ⟨x,0,none⟩));refine Calls.quiet_of (last_ _ _ _ _ _ _ cx0 cx1)))
    go_wp2
    go_ret
    rw [show m=false from HMAY.out.trans (by unfold mayAdd;rw [HT.out,HE.out,← HLN.out,HW.out];rfl)]
    first|exact ⟨rfl,HM.out.2.2.2.2.1.trans (Chg.of_below (pw_below_drewN (Below.refl _ _) _) (Nat.le_refl _)),HM.out.1.drewN _⟩|exact ⟨rfl,HM.out.2.2.2.2.1.trans (Chg.of_below (pw_below_drewN (pw_below_drewN (Below.refl _ _) _) _) (Nat.le_refl _)),(HM.out.1.drewN _).drewN _⟩
   | false =>
    have HW:=Lib.hid hW
    cases hDN:fullDown rs K with
    | none =>
     have HDN:=Lib.hid hDN
     clear hDN
     cases hUP:fullUp rs K with
     | none =>
      have HUP:=Lib.hid hUP
      clear hUP
      go_wp2_with (go_at_call 58;refine (find_ _ _ rs _ HS.out HR.out).mono ?_;rintro e' w' ⟨rfl,rfl⟩;rw [← HK.out,HT.out])
      go_quiet (first|(go_at_call_of 59 (Value.pointer (some ⟨x,0,none⟩));refine Calls.quiet_of (last_ _ _ _ _ _ _ cx0 cx1)))
      go_wp2_with (first|(go_at_call_of 60 (Value.int .i64 (K:Int));refine (full_up _ _ rs K (HS.out.drewN _) HKL.out).mono ?_;rintro e' w' ⟨rfl,rfl⟩;rw [HUP.out];unfold ptrOf)|(go_at_call 60;refine (full_down' _ _ rs K _ (HS.out.drewN _) HKL.out (by omega)).mono ?_;rintro e' w' ⟨rfl,rfl⟩;rw [HDN.out];unfold ptrOf))
      go_quiet (first|fail)
      go_wp2_with (go_at_call 61;refine (insertR_ _ P cap rs K ⟨x,f,A',c',l⟩ _ ((HROW.out.below (below_push (Nat.le_refl _) (pw_below_drewN (Below.refl _ _) _) _))) HKL.out (Blk.new _ _ _) (fun p hp=>HVP.out p hp _) (by have:=HBIG.out;omega)).mono ?_;rintro e' w' ⟨P',cap',rfl,hpr,hmv⟩;have HPR:=Lib.hid hpr;have HMV:=Lib.hid hmv;have hs1:=hmv.far _ _ _ (by decide) ((HSP.out.drewN _).alloc _);have ss0:=hs1.cell 0;have sf0:=hs1.frozen 0;simp only [List.getElem?_toArray,List.getElem?_cons_zero] at ss0;clear hpr hmv hs1)
      go_ret
      rw [show m=true from HMAY.out.trans (by unfold mayAdd aheadBad behindBad;rw [HT.out,HE.out,← HLN.out,HW.out,← HK.out,HDN.out,HUP.out];rfl)]
      have h2:=StF.inserted ((HM.out.1.drewN _).below (below_push (Nat.le_refl _) (Below.refl _ _) _)) (fun k hk=>HM.out.2.2.2.2.2.1 k (Nat.le_trans (below_push (w:=World.drewN _ _) (Nat.le_refl _) (Below.refl _ _) _).size hk)) ((HSP.out.drewN _).alloc _) (HROW.out.below (below_push (Nat.le_refl _) (pw_below_drewN (Below.refl _ _) _) _)) HPB.out ⟨x,f,A',c',l⟩ (HRG.out.below (below_push (Nat.le_refl _) (pw_below_drewN (Below.refl _ _) _) _)) K HL.out HM.out.2.2.2.1 HM.out.2.2.2.2.2.2 HM.out.2.2.1 (by rw [HK.out];exact rising_ins rs ⟨x,f,A',c',l⟩ HR.out (of_decide_eq_false HT.out)) (by have:=HBIG.out;omega) HPR.out HMV.out
      exact ⟨rfl,HM.out.2.2.2.2.1.trans ((Chg.of_below (below_push (w:=World.drewN _ _) (Nat.le_refl _) (pw_below_drewN (Below.refl _ _) _) _) (Nat.le_refl _)).trans h2.2),⟨x,f,A',c',l⟩,rfl,rfl,by rw [← HK.out];exact h2.1⟩
     | some bb =>
      have HUP:=Lib.hid hUP
      have hbm:=fullUp_mem rs K bb hUP
      have cb0:=(HROW.out.regs bb hbm.1).f
      clear hUP hbm
      cases hB:decide (bb.first≤wlast f ln) with
      | true =>
       have HB:=Lib.hid hB
       go_wp2_with (go_at_call 58;refine (find_ _ _ rs _ HS.out HR.out).mono ?_;rintro e' w' ⟨rfl,rfl⟩;rw [← HK.out,HT.out])
       go_quiet (first|(go_at_call_of 59 (Value.pointer (some ⟨x,0,none⟩));refine Calls.quiet_of (last_ _ _ _ _ _ _ cx0 cx1)))
       go_wp2_with (first|(go_at_call_of 60 (Value.int .i64 (K:Int));refine (full_up _ _ rs K (HS.out.drewN _) HKL.out).mono ?_;rintro e' w' ⟨rfl,rfl⟩;rw [HUP.out];unfold ptrOf)|(go_at_call 60;refine (full_down' _ _ rs K _ (HS.out.drewN _) HKL.out (by omega)).mono ?_;rintro e' w' ⟨rfl,rfl⟩;rw [HDN.out];unfold ptrOf))
       go_quiet (first|(go_at_call_of 59 (Value.pointer (some ⟨x,0,none⟩));refine quiet_at (last_ _ _ _ _ _ _ cx0 cx1)))
       go_wp2
       go_ret
       rw [show m=false from HMAY.out.trans (by unfold mayAdd aheadBad behindBad;rw [HT.out,HE.out,← HLN.out,HW.out,← HK.out,HDN.out,HUP.out];simp only [HB.out];rfl)]
       first|exact ⟨rfl,HM.out.2.2.2.2.1.trans (Chg.of_below (pw_below_drewN (Below.refl _ _) _) (Nat.le_refl _)),HM.out.1.drewN _⟩|exact ⟨rfl,HM.out.2.2.2.2.1.trans (Chg.of_below (pw_below_drewN (pw_below_drewN (Below.refl _ _) _) _) (Nat.le_refl _)),(HM.out.1.drewN _).drewN _⟩
      | false =>
       have HB:=Lib.hid hB
       go_wp2_with (go_at_call 58;refine (find_ _ _ rs _ HS.out HR.out).mono ?_;rintro e' w' ⟨rfl,rfl⟩;rw [← HK.out,HT.out])
       go_quiet (first|(go_at_call_of 59 (Value.pointer (some ⟨x,0,none⟩));refine Calls.quiet_of (last_ _ _ _ _ _ _ cx0 cx1)))
       go_wp2_with (first|(go_at_call_of 60 (Value.int .i64 (K:Int));refine (full_up _ _ rs K (HS.out.drewN _) HKL.out).mono ?_;rintro e' w' ⟨rfl,rfl⟩;rw [HUP.out];unfold ptrOf)|(go_at_call 60;refine (full_down' _ _ rs K _ (HS.out.drewN _) HKL.out (by omega)).mono ?_;rintro e' w' ⟨rfl,rfl⟩;rw [HDN.out];unfold ptrOf))
       go_quiet (first|(go_at_call_of 59 (Value.pointer (some ⟨x,0,none⟩));refine quiet_at (last_ _ _ _ _ _ _ cx0 cx1)))
       go_wp2_with (go_at_call 61;refine (insertR_ _ P cap rs K ⟨x,f,A',c',l⟩ _ ((HROW.out.below (below_push (Nat.le_refl _) (pw_below_drewN (Below.refl _ _) _) _))) HKL.out (Blk.new _ _ _) (fun p hp=>HVP.out p hp _) (by have:=HBIG.out;omega)).mono ?_;rintro e' w' ⟨P',cap',rfl,hpr,hmv⟩;have HPR:=Lib.hid hpr;have HMV:=Lib.hid hmv;have hs1:=hmv.far _ _ _ (by decide) ((HSP.out.drewN _).alloc _);have ss0:=hs1.cell 0;have sf0:=hs1.frozen 0;simp only [List.getElem?_toArray,List.getElem?_cons_zero] at ss0;clear hpr hmv hs1)
       go_ret
       rw [show m=true from HMAY.out.trans (by unfold mayAdd aheadBad behindBad;rw [HT.out,HE.out,← HLN.out,HW.out,← HK.out,HDN.out,HUP.out];simp only [HB.out];rfl)]
       have h2:=StF.inserted ((HM.out.1.drewN _).below (below_push (Nat.le_refl _) (Below.refl _ _) _)) (fun k hk=>HM.out.2.2.2.2.2.1 k (Nat.le_trans (below_push (w:=World.drewN _ _) (Nat.le_refl _) (Below.refl _ _) _).size hk)) ((HSP.out.drewN _).alloc _) (HROW.out.below (below_push (Nat.le_refl _) (pw_below_drewN (Below.refl _ _) _) _)) HPB.out ⟨x,f,A',c',l⟩ (HRG.out.below (below_push (Nat.le_refl _) (pw_below_drewN (Below.refl _ _) _) _)) K HL.out HM.out.2.2.2.1 HM.out.2.2.2.2.2.2 HM.out.2.2.1 (by rw [HK.out];exact rising_ins rs ⟨x,f,A',c',l⟩ HR.out (of_decide_eq_false HT.out)) (by have:=HBIG.out;omega) HPR.out HMV.out
       exact ⟨rfl,HM.out.2.2.2.2.1.trans ((Chg.of_below (below_push (w:=World.drewN _ _) (Nat.le_refl _) (pw_below_drewN (Below.refl _ _) _) _) (Nat.le_refl _)).trans h2.2),⟨x,f,A',c',l⟩,rfl,rfl,by rw [← HK.out];exact h2.1⟩
    | some aa =>
     have HDN:=Lib.hid hDN
     have ham:=fullDown_mem' rs K aa hDN
     have ca0:=(HROW.out.regs aa ham.1).f
     have ca1:=(HROW.out.regs aa ham.1).d
     clear hDN ham
     cases hA:decide (f≤wlast aa.first aa.data.length) with
     | true =>
      have HA:=Lib.hid hA
      cases hUP:fullUp rs K with
      | none =>
       have HUP:=Lib.hid hUP
       clear hUP
       go_wp2_with (go_at_call 58;refine (find_ _ _ rs _ HS.out HR.out).mono ?_;rintro e' w' ⟨rfl,rfl⟩;rw [← HK.out,HT.out])
       go_quiet (first|(go_at_call_of 59 (Value.pointer (some ⟨x,0,none⟩));refine Calls.quiet_of (last_ _ _ _ _ _ _ cx0 cx1)))
       go_wp2_with (first|(go_at_call_of 60 (Value.int .i64 (K:Int));refine (full_up _ _ rs K (HS.out.drewN _) HKL.out).mono ?_;rintro e' w' ⟨rfl,rfl⟩;rw [HUP.out];unfold ptrOf)|(go_at_call 60;refine (full_down' _ _ rs K _ (HS.out.drewN _) HKL.out (by omega)).mono ?_;rintro e' w' ⟨rfl,rfl⟩;rw [HDN.out];unfold ptrOf))
       go_quiet (first|(go_at_call_of 59 (Value.pointer (some ⟨aa.b,0,none⟩));refine quiet_at (last_ _ _ _ _ _ _ ca0 ca1)))
       go_wp2
       go_ret
       rw [show m=false from HMAY.out.trans (by unfold mayAdd aheadBad behindBad;rw [HT.out,HE.out,← HLN.out,HW.out,← HK.out,HDN.out,HUP.out];simp only [HA.out];rfl)]
       first|exact ⟨rfl,HM.out.2.2.2.2.1.trans (Chg.of_below (pw_below_drewN (Below.refl _ _) _) (Nat.le_refl _)),HM.out.1.drewN _⟩|exact ⟨rfl,HM.out.2.2.2.2.1.trans (Chg.of_below (pw_below_drewN (pw_below_drewN (Below.refl _ _) _) _) (Nat.le_refl _)),(HM.out.1.drewN _).drewN _⟩
      | some bb =>
       have HUP:=Lib.hid hUP
       clear hUP
       go_wp2_with (go_at_call 58;refine (find_ _ _ rs _ HS.out HR.out).mono ?_;rintro e' w' ⟨rfl,rfl⟩;rw [← HK.out,HT.out])
       go_quiet (first|(go_at_call_of 59 (Value.pointer (some ⟨x,0,none⟩));refine Calls.quiet_of (last_ _ _ _ _ _ _ cx0 cx1)))
       go_wp2_with (first|(go_at_call_of 60 (Value.int .i64 (K:Int));refine (full_up _ _ rs K (HS.out.drewN _) HKL.out).mono ?_;rintro e' w' ⟨rfl,rfl⟩;rw [HUP.out];unfold ptrOf)|(go_at_call 60;refine (full_down' _ _ rs K _ (HS.out.drewN _) HKL.out (by omega)).mono ?_;rintro e' w' ⟨rfl,rfl⟩;rw [HDN.out];unfold ptrOf))
       go_quiet (first|(go_at_call_of 59 (Value.pointer (some ⟨aa.b,0,none⟩));refine quiet_at (last_ _ _ _ _ _ _ ca0 ca1))|(go_at_call_of 59 (Value.pointer (some ⟨x,0,none⟩));refine quiet_at (last_ _ _ _ _ _ _ cx0 cx1)))
       go_wp2
       go_ret
       rw [show m=false from HMAY.out.trans (by unfold mayAdd aheadBad behindBad;rw [HT.out,HE.out,← HLN.out,HW.out,← HK.out,HDN.out];simp only [HA.out];rfl)]
       first|exact ⟨rfl,HM.out.2.2.2.2.1.trans (Chg.of_below (pw_below_drewN (Below.refl _ _) _) (Nat.le_refl _)),HM.out.1.drewN _⟩|exact ⟨rfl,HM.out.2.2.2.2.1.trans (Chg.of_below (pw_below_drewN (pw_below_drewN (Below.refl _ _) _) _) (Nat.le_refl _)),(HM.out.1.drewN _).drewN _⟩
     | false =>
      have HA:=Lib.hid hA
      cases hUP:fullUp rs K with
      | none =>
       have HUP:=Lib.hid hUP
       clear hUP
       go_wp2_with (go_at_call 58;refine (find_ _ _ rs _ HS.out HR.out).mono ?_;rintro e' w' ⟨rfl,rfl⟩;rw [← HK.out,HT.out])
       go_quiet (first|(go_at_call_of 59 (Value.pointer (some ⟨x,0,none⟩));refine Calls.quiet_of (last_ _ _ _ _ _ _ cx0 cx1)))
       go_wp2_with (first|(go_at_call_of 60 (Value.int .i64 (K:Int));refine (full_up _ _ rs K (HS.out.drewN _) HKL.out).mono ?_;rintro e' w' ⟨rfl,rfl⟩;rw [HUP.out];unfold ptrOf)|(go_at_call 60;refine (full_down' _ _ rs K _ (HS.out.drewN _) HKL.out (by omega)).mono ?_;rintro e' w' ⟨rfl,rfl⟩;rw [HDN.out];unfold ptrOf))
       go_quiet (first|(go_at_call_of 59 (Value.pointer (some ⟨aa.b,0,none⟩));refine quiet_at (last_ _ _ _ _ _ _ ca0 ca1)))
       go_wp2_with (go_at_call 61;refine (insertR_ _ P cap rs K ⟨x,f,A',c',l⟩ _ ((HROW.out.below (below_push (Nat.le_refl _) (pw_below_drewN (Below.refl _ _) _) _))) HKL.out (Blk.new _ _ _) (fun p hp=>HVP.out p hp _) (by have:=HBIG.out;omega)).mono ?_;rintro e' w' ⟨P',cap',rfl,hpr,hmv⟩;have HPR:=Lib.hid hpr;have HMV:=Lib.hid hmv;have hs1:=hmv.far _ _ _ (by decide) ((HSP.out.drewN _).alloc _);have ss0:=hs1.cell 0;have sf0:=hs1.frozen 0;simp only [List.getElem?_toArray,List.getElem?_cons_zero] at ss0;clear hpr hmv hs1)
       go_ret
       rw [show m=true from HMAY.out.trans (by unfold mayAdd aheadBad behindBad;rw [HT.out,HE.out,← HLN.out,HW.out,← HK.out,HDN.out,HUP.out];simp only [HA.out];rfl)]
       have h2:=StF.inserted ((HM.out.1.drewN _).below (below_push (Nat.le_refl _) (Below.refl _ _) _)) (fun k hk=>HM.out.2.2.2.2.2.1 k (Nat.le_trans (below_push (w:=World.drewN _ _) (Nat.le_refl _) (Below.refl _ _) _).size hk)) ((HSP.out.drewN _).alloc _) (HROW.out.below (below_push (Nat.le_refl _) (pw_below_drewN (Below.refl _ _) _) _)) HPB.out ⟨x,f,A',c',l⟩ (HRG.out.below (below_push (Nat.le_refl _) (pw_below_drewN (Below.refl _ _) _) _)) K HL.out HM.out.2.2.2.1 HM.out.2.2.2.2.2.2 HM.out.2.2.1 (by rw [HK.out];exact rising_ins rs ⟨x,f,A',c',l⟩ HR.out (of_decide_eq_false HT.out)) (by have:=HBIG.out;omega) HPR.out HMV.out
       exact ⟨rfl,HM.out.2.2.2.2.1.trans ((Chg.of_below (below_push (w:=World.drewN _ _) (Nat.le_refl _) (pw_below_drewN (Below.refl _ _) _) _) (Nat.le_refl _)).trans h2.2),⟨x,f,A',c',l⟩,rfl,rfl,by rw [← HK.out];exact h2.1⟩
      | some bb =>
       have HUP:=Lib.hid hUP
       have hbm:=fullUp_mem rs K bb hUP
       have cb0:=(HROW.out.regs bb hbm.1).f
       clear hUP hbm
       cases hB:decide (bb.first≤wlast f ln) with
       | true =>
        have HB:=Lib.hid hB
        go_wp2_with (go_at_call 58;refine (find_ _ _ rs _ HS.out HR.out).mono ?_;rintro e' w' ⟨rfl,rfl⟩;rw [← HK.out,HT.out])
        go_quiet (first|(go_at_call_of 59 (Value.pointer (some ⟨x,0,none⟩));refine Calls.quiet_of (last_ _ _ _ _ _ _ cx0 cx1)))
        go_wp2_with (first|(go_at_call_of 60 (Value.int .i64 (K:Int));refine (full_up _ _ rs K (HS.out.drewN _) HKL.out).mono ?_;rintro e' w' ⟨rfl,rfl⟩;rw [HUP.out];unfold ptrOf)|(go_at_call 60;refine (full_down' _ _ rs K _ (HS.out.drewN _) HKL.out (by omega)).mono ?_;rintro e' w' ⟨rfl,rfl⟩;rw [HDN.out];unfold ptrOf))
        go_quiet (first|(go_at_call_of 59 (Value.pointer (some ⟨aa.b,0,none⟩));refine quiet_at (last_ _ _ _ _ _ _ ca0 ca1))|(go_at_call_of 59 (Value.pointer (some ⟨x,0,none⟩));refine quiet_at (last_ _ _ _ _ _ _ cx0 cx1)))
        go_wp2
        go_ret
        rw [show m=false from HMAY.out.trans (by unfold mayAdd aheadBad behindBad;rw [HT.out,HE.out,← HLN.out,HW.out,← HK.out,HDN.out,HUP.out];simp only [HA.out];simp only [HB.out];rfl)]
        first|exact ⟨rfl,HM.out.2.2.2.2.1.trans (Chg.of_below (pw_below_drewN (Below.refl _ _) _) (Nat.le_refl _)),HM.out.1.drewN _⟩|exact ⟨rfl,HM.out.2.2.2.2.1.trans (Chg.of_below (pw_below_drewN (pw_below_drewN (Below.refl _ _) _) _) (Nat.le_refl _)),(HM.out.1.drewN _).drewN _⟩
       | false =>
        have HB:=Lib.hid hB
        go_wp2_with (go_at_call 58;refine (find_ _ _ rs _ HS.out HR.out).mono ?_;rintro e' w' ⟨rfl,rfl⟩;rw [← HK.out,HT.out])
        go_quiet (first|(go_at_call_of 59 (Value.pointer (some ⟨x,0,none⟩));refine Calls.quiet_of (last_ _ _ _ _ _ _ cx0 cx1)))
        go_wp2_with (first|(go_at_call_of 60 (Value.int .i64 (K:Int));refine (full_up _ _ rs K (HS.out.drewN _) HKL.out).mono ?_;rintro e' w' ⟨rfl,rfl⟩;rw [HUP.out];unfold ptrOf)|(go_at_call 60;refine (full_down' _ _ rs K _ (HS.out.drewN _) HKL.out (by omega)).mono ?_;rintro e' w' ⟨rfl,rfl⟩;rw [HDN.out];unfold ptrOf))
        go_quiet (first|(go_at_call_of 59 (Value.pointer (some ⟨aa.b,0,none⟩));refine quiet_at (last_ _ _ _ _ _ _ ca0 ca1))|(go_at_call_of 59 (Value.pointer (some ⟨x,0,none⟩));refine quiet_at (last_ _ _ _ _ _ _ cx0 cx1)))
        go_wp2_with (go_at_call 61;refine (insertR_ _ P cap rs K ⟨x,f,A',c',l⟩ _ ((HROW.out.below (below_push (Nat.le_refl _) (pw_below_drewN (Below.refl _ _) _) _))) HKL.out (Blk.new _ _ _) (fun p hp=>HVP.out p hp _) (by have:=HBIG.out;omega)).mono ?_;rintro e' w' ⟨P',cap',rfl,hpr,hmv⟩;have HPR:=Lib.hid hpr;have HMV:=Lib.hid hmv;have hs1:=hmv.far _ _ _ (by decide) ((HSP.out.drewN _).alloc _);have ss0:=hs1.cell 0;have sf0:=hs1.frozen 0;simp only [List.getElem?_toArray,List.getElem?_cons_zero] at ss0;clear hpr hmv hs1)
        go_ret
        rw [show m=true from HMAY.out.trans (by unfold mayAdd aheadBad behindBad;rw [HT.out,HE.out,← HLN.out,HW.out,← HK.out,HDN.out,HUP.out];simp only [HA.out];simp only [HB.out];rfl)]
        have h2:=StF.inserted ((HM.out.1.drewN _).below (below_push (Nat.le_refl _) (Below.refl _ _) _)) (fun k hk=>HM.out.2.2.2.2.2.1 k (Nat.le_trans (below_push (w:=World.drewN _ _) (Nat.le_refl _) (Below.refl _ _) _).size hk)) ((HSP.out.drewN _).alloc _) (HROW.out.below (below_push (Nat.le_refl _) (pw_below_drewN (Below.refl _ _) _) _)) HPB.out ⟨x,f,A',c',l⟩ (HRG.out.below (below_push (Nat.le_refl _) (pw_below_drewN (Below.refl _ _) _) _)) K HL.out HM.out.2.2.2.1 HM.out.2.2.2.2.2.2 HM.out.2.2.1 (by rw [HK.out];exact rising_ins rs ⟨x,f,A',c',l⟩ HR.out (of_decide_eq_false HT.out)) (by have:=HBIG.out;omega) HPR.out HMV.out
        exact ⟨rfl,HM.out.2.2.2.2.1.trans ((Chg.of_below (below_push (w:=World.drewN _ _) (Nat.le_refl _) (pw_below_drewN (Below.refl _ _) _) _) (Nat.le_refl _)).trans h2.2),⟨x,f,A',c',l⟩,rfl,rfl,by rw [← HK.out];exact h2.1⟩
theorem add_ (B:Nat) (w:World) (s:Nat) (rs:List Reg) (f:Int) (A:Option Addr) (n c:Nat) (l:List Int) (h:St B w s rs) (hC:Kd.C (Kd.int .u8) w A n l) (hl:Bytes l) (hf0:0≤f) (hf1:f<18446744073709551616) (hn:n≤140737488355328) (hbig:rs.length+1<4398046511104) :
  Calls Try.prog 20 #[.pointer (some ⟨s,0,none⟩),.agg #[.int .u64 f,.slice A n c]] w fun e w'=>AddRes (mayAdd rs f l) B w s rs f l e w':=by
 have hB:=Nat.le_of_lt h.lt
 refine (add_F _ w s rs f A n c l h (fun k hk=>Nat.le_trans hB hk) hC hl hf0 hf1 hn hbig).mono ?_
 intro e w' hr
 unfold AddRes
 unfold AddResF at hr
 split
 ·rename_i hm
  rw [if_pos hm] at hr
  exact ⟨hr.1,hr.2.1.below hB,hr.2.2⟩
 ·rename_i hm
  rw [if_neg hm] at hr
  exact ⟨hr.1,hr.2.1.below hB,hr.2.2⟩
end Go.Proofs.Ythmeojeehemlaaa.Mem
end
section
namespace Go.Proofs.Ythmeojeehemlaaa.Mem
open Go.RowKit Go.Lib Go.Proofs.YthmeojeehemlaaaW.PrintWords
open Go.Proofs.Ythmeojeehemlaaa.PM
attribute [local go_sem] isSome_setCell
inductive Adds:List S39→List Reg→Prop
 | nil:Adds [] []
 | snoc {xs:List S39} {rs:List Reg} {x:S39} {rg:Reg}:Adds xs rs→mayAdd rs x.f0 x.f1=true→rg.first=x.f0→rg.data=x.f1→Adds (xs ++ [x]) (ins rs (place rs x.f0) rg)
theorem Adds.len {xs:List S39} {rs:List Reg} (h:Adds xs rs):rs.length=xs.length:=by
 induction h with
 | nil=>rfl
 | snoc _ _ _ _ ih=>rw [ins_length,ih];simp
def NewRes (w:World) (xs:List S39) (e:Ending) (w':World):Prop:=
 (∃ s rs,e=.returned (.tuple #[.pointer (some ⟨s,0,none⟩),.int .i64 0])∧Adds xs rs∧St w.heap.size w' s rs∧Below w.heap.size w w') ∨
 (e=.returned (.tuple #[.pointer none,.int .i64 201])∧(∃ k rs,∃ h:k<xs.length,Adds (xs.take k) rs∧mayAdd rs xs[k].f0 xs[k].f1=false)∧Below w.heap.size w w')
def Fits (x:S39):Prop:=0≤x.f0∧x.f0<18446744073709551616∧Bytes x.f1∧x.f1.length≤140737488355328
theorem St.fresh (w:World):St w.heap.size (w.alloc (.cells #[.slice none 0 0] 61)) w.heap.size []:=
 ⟨⟨none,0,Blk.new _ _ _,⟨by decide,Nat.le_refl _,by decide,.inl ⟨rfl,rfl⟩,fun _ h=>absurd h List.not_mem_nil⟩,fun p h=>by cases h⟩,Nat.le_refl _,fun _ h=>absurd h List.not_mem_nil,List.Pairwise.nil,trivial,fun _ h=>absurd h List.not_mem_nil,fun _ h=>absurd h List.not_mem_nil⟩
theorem new_ (w:World) (A:Option Addr) (n c:Nat) (xs:List S39) (hC:Kd.C k39 w A n xs) (hF:∀ x∈xs,Fits x) (hn:n+1<4398046511104) :
  Calls Try.prog 7 #[.slice A n c] w fun e w'=>NewRes w xs e w':=by
 have HC:=Lib.hid hC
 have HF:=Lib.hid hF
 have HN:=Lib.hid hn
 have HL:=Lib.hid hC.1
 have hn2:n<4398046511104:=by omega
 clear hC hF hn
 go_enter Try.func7,Try.ntmps7
 go_wp2
 go_loopw [12] (fun i wr=>∃ (k:Nat) (rs:List Reg),k≤n∧i=.int .i64 (k:Int)∧Hid (Adds (xs.take k) rs)∧Hid (St w.heap.size wr w.heap.size rs)∧Hid (Below w.heap.size w wr)) (fun i _=>n - (RowKit.intOf i).toNat)
 case atStart=>exact ⟨0,[],Nat.zero_le _,rfl,Lib.hid (by rw [List.take_zero];exact .nil),Lib.hid (St.fresh w),Lib.hid (below_push (Nat.le_refl _) (Below.refl _ _) _)⟩
 case round =>
  obtain ⟨k,rs,hk,rfl,hA,hS,hB⟩:=hrel
  by_cases hlt:k<n
  ·obtain ⟨ad,A1,c1,hAd,e0,e1,l1,g1⟩:=at_T39 (Kd.C_below HC.out hB.out) (k:Int) (by omega) (by omega)
   subst hAd
   rw [Int.toNat_natCast] at e0 e1
   obtain ⟨x,hx⟩:∃ x,x=rd_T39 xs k:=⟨_,rfl⟩
   have hkx:k<xs.length:=by rw [HL.out];exact hlt
   have hx2:xs[k]=x:=by rw [hx];unfold rd_T39;rw [Int.toNat_natCast,List.getD_eq_getElem?_getD,List.getElem?_eq_getElem hkx];rfl
   rw [← hx] at e0 e1 l1 g1
   have HX:=Lib.hid (show ∃ h:k<xs.length,xs[k]=x from ⟨hkx,hx2⟩)
   have hfit:Fits x:=by rw [← hx2];exact HF.out _ (List.getElem_mem hkx)
   have HFX:=Lib.hid hfit
   have HG:=Lib.hid g1
   have hrl:rs.length=k:=by rw [hA.out.len,List.length_take];omega
   have HRL:=Lib.hid (show rs.length+1<4398046511104 by omega)
   clear hx hx2 hkx hfit g1 hrl l1
   have HADD:=Lib.hid (show ∀ W,Below wr.heap.size wr W→Calls Try.prog 20 #[.pointer (some ⟨w.heap.size,0,none⟩),.agg #[.int .u64 x.f0,.slice A1 x.f1.length c1]] W fun e w'=>AddRes (mayAdd rs x.f0 x.f1) w.heap.size W w.heap.size rs x.f0 x.f1 e w' from fun W hW=>add_ w.heap.size W w.heap.size rs x.f0 A1 x.f1.length c1 x.f1 (hS.out.below hW) (Kd.C_below HG.out hW) HFX.out.2.2.1 HFX.out.1 HFX.out.2.1 HFX.out.2.2.2 HRL.out)
   cases hm:mayAdd rs x.f0 x.f1 with
   | true =>
    rw [hm] at HADD
    go_wp2_with (go_at_call 20;refine (HADD.out _ (below_push (Nat.le_refl _) (Below.refl _ _) _)).mono ?_;rintro e w' ⟨rfl,hbl,rg,h1,h2,hS2⟩;have HBL:=Lib.hid hbl;have H1:=Lib.hid (And.intro h1 h2);have HS2:=Lib.hid hS2;clear hbl h1 h2 hS2)
    go_roundw
    case rel =>
     refine ⟨k+1,_,by omega,by go_num,Lib.hid ?_,HS2,Lib.hid (hB.out.trans ((below_push hB.out.size (Below.refl _ _) _).trans HBL.out))⟩
     obtain ⟨h,e⟩:=HX.out
     rw [List.take_succ_eq_append_getElem h,e]
     exact .snoc hA.out hm H1.out.1 H1.out.2
    case measure=>simp [RowKit.intOf];omega
   | false =>
    rw [hm] at HADD
    go_wp2_with (go_at_call 20;refine (HADD.out _ (below_push (Nat.le_refl _) (Below.refl _ _) _)).mono ?_;rintro e w' ⟨rfl,hbl,_⟩;have HBL:=Lib.hid hbl;clear hbl)
    go_ret2
    obtain ⟨h,e⟩:=HX.out
    exact .inr ⟨rfl,⟨k,rs,h,hA.out,by rw [e];exact hm⟩,hB.out.trans ((below_push hB.out.size (Below.refl _ _) _).trans HBL.out)⟩
  ·obtain rfl:k=n:=by omega
   go_wp2
   go_ret2
   refine .inl ⟨w.heap.size,rs,rfl,?_,hS.out,hB.out⟩
   have:=hA.out
   rw [List.take_of_length_le (by have:=HL.out;omega)] at this
   exact this
end Go.Proofs.Ythmeojeehemlaaa.Mem
end
end
