/- Parts of the proof, laid together by a program of this session (pack.py): ZA7. Of the kit's print what the claim does not use is left out. -/
import Derived.Test.YthmeojeehemlaaaZC6
import Derived.Deep.RegionHeld3
import Derived.Deep.RegionLaw
set_option linter.unusedVariables false
set_option linter.unusedSimpArgs false
set_option maxRecDepth 100000
set_option maxHeartbeats 16000000
section
section
namespace Go.Proofs.Ythmeojeehemlaaa.Mem
open Go.RowKit Go.Proofs.YthmeojeehemlaaaW.PrintWords
open Go.Proofs.Ythmeojeehemlaaa.PM
attribute [local go_sem] isSome_setCell
theorem spare_l0:∀ (k:Nat) (x:List Int) (i:Nat),i≤x.length→x.length - i<k→x.length<9000000000000000000→Bytes x→∃ r,spindlelaw0_spare.l0 k x (i:Int)=some r∧r.length=x.length∧Bytes r:=by
 intro k
 induction k with
 | zero=>intro x i _ h;omega
 | succ k ih =>
  intro x i hi hk hb hx
  simp only [spindlelaw0_spare.l0]
  by_cases hlt:i<x.length
  ·rw [if_pos (by omega),if_pos (by omega),w64 ((i:Int)+1) (by omega) (by omega)]
   obtain ⟨r,h1,h2,h3⟩:=ih (x.set ((i:Int)).toNat ((wrap64 (201 - (wrap64 (3*(i:Int))))) % 256)) (i+1) (by simp;omega) (by simp;omega) (by simpa using hb) (fun b hb'=>by
    rcases List.mem_or_eq_of_mem_set hb' with h|h
    ·exact hx b h
    ·rw [h];omega)
   exact ⟨r,h1,by simpa using h2,h3⟩
  ·rw [if_neg (by omega)]
   exact ⟨x,rfl,rfl,hx⟩
theorem spare_ex (k:Nat) (hk:k≤2097152):∃ r,spindlelaw0_spare.f (k+71) (k:Int)=some r∧r.length=k+70∧Bytes r:=by
 unfold spindlelaw0_spare.f
 rw [w64 _ (by omega) (by omega),if_pos (by omega),if_pos (by omega)]
 obtain ⟨r,h1,h2,h3⟩:=spare_l0 (k+71) (List.replicate ((k:Int)+70).toNat 0) 0 (Nat.zero_le _) (by simp) (by simp;omega) (fun b hb=>by rw [(List.mem_replicate.1 hb).2];omega)
 exact ⟨r,h1,by rw [h2];simp;omega,h3⟩
def spareL (k:Nat):List Int:=(spindlelaw0_spare.f (k+71) (k:Int)).getD []
theorem spareL_ok (k:Nat) (hk:k≤2097152):spindlelaw0_spare.f (k+71) (k:Int)=some (spareL k)∧(spareL k).length=k+70∧Bytes (spareL k):=by
 obtain ⟨r,h1,h2,h3⟩:=spare_ex k hk
 have e:spareL k=r:=by unfold spareL;rw [h1];rfl
 rw [e];exact ⟨h1,h2,h3⟩
theorem R_dat {w:World} {base:Nat} {ok:Nat→Prop} {v:Value} {r:List Int} (h:Kd.R (Kd.int .u8) 5 w base ok v r) (hs:r.length<4611686018427387904):∃ A c,v=.slice A r.length c∧Dat w A c r∧∀ d,A=some ⟨d,0,none⟩→base≤d:=by
 obtain ⟨A,c,he,hl,hc⟩:=Kd.R_reads h
 obtain ⟨inner,h1,h2⟩:=Kd.R_own h
 subst he
 rcases h2 with ⟨hv,h0⟩|⟨g,cap,cur,hv,hb,hh,hnc,hcm,hsz,ht⟩
 ·injection hv with e1 e2 e3
  subst e1;subst e3
  exact ⟨none,0,by rw [e2],⟨by omega,by omega,fun hp=>by omega⟩,fun d hd=>by cases hd⟩
 ·injection hv with e1 e2 e3
  subst e1;subst e3
  refine ⟨_,c,rfl,⟨hl,by unfold maxLen at hcm;omega,fun hp=>⟨g,cur,rfl,hh,?_,fun i hi=>?_⟩⟩,fun d hd=>by cases hd;exact hb⟩
  ·have:cur.size=c*1:=hsz
   omega
  ·have:=(Kd.C_byte hc).2 ⟨g,0,none⟩ rfl i hi
   have ad:(⟨g,0,none⟩:Addr).add i=⟨g,i,none⟩:=by unfold Addr.add;split <;> simp_all
   rw [ad,Blk.cell hh i,List.getD_eq_getElem?_getD,List.getElem?_eq_getElem hi] at this
   exact this
theorem spare_ (w:World) (A:Option Addr) (n c:Nat) (l:List Int) (hC:Kd.C (Kd.int .u8) w A n l) (hc:n≤c) (hn:n≤2097152) :
  Calls Try.prog 67 #[.slice A n c] w fun e w'=>∃ A' c',e=.returned (.slice A' (2*n+70) c')∧Dat w' A' c' (l ++ spareL n)∧Below w.heap.size w w'∧∃ d,A'=some ⟨d,0,none⟩∧w.heap.size≤d:=by
 obtain rfl:=hC.1
 obtain ⟨h1,h2,h3⟩:=spareL_ok l.length hn
 have hcp:spindlelaw0_CopyBytes.f l=some l:=by
  unfold spindlelaw0_CopyBytes.f
  simp only [Option.bind_some,List.length_nil,List.nil_append]
  exact if_pos (by omega)
 have hf:spindlelaw0_Spare.f (l.length+71) l=some (l ++ spareL l.length):=by
  show ((spindlelaw0_CopyBytes.f l).bind fun t181=>((spindlelaw0_spare.f (l.length+71) (l.length:Int)).bind fun t184=>(if t181.length+t184.length<140737488355328 then (some (t181 ++ t184)) else (none))))=_
  rw [hcp,Option.bind_some,h1,Option.bind_some]
  exact if_pos (by omega)
 refine (spindlelaw0_Spare.calls (l.length+71) A c l (l ++ spareL l.length) w hC hc hf).mono ?_
 rintro e w' ⟨v,rfl,hr,hb⟩
 obtain ⟨A',c',rfl,hd,hbs⟩:=R_dat hr (by simp;omega)
 have hlen:(l ++ spareL l.length).length=2*l.length+70:=by simp;omega
 obtain ⟨d,cs,e,_⟩:=hd.row (by omega)
 rw [hlen]
 exact ⟨A',c',rfl,hd,hb,d,e,hbs d e⟩
theorem C_at {w:World} {d o:Nat} {cs:Array Value} {l:List Int} (hb:Blk w d 5 cs) (hs:l.length<9223372036854775808) (hc:∀ i (h:i<l.length),cs[o+i]?=some (.int .u8 l[i])):Kd.C (Kd.int .u8) w (some ⟨d,o,none⟩) l.length l:=by
 refine ⟨rfl,by omega,fun hp=>⟨⟨d,o,none⟩,rfl,fun j p hj=>⟨[.int .u8 p],rfl,rfl,fun i u hu=>?_⟩⟩⟩
 have hi:i=0:=by
  have:=(List.getElem?_eq_some_iff.1 hu).1
  simpa using this
 subst hi
 have hu':Value.int .u8 p=u:=by simpa using hu
 subst hu'
 obtain ⟨hjn,hp2⟩:=List.getElem?_eq_some_iff.1 hj
 have ad:(⟨d,o,none⟩:Addr).add (j*(Kd.int .u8).sz+0)=⟨d,o+j,none⟩:=by
  show (⟨d,o,none⟩:Addr).add (j*1+0)=⟨d,o+j,none⟩
  unfold Addr.add;split <;> simp_all
 rw [ad,hb.cell (o+j),hc j hjn,hp2]
theorem spare2_ (w:World) (k:Nat) (hks:k≤2097152) (h1:spindlelaw0_spare.f (k+71) (k:Int)=some (spareL k)) :
  Calls Try.prog 89 #[.int .i64 k] w fun e w'=>∃ A c,e=.returned (.slice A (k+70) c)∧Kd.C (Kd.int .u8) w' A (k+70) (spareL k)∧Below w.heap.size w w':=by
 refine (spindlelaw0_spare.calls (k+71) (k:Int) (spareL k) w h1).mono ?_
 rintro e w' ⟨v,rfl,hr,hb⟩
 have hl:=(spareL_ok k hks).2.1
 obtain ⟨A,c,rfl,hd,_⟩:=R_dat hr (by omega)
 have hC:=hd.C
 rw [hl] at hC
 exact ⟨A,c,by rw [hl],hC,hb⟩
theorem kept_ (w:World) (d nF cF k cl:Nat) (Al:Option Addr) (l:List Int) (hk:k=l.length) (hnF:nF=2*k+70) (hks:k≤2097152) (hD:Dat w (some ⟨d,0,none⟩) cF (l ++ spareL k)) (hL:Kd.C (Kd.int .u8) w Al k l) (hcl:k≤cl) :
  Calls Try.prog 68 #[.slice (some ⟨d,0,none⟩) nF cF,.slice Al k cl] w fun e w'=>e=.returned (.bool true)∧Below w.heap.size w w':=by
 obtain ⟨h1,h2,h3⟩:=spareL_ok k hks
 have hlen:(l ++ spareL k).length=nF:=by simp;omega
 have hcF:nF≤cF:=by rw [← hlen];exact hD.len
 have cuts:Kd.C (Kd.int .u8) w (some ⟨d,0,none⟩) k l∧Kd.C (Kd.int .u8) w (some ⟨d,k,none⟩) (nF - k) (spareL k):=by
  obtain ⟨d',cs,e,hb,hsz,hcell⟩:=hD.row (by omega)
  cases e
  constructor
  ·have h:=C_at (o:=0) (l:=l) hb (by omega) (fun i hi=>by rw [Nat.zero_add,hcell i (by omega),List.getElem_append_left hi])
   rw [← hk] at h
   exact h
  ·have h:=C_at (o:=k) (l:=spareL k) hb (by omega) (fun i hi=>by
    rw [hcell (k+i) (by omega),List.getElem_append_right (by omega)]
    congr 3;omega)
   rw [h2,show k+70=nF - k by omega] at h
   exact h
 have HC1:=Lib.hid cuts.1
 have HC2:=Lib.hid cuts.2
 have HL:=Lib.hid hL
 have HS:∀ W,Below w.heap.size w W→(fun W=>(convert 37 9 (.slice (some ⟨d,0,none⟩) k cF)).run Try.prog W=.ok (.string (strOfNums l)) W∧(convert 37 9 (.slice (some ⟨d,k,none⟩) (nF - k) (cF - k))).run Try.prog W=.ok (.string (strOfNums (spareL k))) W∧(convert 37 9 (.slice Al k cl)).run Try.prog W=.ok (.string (strOfNums l)) W) W:=fun W hW=>⟨Kd.C_string Try.underlying37 Try.underlying5 Try.underlying9 (Kd.C_below HC1.out hW),Kd.C_string Try.underlying37 Try.underlying5 Try.underlying9 (Kd.C_below HC2.out hW),Kd.C_string Try.underlying37 Try.underlying5 Try.underlying9 (Kd.C_below HL.out hW)⟩
 have HSH:=Lib.hid HS
 have HS0:=Lib.hid (HS w.drew (below_drew (Below.refl _ _)))
 clear HS
 have hkI:(k:Int)<2097153:=by omega
 have hb:((nF:Int) == IntKind.i64.wrap (IntKind.i64.wrap (2*(k:Int))+70))=true:=by
  have e:∀ z:Int,0≤z→z<9223372036854775808→IntKind.i64.wrap z=z:=fun z h0 h1=>by rw [IntKind.wrap_i64];omega
  rw [e (2*(k:Int)) (by omega) (by omega),e _ (by omega) (by omega),beq_iff_eq];omega
 have HSPC:=Lib.hid (show ∀ W:World,Calls Try.prog 89 #[.int .i64 k] W fun e w'=>∃ A c,e=.returned (.slice A (k+70) c)∧Kd.C (Kd.int .u8) w' A (k+70) (spareL k)∧Below W.heap.size W w' from fun W=>spare2_ W k hks h1)
 have hkn:k≤nF:=by omega
 have hkc:k≤cF:=by omega
 have hkc3:k<cF:=by omega
 have hkc4:(k:Int)<(cF:Int):=by omega
 have hkc5:¬ cF=k:=by omega
 have hkn2:(k:Int)≤(nF:Int):=by omega
 have hkc2:(k:Int)≤(cF:Int):=by omega
 have hnc2:(nF:Int)≤(cF:Int):=by omega
 clear cuts hL hD h1 h2 h3 hnF hk hlen
 go_enter Try.func68,Try.ntmps68
 go_wp2
 go_region_held (fun W=>(convert 37 9 (.slice (some ⟨d,0,none⟩) k cF)).run Try.prog W=.ok (.string (strOfNums l)) W∧(convert 37 9 (.slice (some ⟨d,k,none⟩) (nF - k) (cF - k))).run Try.prog W=.ok (.string (strOfNums (spareL k))) W∧(convert 37 9 (.slice Al k cl)).run Try.prog W=.ok (.string (strOfNums l)) W) (first|exact HS0.out|exact HS1.out) (first|(go_at_call 89;refine (HSPC.out _).mono ?_;rintro e w' ⟨Av,cv,rfl,hd,hb'⟩;have HB':=Lib.hid ((below_drew (Below.refl w.heap.size w)).trans hb');have HS1:=Lib.hid (HSH.out w' HB'.out);have q4:=Kd.C_string (P:=Try.prog) (c:=cv) Try.underlying37 Try.underlying5 Try.underlying9 hd;clear hd hb'))
 go_wp2
 go_ret
 exact ⟨rfl,HB'.out⟩
def gFirst (xs:List S39) (j:Nat):Int:=if h:j<xs.length then xs[j].f0 else (j:Int)
def gLen (xs:List S39) (j:Nat):Nat:=if h:j<xs.length then xs[j].f1.length else 1
def gData (xs:List S39) (j:Nat):List Int:=if h:j<xs.length then xs[j].f1 ++ spareL xs[j].f1.length else [77]
structure Laid (base:Nat) (w:World) (G:Nat) (xs:List S39) (bs:List (Nat × Nat)):Prop where
 blk:∃ cs:Array Value,Blk w G 39 cs∧cs.size=(xs.length+70)*2∧∀ j (h:j<bs.length),cs[j*2]?=some (.int .u64 (gFirst xs j))∧cs[j*2+1]?=some (.slice (some ⟨bs[j].1,0,none⟩) (gLen xs j) bs[j].2)
 dat:∀ j (h:j<bs.length),Dat w (some ⟨bs[j].1,0,none⟩) bs[j].2 (gData xs j)
 low:base≤G
 lows:∀ b∈bs,base≤b.1∧b.1<w.heap.size
 inc:bs.Pairwise fun a b=>a.1<b.1
theorem Laid.move {base:Nat} {w w':World} {G:Nat} {xs:List S39} {bs:List (Nat × Nat)} (h:Laid base w G xs bs) (hs:w.heap.size≤w'.heap.size) (hk:∀ g t cs,(t=39∨t=5)→Blk w g t cs→Blk w' g t cs):Laid base w' G xs bs:=by
 obtain ⟨cs,h1,h2,h3⟩:=h.blk
 refine ⟨⟨cs,hk _ _ _ (.inl rfl) h1,h2,h3⟩,fun j hj=>?_,h.low,fun b hb=>⟨(h.lows b hb).1,Nat.lt_of_lt_of_le (h.lows b hb).2 hs⟩,h.inc⟩
 have hd:=h.dat j hj
 refine ⟨hd.len,hd.small,fun hp=>?_⟩
 obtain ⟨d,cs,e,hb,hl,hc⟩:=hd.row hp
 exact ⟨d,cs,e,hk _ _ _ (.inr rfl) hb,hl,hc⟩
theorem Laid.below {base:Nat} {w w':World} {G:Nat} {xs:List S39} {bs:List (Nat × Nat)} (h:Laid base w G xs bs) (hb:Below w.heap.size w w'):Laid base w' G xs bs:=
 h.move hb.size fun g t cs _ hg=>hg.below hb hg.lt
theorem Laid.snoc {base:Nat} {w:World} {G:Nat} {xs:List S39} {bs:List (Nat × Nat)} (h:Laid base w G xs bs) (i d c n:Nat) (f:Int) (hi:i=bs.length) (hin:i<xs.length+70) (hf:f=gFirst xs i) (hn:n=gLen xs i) (hd:Dat w (some ⟨d,0,none⟩) c (gData xs i)) (hdw:d<w.heap.size) (hdb:base≤d) (hnew:∀ b∈bs,b.1<d) (hp:0<(gData xs i).length) :
  Laid base ((w.setCell ⟨G,i*2,none⟩ (.int .u64 f)).setCell ⟨G,i*2+1,none⟩ (.slice (some ⟨d,0,none⟩) n c)) G xs (bs ++ [(d,c)]):=by
 obtain ⟨cs,h1,h2,h3⟩:=h.blk
 have hsz:((w.setCell ⟨G,i*2,none⟩ (.int .u64 f)).setCell ⟨G,i*2+1,none⟩ (.slice (some ⟨d,0,none⟩) n c)).heap.size=w.heap.size:=by simp [World.setCell]
 have far:∀ g cs',Blk w g 5 cs'→Blk ((w.setCell ⟨G,i*2,none⟩ (.int .u64 f)).setCell ⟨G,i*2+1,none⟩ (.slice (some ⟨d,0,none⟩) n c)) g 5 cs':=fun g cs' hg=>by
  have hne:G≠g:=fun e=>by subst e;exact absurd (hg.uniq h1) (by decide)
  exact (hg.far hne _).far hne _
 have dmove:∀ A2 c2 l2,Dat w A2 c2 l2→Dat ((w.setCell ⟨G,i*2,none⟩ (.int .u64 f)).setCell ⟨G,i*2+1,none⟩ (.slice (some ⟨d,0,none⟩) n c)) A2 c2 l2:=fun A2 c2 l2 hd=>by
  refine ⟨hd.len,hd.small,fun hp=>?_⟩
  obtain ⟨d2,cs2,e,hb,hl,hc⟩:=hd.row hp
  exact ⟨d2,cs2,e,far _ _ hb,hl,hc⟩
 have hin':i*2+1<cs.size:=by omega
 refine ⟨⟨_,(h1.set_ (i*2) (.int .u64 f)).set_ (i*2+1) (.slice (some ⟨d,0,none⟩) n c),by simpa using h2,fun j hj=>?_⟩,fun j hj=>?_,h.low,fun b hb=>?_,?_⟩
 ·by_cases hji:j<bs.length
  ·rw [Array.getElem?_setIfInBounds_ne (by omega),Array.getElem?_setIfInBounds_ne (by omega),Array.getElem?_setIfInBounds_ne (by omega),Array.getElem?_setIfInBounds_ne (by omega),List.getElem_append_left hji]
   exact h3 j hji
  ·have e:j=i:=by simp at hj;omega
   subst e
   have hb2:(bs ++ [(d,c)])[j]=(d,c):=by
    rw [List.getElem_append_right (by omega)];simp
   rw [Array.getElem?_setIfInBounds_ne (by omega),Array.getElem?_setIfInBounds_self_of_lt (by omega),Array.getElem?_setIfInBounds_self_of_lt (by simpa using hin'),hb2,hf,hn]
   exact ⟨rfl,rfl⟩
 ·by_cases hji:j<bs.length
  ·simp only [List.getElem_append_left hji]
   exact dmove _ _ _ (h.dat j hji)
  ·have e:j=i:=by simp at hj;omega
   subst e
   have hb2:(bs ++ [(d,c)])[j]=(d,c):=by
    rw [List.getElem_append_right (by omega)];simp
   rw [hb2]
   exact dmove _ _ _ hd
 ·rw [hsz]
  rcases List.mem_append.1 hb with hb|hb
  ·exact h.lows b hb
  ·rw [List.mem_singleton.1 hb];exact ⟨hdb,hdw⟩
 ·rw [List.pairwise_append]
  refine ⟨h.inc,List.pairwise_singleton _ _,fun a ha b hb=>?_⟩
  rw [List.mem_singleton.1 hb]
  exact hnew a ha
def fullCells (xs:List S39) (bs:List (Nat × Nat)) (k:Nat):List Value:=(List.range k).map fun j=>.slice (some ⟨(bs.getD j (0,0)).1,0,none⟩) (2*gLen xs j+70) (bs.getD j (0,0)).2
theorem fullCells_snoc (xs:List S39) (bs:List (Nat × Nat)) (k d c:Nat) (hk:k=bs.length):fullCells xs (bs ++ [(d,c)]) (k+1)=fullCells xs bs k ++ [.slice (some ⟨d,0,none⟩) (2*gLen xs k+70) c]:=by
 unfold fullCells
 rw [List.range_succ,List.map_append]
 congr 1
 ·apply List.map_congr_left
  intro j hj
  have:j<bs.length:=by rw [← hk];exact List.mem_range.1 hj
  rw [List.getD_eq_getElem?_getD,List.getD_eq_getElem?_getD,List.getElem?_append_left this]
 ·subst hk
  simp [List.getD_eq_getElem?_getD]
theorem fullCells_more (xs:List S39) (bs:List (Nat × Nat)) (k d c:Nat) (hk:k≤bs.length):fullCells xs (bs ++ [(d,c)]) k=fullCells xs bs k:=by
 unfold fullCells
 apply List.map_congr_left
 intro j hj
 have:j<bs.length:=Nat.lt_of_lt_of_le (List.mem_range.1 hj) hk
 rw [List.getD_eq_getElem?_getD,List.getD_eq_getElem?_getD,List.getElem?_append_left this]
theorem laid_cells {base:Nat} {w:World} {G:Nat} {xs:List S39} {bs:List (Nat × Nat)} (h:Laid base w G xs bs) (i:Nat) (hi:i<xs.length+70):∃ v0 v1,w.cell? ⟨G,i*2,none⟩=some v0∧w.cell? ⟨G,i*2+1,none⟩=some v1∧w.frozen? ⟨G,i*2,none⟩=false∧w.frozen? ⟨G,i*2+1,none⟩=false:=by
 obtain ⟨cs,h1,h2,_⟩:=h.blk
 exact ⟨_,_,(h1.cell _).trans (Array.getElem?_eq_getElem (by omega)),(h1.cell _).trans (Array.getElem?_eq_getElem (by omega)),h1.frozen _,h1.frozen _⟩
theorem ownsRow_move {w w':World} {base e size:Nat} {v:Value} {n:Nat} {xs:List Value} (h:w.ownsRow base e size v n xs) (hk:∀ g cs,Blk w g e cs→Blk w' g e cs):w'.ownsRow base e size v n xs:=by
 refine ⟨h.1,?_⟩
 rcases h.2 with hn|⟨g,cap,cur,hv,hg,hh,rest⟩
 ·exact .inl hn
 ·exact .inr ⟨g,cap,cur,hv,hg,hk _ _ hh,rest⟩
theorem size2 (w:World) (p q:Addr) (u v:Value):((w.setCell p u).setCell q v).heap.size=w.heap.size:=by simp [World.setCell]
def laidW (w:World) (G i d m c:Nat) (f:Int):World:=(w.setCell ⟨G,i*2,none⟩ (.int .u64 f)).setCell ⟨G,i*2+1,none⟩ (.slice (some ⟨d,0,none⟩) m c)
theorem laidW_far {w:World} {G i d m c:Nat} {f:Int} {cs0:Array Value} (hG:Blk w G 39 cs0) {g t:Nat} {cs:Array Value} (ht:t≠39) (hb:Blk w g t cs):Blk (laidW w G i d m c f) g t cs:=by
 have hne:G≠g:=fun e=>by subst e;exact ht (hb.uniq hG)
 exact (hb.far hne _).far hne _
theorem laidW_below {B:Nat} {a w:World} {G i d m c:Nat} {f:Int} (h:Below B a w) (hG:B≤G):Below B a (laidW w G i d m c f):=below_set hG (below_set hG h _ _) _ _
theorem lent_own {base:Nat} {w2:World} {G i d m c nF:Nat} {f:Int} {xs:List S39} {bs:List (Nat × Nat)} {V:Value} (hLA:Laid base w2 G xs bs) (hFU:w2.ownsRow base 37 1 V i (fullCells xs bs i)) :
  ((laidW w2.drew G i d m c f).alloc (.cells #[.slice (some ⟨d,0,none⟩) nF c] 37)).ownsRow base 37 1 V i (fullCells xs bs i):=by
 obtain ⟨cs0,hG,_⟩:=hLA.blk
 exact ownsRow_move hFU (fun g cs hb=>(laidW_far (hG.drew) (by decide) hb.drew).alloc _)
theorem lent_step {base:Nat} {w w2 w5:World} {G i d m c nF:Nat} {f:Int} {xs:List S39} {bs:List (Nat × Nat)} {V V':Value} (hLA:Laid base w2 G xs bs) (hFU:w2.ownsRow base 37 1 V i (fullCells xs bs i)) (hB:Below base w w2) (hbw:base≤w2.heap.size)
  (hi:i=bs.length) (hin:i<xs.length+70) (hf:f=gFirst xs i) (hm:m=gLen xs i) (hnF:nF=2*m+70) (hD:Dat w2 (some ⟨d,0,none⟩) c (gData xs i)) (hp:0<(gData xs i).length) (hnew:∀ b∈bs,b.1<d) (hdb:base≤d)
  (ho:w5.ownsRow base 37 1 V' (i+1) (fullCells xs bs i ++ [.slice (some ⟨d,0,none⟩) nF c])) (hg:((laidW w2.drew G i d m c f).alloc (.cells #[.slice (some ⟨d,0,none⟩) nF c] 37)).grownBy w5 V.ownBlock) :
  Laid base w5 G xs (bs ++ [(d,c)])∧w5.ownsRow base 37 1 V' (i+1) (fullCells xs (bs ++ [(d,c)]) (i+1))∧Below base w w5:=by
 have hdl:d<w2.heap.size:=by
  obtain ⟨d2,cs,e,hb,_⟩:=hD.row hp
  cases e;exact hb.lt
 have l1:=(hLA.below (below_drew (Below.refl _ _))).snoc i d c m f hi hin hf hm (hD.below (below_drew (Below.refl _ _))) hdl hdb hnew hp
 have l2:=l1.below (below_push (Nat.le_refl _) (Below.refl _ _) (.cells #[.slice (some ⟨d,0,none⟩) nF c] 37))
 have hO:=lent_own (d:=d) (m:=m) (c:=c) (nF:=nF) (f:=f) hLA hFU
 have hsz:w2.heap.size≤((laidW w2.drew G i d m c f).alloc (.cells #[.slice (some ⟨d,0,none⟩) nF c] 37)).heap.size:=by
  show w2.heap.size≤((laidW w2.drew G i d m c f).heap.push _).size
  rw [Array.size_push]
  have:=size2 w2.drew ⟨G,i*2,none⟩ ⟨G,i*2+1,none⟩ (.int .u64 f) (.slice (some ⟨d,0,none⟩) m c)
  unfold laidW
  rw [this]
  show w2.heap.size≤w2.heap.size+1
  omega
 refine ⟨l2.move hg.size (fun g t cs ht hb=>?_),?_,?_⟩
 ·unfold Blk
  rw [hg.block g hb.lt ?_]
  ·exact hb
  ·intro e
   rcases hO.2 with ⟨hv,_⟩|⟨g2,cap,cur,hv,_,hh,_⟩
   ·rw [hv] at e;cases e
   ·rw [hv] at e
    have e3:g=g2:=by simpa [Value.ownBlock] using e
    subst e3
    have:=Blk.uniq hb hh
    rcases ht with ht|ht <;> (rw [ht] at this;exact absurd this (by decide))
 ·rw [fullCells_snoc xs bs i d c hi,← hm,← hnF];exact ho
 ·refine Below.grown (below_push ?_ (laidW_below (below_drew hB) hLA.low) _) hg (Nat.le_trans hbw hsz) (fun k hk=>(hO.lt k hk).1)
  have:=size2 w2.drew ⟨G,i*2,none⟩ ⟨G,i*2+1,none⟩ (.int .u64 f) (.slice (some ⟨d,0,none⟩) m c)
  unfold laidW
  rw [this]
  exact hbw
theorem lent_news (w:World) (G i d m c nF:Nat) (f:Int):∀ j u,([.slice (some ⟨d,0,none⟩) nF c]:List Value)[j]?=some u→((laidW w G i d m c f).alloc (.cells #[.slice (some ⟨d,0,none⟩) nF c] 37)).drew.cell? ((⟨w.heap.size,0,none⟩:Addr).add j)=some u:=by
 intro j u hj
 have hj0:j=0:=by
  have:=(List.getElem?_eq_some_iff.1 hj).1
  simpa using this
 subst hj0
 have e:(laidW w G i d m c f).heap.size=w.heap.size:=size2 w _ _ _ _
 have hb:=(Blk.new (laidW w G i d m c f) 37 #[.slice (some ⟨d,0,none⟩) nF c]).drew
 rw [e] at hb
 have ad:(⟨w.heap.size,0,none⟩:Addr).add 0=⟨w.heap.size,0,none⟩:=by unfold Addr.add;simp
 rw [ad,hb.cell 0]
 simpa using hj
theorem lent_size {w wr w2:World} (hB:Below w.heap.size w wr) (hb:Below wr.heap.size wr w2) (G i d m c:Nat) (f:Int) {o:Obj}:w.heap.size≤((laidW w2 G i d m c f).alloc o).drew.heap.size:=by
 have e:(laidW w2 G i d m c f).heap.size=w2.heap.size:=size2 w2 _ _ _ _
 have h1:=hB.size
 have h2:=hb.size
 show w.heap.size≤((laidW w2 G i d m c f).heap.push o).size
 rw [Array.size_push,e]
 omega
theorem lent_ (w:World) (A:Option Addr) (n c:Nat) (xs:List S39) (hC:Kd.C k39 w A n xs) (hc:n≤c) (hn:n≤1048576) (hd:∀ x∈xs,x.f1.length≤1048576) :
  Calls Try.prog 35 #[.slice A n c] w fun e w'=>∃ G V bs,e=.returned (.tuple #[.slice (some ⟨G,0,none⟩) (n+70) (n+70),V])∧bs.length=n+70∧Laid w.heap.size w' G xs bs∧w'.ownsRow w.heap.size 37 1 V n (fullCells xs bs n)∧Below w.heap.size w w':=by
 have HC:=Lib.hid hC
 have HL:=Lib.hid hC.1
 have HD:=Lib.hid hd
 obtain ⟨i0,hi,hz0,hz1,hz2⟩:=info_parts (P:=Try.prog) (e:=39) (z:=.agg #[.int .u64 0,.slice none 0 0]) (size:=2) (bytes:=32) (by kernel_rfl)
 obtain ⟨i7,hj,hy0,hy1,hy2⟩:=info_parts (P:=Try.prog) (e:=37) (z:=.slice none 0 0) (size:=1) (bytes:=24) (by kernel_rfl)
 have hmk:∀ W:World,(Instr.makeSlice 22 (.int .i64 ((n:Int)+70)) (.int .i64 ((n:Int)+70))).run Try.prog W=.ok (.slice (some ⟨W.heap.size,0,none⟩) (n+70) (n+70)) (W.alloc (.cells (madeCells #[.int .u64 0,.slice none 0 0] ((n+70)*2)) 39)):=by
  intro W
  have h:=run_make (P:=Try.prog) (w:=W) 22 39 i0 _ Try.underlying22 hi hz0 .i64 .i64 ((n:Int)+70) ((n:Int)+70) (by omega) (Int.le_refl _) (by rw [hz2];omega) (by omega)
  have e:((n:Int)+70).toNat=n+70:=by omega
  rw [e,hz1] at h
  exact h
 have HB0:=Lib.hid (below_push (Nat.le_refl _) (Below.refl w.heap.size w) (.cells (madeCells #[.int .u64 0,.slice none 0 0] ((n+70)*2)) 39))
 have HL0:=Lib.hid (show Laid w.heap.size (w.alloc (.cells (madeCells #[.int .u64 0,.slice none 0 0] ((n+70)*2)) 39)) w.heap.size xs [] from
  ⟨⟨_,Blk.new _ _ _,by rw [size_madeCells,hC.1],fun j h=>absurd h (Nat.not_lt_zero j)⟩,fun j h=>absurd h (Nat.not_lt_zero j),Nat.le_refl _,fun _ h=>absurd h List.not_mem_nil,List.Pairwise.nil⟩)
 clear hC hd hi hz0 hz1 hz2
 obtain ⟨N,hN⟩:∃ N,N=n+70:=⟨_,rfl⟩
 go_enter Try.func35,Try.ntmps35
 go_wp2
 go_loopw [5,6] (fun V iV wr=>∃ (i:Nat) (bs:List (Nat × Nat)),i≤n+70∧iV=.int .i64 (i:Int)∧Hid (bs.length=i)∧Hid (Laid w.heap.size wr w.heap.size xs bs)∧Hid (wr.ownsRow w.heap.size 37 1 V (min i n) (fullCells xs bs (min i n)))∧Hid (Below w.heap.size w wr)) (fun _ iV _=>n+70 - (RowKit.intOf iV).toNat)
 case atStart=>exact ⟨0,[],Nat.zero_le _,rfl,Lib.hid rfl,HL0,Lib.hid (by rw [Nat.zero_min];exact ⟨rfl,.inl ⟨rfl,rfl⟩⟩),HB0⟩
 case round =>
  obtain ⟨i,bs,hiN,rfl,hbs,hLA,hFU,hB⟩:=hrel
  by_cases hlt:i<n+70
  ·obtain ⟨v0,v1,y0,y1,z0,z1⟩:=laid_cells hLA.out i (by rw [HL.out];exact hlt)
   by_cases hin:i<n
   ·obtain ⟨ad,Ai,ci,hAd,e0,e1,l1,k1⟩:=at_T39 (Kd.C_below HC.out hB.out) (i:Int) (by omega) (by omega)
    subst hAd
    rw [Int.toNat_natCast,rd39 xs i (by rw [HL.out];exact hin)] at e0 e1
    rw [rd39 xs i (by rw [HL.out];exact hin)] at l1 k1
    have hix:i<xs.length:=by rw [HL.out];exact hin
    obtain ⟨f,hf⟩:∃ f,f=xs[i].f0:=⟨_,rfl⟩
    obtain ⟨l,hl⟩:∃ l,l=xs[i].f1:=⟨_,rfl⟩
    obtain ⟨m,hm⟩:∃ m,m=l.length:=⟨_,rfl⟩
    rw [← hf] at e0
    rw [← hl,← hm] at e1 l1 k1
    have hms:m≤1048576:=by rw [hm,hl];exact HD.out _ (List.getElem_mem hix)
    have HK1:=Lib.hid k1
    have HF:=Lib.hid (show f=gFirst xs i from by unfold gFirst;rw [dif_pos hix];exact hf)
    have HG:=Lib.hid (show m=gLen xs i from by unfold gLen;rw [dif_pos hix,← hl];exact hm)
    have HDT:=Lib.hid (show l ++ spareL m=gData xs i from by unfold gData;rw [dif_pos hix,← hl,hm])
    have HE:=Lib.hid (And.intro e0 e1)
    clear k1 hf hl hm hix y0 y1 z0 z1 v0 v1
    have hm1:m≤2*m+70:=by omega
    go_wp2_with (go_at_call 67;refine (spare_ _ Ai m ci l HK1.out l1 (by omega)).mono ?_;rintro e w2 ⟨A2,c2,rfl,hdat,hb2,d,rfl,hdge⟩;have hc2:2*m+70≤c2:=(by have:=hdat.len;have h3:=(spareL_ok m (by omega)).2.1;have h4:=HK1.out.1;simp at this;omega);have HDAT:=Lib.hid hdat;have HB2:=Lib.hid hb2;have HDG:=Lib.hid hdge;have HLA2:=Lib.hid (hLA.out.below hb2);clear hdat hb2 hdge)
    obtain ⟨v0,v1,y0,y1,z0,z1⟩:=laid_cells HLA2.out i (by rw [HL.out];exact hlt)
    have e0':=(HB2.out.cell (World.block_lt_of_cell? wr _ HE.out.1)).trans HE.out.1
    have e1':=(HB2.out.cell (World.block_lt_of_cell? wr _ HE.out.2)).trans HE.out.2
    clear e0 e1
    go_region
    have HFU2:=Lib.hid (show w2.ownsRow w.heap.size 37 1 u5 i (fullCells xs bs i) from by have:=hFU.out;rw [Nat.min_eq_left (by omega)] at this;exact ownsRow_below this HB2.out)
    have HOWN:=Lib.hid (lent_own (d:=d) (m:=m) (c:=c2) (nF:=2*m+70) (f:=f) HLA2.out HFU2.out)
    have HBB:=Lib.hid (hB.out.trans (HB2.out.mono hB.out.size))
    go_wp2_with (at_builtin;refine wpList_append_own _ rfl _ _ 52 rfl w.heap.size 37 i7 (.slice none 0 0) 1 24 Try.underlying52 hj hy0 hy1 hy2 rfl (by decide) u5 i (fullCells xs bs i) rfl HOWN.out ⟨w2.heap.size,0,none⟩ 1 1 [.slice (some ⟨d,0,none⟩) (2*m+70) c2] rfl rfl ?q1 ?q2 ?q3 ?q4 ?q5 ?_)
    case q1=>exact lent_news w2 _ i d m c2 _ f
    case q2=>intro u hu;rw [List.mem_singleton.1 hu];rfl
    case q3=>unfold maxLen;omega
    case q4=>omega
    case q5=>exact lent_size hB.out HB2.out _ i d m c2 f
    intro v' w5 ho hgr hni
    have HST:=Lib.hid (lent_step (f:=f) (m:=m) (nF:=2*m+70) HLA2.out HFU2.out HBB.out (Nat.le_trans hB.out.size HB2.out.size) hbs.out.symm (by rw [HL.out];exact hlt) HF.out HG.out rfl (by rw [← HDT.out];exact HDAT.out) (by rw [← HDT.out];have:=(spareL_ok m (by omega)).2.1;simp;omega) (fun b hb=>Nat.lt_of_lt_of_le (hLA.out.lows b hb).2 HDG.out) (Nat.le_trans hB.out.size HDG.out) ho hgr)
    clear ho hgr hni
    go_wp2
    go_roundw
    case rel=>exact ⟨i+1,bs ++ [(d,c2)],by omega,by go_num,Lib.hid (by simp [hbs.out]),Lib.hid HST.out.1,Lib.hid (by rw [Nat.min_eq_left (by omega)];exact HST.out.2.1),Lib.hid HST.out.2.2⟩
    case measure=>simp [RowKit.intOf];omega
   ·have k1:IntKind.u64.wrap (i:Int)=(i:Int):=u64 _ (by omega) (by omega)
    have hge:¬ (i:Int)<(n:Int):=by omega
    have hdn:decide (i<n)=false:=decide_eq_false hin
    have hbN:=Lib.hid (Blk.new wr 5 #[.int .u8 77])
    have hLA2:=Lib.hid (hLA.out.below (below_push (Nat.le_refl _) (Below.refl _ _) (.cells #[.int .u8 77] 5)))
    have HST:=Lib.hid (hLA2.out.snoc i wr.heap.size 1 1 (i:Int) hbs.out.symm (by rw [HL.out];exact hlt) (by unfold gFirst;rw [dif_neg (by rw [HL.out];exact hin)]) (by unfold gLen;rw [dif_neg (by rw [HL.out];exact hin)]) (by unfold gData;rw [dif_neg (by rw [HL.out];exact hin)];exact ⟨Nat.le_refl _,by decide,fun _=>⟨_,_,rfl,hbN.out,Nat.le_refl _,fun q hq=>by have hq1:q<1:=hq;have hq0:q=0:=(by omega);subst hq0;rfl⟩⟩) hbN.out.lt hB.out.size (fun b hb=>(hLA.out.lows b hb).2) (by unfold gData;rw [dif_neg (by rw [HL.out];exact hin)];decide))
    have HFU2:=Lib.hid (show ((((wr.alloc (.cells #[.int .u8 77] 5)).setCell ⟨w.heap.size,i*2,none⟩ (.int .u64 (i:Int))).setCell ⟨w.heap.size,i*2+1,none⟩ (.slice (some ⟨wr.heap.size,0,none⟩) 1 1))).ownsRow w.heap.size 37 1 u5 n (fullCells xs bs n) from by
     have:=hFU.out
     rw [Nat.min_eq_right (by omega)] at this
     obtain ⟨cs0,hG,_⟩:=hLA2.out.blk
     exact ownsRow_move this (fun g cs hb=>laidW_far hG (by decide) (hb.alloc _)))
    have HB2:=Lib.hid (show Below w.heap.size w ((((wr.alloc (.cells #[.int .u8 77] 5)).setCell ⟨w.heap.size,i*2,none⟩ (.int .u64 (i:Int))).setCell ⟨w.heap.size,i*2+1,none⟩ (.slice (some ⟨wr.heap.size,0,none⟩) 1 1))) from laidW_below (below_push hB.out.size hB.out _) (Nat.le_refl _))
    obtain ⟨v0',v1',y0',y1',z0',z1'⟩:=laid_cells hLA2.out i (by rw [HL.out];exact hlt)
    clear y0 y1 z0 z1
    go_wp2
    go_roundw
    case rel=>exact ⟨i+1,bs ++ [(wr.heap.size,1)],by omega,by go_num,Lib.hid (by simp [hbs.out]),HST,Lib.hid (by rw [Nat.min_eq_right (by omega),fullCells_more _ _ _ _ _ (by rw [hbs.out];omega)];exact HFU2.out),HB2⟩
    case measure=>simp [RowKit.intOf];omega
  ·obtain rfl:i=n+70:=by omega
   go_wp2
   go_ret2
   exact ⟨w.heap.size,_,bs,rfl,hbs.out,hLA.out,by have:=hFU.out;rw [Nat.min_eq_right (by omega)] at this;exact this,hB.out⟩
structure Left (base:Nat) (w wr:World) (G:Nat) (xs:List S39) (bs:List (Nat × Nat)) (i:Nat):Prop where
 blk:∃ cs:Array Value,Blk wr G 39 cs∧cs.size=(xs.length+70)*2∧∀ j (h:j<bs.length),i≤j→cs[j*2]?=some (.int .u64 (gFirst xs j))∧cs[j*2+1]?=some (.slice (some ⟨bs[j].1,0,none⟩) (gLen xs j) bs[j].2)
 dat:∀ j (h:j<bs.length),i≤j→Dat wr (some ⟨bs[j].1,0,none⟩) bs[j].2 (gData xs j)
 frame:∀ g t cs,t≠39→(t=5→∀ b∈bs,g≠b.1)→Blk w g t cs→Blk wr g t cs
 below:Below base w wr
 inc:bs.Pairwise fun a b=>a.1<b.1
 lows:base≤G∧∀ b∈bs,base≤b.1
theorem Left.start {base:Nat} {w:World} {G:Nat} {xs:List S39} {bs:List (Nat × Nat)} (h:Laid base w G xs bs):Left base w w G xs bs 0:=by
 obtain ⟨cs,h1,h2,h3⟩:=h.blk
 exact ⟨⟨cs,h1,h2,fun j hj _=>h3 j hj⟩,fun j hj _=>h.dat j hj,fun g t cs _ _ hb=>hb,Below.refl _ _,h.inc,h.low,fun b hb=>(h.lows b hb).1⟩
theorem Left.next {base:Nat} {w wr:World} {G:Nat} {xs:List S39} {bs:List (Nat × Nat)} {i:Nat} (h:Left base w wr G xs bs i):Left base w wr G xs bs (i+1):=by
 obtain ⟨cs,h1,h2,h3⟩:=h.blk
 exact ⟨⟨cs,h1,h2,fun j hj hij=>h3 j hj (by omega)⟩,fun j hj hij=>h.dat j hj (by omega),h.frame,h.below,h.inc,h.lows⟩
theorem Left.after {base:Nat} {w wr wr':World} {G:Nat} {xs:List S39} {bs:List (Nat × Nat)} {i:Nat} (h:Left base w wr G xs bs i) (hb:Below wr.heap.size wr wr') (hbw:base≤wr.heap.size):Left base w wr' G xs bs i:=by
 obtain ⟨cs,h1,h2,h3⟩:=h.blk
 exact ⟨⟨cs,h1.below hb h1.lt,h2,h3⟩,fun j hj hij=>(h.dat j hj hij).below hb,fun g t cs ht h5 hg=>(h.frame g t cs ht h5 hg).below hb (h.frame g t cs ht h5 hg).lt,h.below.trans (hb.mono hbw),h.inc,h.lows⟩
theorem Left.store {base:Nat} {w wr:World} {G:Nat} {xs:List S39} {bs:List (Nat × Nat)} {i:Nat} (h:Left base w wr G xs bs (i+1)) (hi:i<bs.length) (k:Nat) (u:Value) (hd:∃ cs,Blk wr bs[i].1 5 cs):Left base w (wr.setCell ⟨bs[i].1,k,none⟩ u) G xs bs (i+1):=by
 obtain ⟨cs,h1,h2,h3⟩:=h.blk
 obtain ⟨ds,hds⟩:=hd
 have ne5:∀ g t cs2,t≠5→Blk wr g t cs2→Blk (wr.setCell ⟨bs[i].1,k,none⟩ u) g t cs2:=fun g t cs2 ht hg=>hg.far (fun e=>ht (by rw [← (show bs[i].1=g from e)] at hg;exact hg.uniq hds)) u
 have hinc:=List.pairwise_iff_getElem.1 h.inc
 refine ⟨⟨cs,ne5 _ _ _ (by decide) h1,h2,h3⟩,fun j hj hij=>?_,fun g t cs2 ht h5 hg=>?_,below_set (h.lows.2 _ (List.getElem_mem hi)) h.below _ _,h.inc,h.lows⟩
 ·have hd:=h.dat j hj hij
  refine ⟨hd.len,hd.small,fun hp=>?_⟩
  obtain ⟨d,cs2,e,hb,hl,hc⟩:=hd.row hp
  cases e
  have:=hinc i j hi hj (by omega)
  exact ⟨_,cs2,rfl,hb.far (fun e=>by have:bs[i].1=bs[j].1:=e;omega) u,hl,hc⟩
 ·have hw:=h.frame g t cs2 ht h5 hg
  by_cases h5t:t=5
  ·exact hw.far (fun e=>h5 h5t _ (List.getElem_mem hi) (show bs[i].1=g from e).symm) u
  ·exact ne5 _ _ _ h5t hw
theorem Left.wipe {base:Nat} {w wr:World} {G:Nat} {xs:List S39} {bs:List (Nat × Nat)} {i:Nat} (h:Left base w wr G xs bs (xs.length+70)) (hb:bs.length=xs.length+70) (k:Nat) (u:Value):Left base w (wr.setCell ⟨G,k,none⟩ u) G xs bs (xs.length+70):=by
 obtain ⟨cs,h1,h2,h3⟩:=h.blk
 refine ⟨⟨_,h1.set_ k u,by simpa using h2,fun j hj hij=>by omega⟩,fun j hj hij=>by omega,fun g t cs2 ht h5 hg=>?_,below_set h.lows.1 h.below _ _,h.inc,h.lows⟩
 have hw:=h.frame g t cs2 ht h5 hg
 exact hw.far (fun e=>ht (by rw [← (show G=g from e)] at hw;exact hw.uniq h1)) u
end Go.Proofs.Ythmeojeehemlaaa.Mem
end
section
namespace Go.Proofs.Ythmeojeehemlaaa.Mem
open Go.RowKit Go.Proofs.YthmeojeehemlaaaW.PrintWords
open Go.Proofs.Ythmeojeehemlaaa.PM
attribute [local go_sem] isSome_setCell
theorem full_cell {base:Nat} {w:World} {V:Value} {n:Nat} {xs:List S39} {bs:List (Nat × Nat)} (h:w.ownsRow base 37 1 V n (fullCells xs bs n)) (hn:n≤bs.length) (hp:0<n):∃ vg vc,V=.slice (some ⟨vg,0,none⟩) n vc∧n≤vc∧∀ i (hi:i<n),w.cell? ⟨vg,i,none⟩=some (.slice (some ⟨(bs[i]'(by omega)).1,0,none⟩) (2*gLen xs i+70) (bs[i]'(by omega)).2):=by
 rcases h.2 with ⟨_,h0⟩|⟨g,cap,cur,rfl,_,hh,hnc,_,hsz,ht⟩
 ·omega
 ·refine ⟨g,cap,rfl,hnc,fun i hi=>?_⟩
  have e1:(cur.toList.take (n*1))[i]?=some (.slice (some ⟨(bs[i]'(by omega)).1,0,none⟩) (2*gLen xs i+70) (bs[i]'(by omega)).2):=by
   rw [ht]
   unfold fullCells
   rw [List.getElem?_map,List.getElem?_range hi]
   have e:bs.getD i (0,0)=bs[i]'(by omega):=by rw [List.getD_eq_getElem?_getD,List.getElem?_eq_getElem (by omega)];rfl
   rw [Option.map_some,e]
  rw [List.getElem?_take] at e1
  split at e1
  ·rw [Blk.cell hh i];simpa using e1
  ·cases e1
theorem back_row {w0 w wr:World} {G:Nat} {A:Option Addr} {n:Nat} {xs:List S39} {bs:List (Nat × Nat)} {V:Value} {i:Nat} (hC:Kd.C k39 w0 A n xs) (h0:Below w0.heap.size w0 w) (hL:Left w0.heap.size w wr G xs bs i) (hb:bs.length=n+70) (hV:w.ownsRow w0.heap.size 37 1 V n (fullCells xs bs n)) (hi:i<n) (hd:∀ x∈xs,x.f1.length≤1048576) :
  ∃ (f:Int) (m d c2 ci vg vc:Nat) (l:List Int) (ad:Addr) (Ai:Option Addr),A=some ad∧V=.slice (some ⟨vg,0,none⟩) n vc∧n≤vc∧m≤1048576∧(∃ h:i<bs.length,bs[i]=(d,c2)) ∧
   wr.cell? ⟨G,i*2,none⟩=some (.int .u64 f)∧wr.cell? ⟨G,i*2+1,none⟩=some (.slice (some ⟨d,0,none⟩) m c2)∧wr.cell? (ad.add (i*2))=some (.int .u64 f)∧wr.cell? ⟨(ad.add (i*2)).block,(ad.add (i*2)).off+1,none⟩=some (.slice Ai m ci) ∧
   (∀ wr2,Left w0.heap.size w wr2 G xs bs (i+1)→wr2.cell? ⟨vg,i,none⟩=some (.slice (some ⟨d,0,none⟩) (2*m+70) c2))∧Kd.C (Kd.int .u8) wr Ai m l∧m≤ci∧m=l.length∧Dat wr (some ⟨d,0,none⟩) c2 (l ++ spareL m):=by
 have hix:i<xs.length:=by rw [hC.1];exact hi
 have hib:i<bs.length:=by omega
 obtain ⟨ad,Ai,ci,hA,e0,e1,l1,k1⟩:=at_T39 (Kd.C_below hC (h0.trans hL.below)) (i:Int) (by omega) (by omega)
 rw [Int.toNat_natCast,rd39 xs i hix] at e0 e1
 rw [rd39 xs i hix] at l1 k1
 obtain ⟨cs,h1,h2,h3⟩:=hL.blk
 obtain ⟨q0,q1⟩:=h3 i hib (Nat.le_refl _)
 have gf:gFirst xs i=xs[i].f0:=by unfold gFirst;rw [dif_pos hix]
 have gl:gLen xs i=xs[i].f1.length:=by unfold gLen;rw [dif_pos hix]
 have gd:gData xs i=xs[i].f1 ++ spareL xs[i].f1.length:=by unfold gData;rw [dif_pos hix]
 rw [gf] at q0
 rw [gl] at q1
 have hdat:=hL.dat i hib (Nat.le_refl _)
 rw [gd] at hdat
 obtain ⟨vg,vc,hVe,hnv,_⟩:=full_cell hV (by omega) (by omega)
 refine ⟨xs[i].f0,xs[i].f1.length,bs[i].1,bs[i].2,ci,vg,vc,xs[i].f1,ad,Ai,hA,hVe,hnv,hd _ (List.getElem_mem hix),⟨hib,rfl⟩,(h1.cell _).trans q0,(h1.cell _).trans q1,e0,e1,fun wr2 hl2=>?_,k1,l1,rfl,hdat⟩
 have hV2:wr2.ownsRow w0.heap.size 37 1 V n (fullCells xs bs n):=ownsRow_move hV (fun g cs2 hg=>hl2.frame g 37 cs2 (by decide) (by intro h;cases h) hg)
 obtain ⟨vg2,vc2,hVe2,_,hc2⟩:=full_cell hV2 (by omega) (by omega)
 rw [hVe] at hVe2
 injection hVe2 with e1
 injection e1 with e1
 injection e1 with e1
 subst e1
 rw [hc2 i hi,gl]
theorem left_cells {base:Nat} {w wr:World} {G:Nat} {xs:List S39} {bs:List (Nat × Nat)} {i:Nat} (h:Left base w wr G xs bs i) (j:Nat) (hj:j<xs.length+70):∃ v0 v1,wr.cell? ⟨G,j*2,none⟩=some v0∧wr.cell? ⟨G,j*2+1,none⟩=some v1∧wr.frozen? ⟨G,j*2,none⟩=false∧wr.frozen? ⟨G,j*2+1,none⟩=false:=by
 obtain ⟨cs,h1,h2,_⟩:=h.blk
 exact ⟨_,_,(h1.cell _).trans (Array.getElem?_eq_getElem (by omega)),(h1.cell _).trans (Array.getElem?_eq_getElem (by omega)),h1.frozen _,h1.frozen _⟩
theorem back_mark {base:Nat} {w wr:World} {G:Nat} {xs:List S39} {bs:List (Nat × Nat)} {i:Nat} (h:Left base w wr G xs bs i) (hi:i<bs.length) (hx:¬ i<xs.length):∃ d c2,wr.cell? ⟨G,i*2,none⟩=some (.int .u64 (i:Int))∧wr.cell? ⟨G,i*2+1,none⟩=some (.slice (some ⟨d,0,none⟩) 1 c2)∧wr.cell? ⟨d,0,none⟩=some (.int .u8 77):=by
 obtain ⟨cs,h1,h2,h3⟩:=h.blk
 obtain ⟨q0,q1⟩:=h3 i hi (Nat.le_refl _)
 have hd:=h.dat i hi (Nat.le_refl _)
 have gf:gFirst xs i=(i:Int):=by unfold gFirst;rw [dif_neg hx]
 have gl:gLen xs i=1:=by unfold gLen;rw [dif_neg hx]
 have gd:gData xs i=[77]:=by unfold gData;rw [dif_neg hx]
 rw [gf] at q0
 rw [gl] at q1
 rw [gd] at hd
 obtain ⟨d2,ds,e,hb,hl,hc⟩:=hd.row (by decide)
 cases e
 exact ⟨_,_,(h1.cell _).trans q0,(h1.cell _).trans q1,(hb.cell 0).trans (hc 0 (by decide))⟩
theorem back_ (w0 w:World) (G:Nat) (V:Value) (A:Option Addr) (n c:Nat) (xs:List S39) (bs:List (Nat × Nat)) (hC:Kd.C k39 w0 A n xs) (hc:n≤c) (h0:Below w0.heap.size w0 w) (hL:Laid w0.heap.size w G xs bs) (hb:bs.length=n+70) (hV:w.ownsRow w0.heap.size 37 1 V n (fullCells xs bs n)) (hn:n≤1048576) (hd:∀ x∈xs,x.f1.length≤1048576) :
  Calls Try.prog 36 #[.slice (some ⟨G,0,none⟩) (n+70) (n+70),V,.slice A n c] w fun e w'=>e=.returned (.bool true)∧Below w0.heap.size w w'∧∀ g t cs,t≠39→(t=5→∀ b∈bs,g≠b.1)→Blk w g t cs→Blk w' g t cs:=by
 have HC:=Lib.hid hC
 have HN:=Lib.hid hC.1
 have H0:=Lib.hid h0
 have HL:=Lib.hid (Left.start hL)
 have HBS:=Lib.hid hb
 have HV:=Lib.hid hV
 have HD:=Lib.hid hd
 clear hC h0 hL hb hV hd
 go_enter Try.func36,Try.ntmps36
 go_wp2
 go_loopw [7] (fun iV wr=>∃ (i:Nat),i≤n+70∧iV=.int .i64 (i:Int)∧Hid (Left w0.heap.size w wr G xs bs i)) (fun iV _=>n+70 - (RowKit.intOf iV).toNat)
 case atStart=>exact ⟨0,Nat.zero_le _,rfl,HL⟩
 case round =>
  obtain ⟨i,hiN,rfl,hLE⟩:=hrel
  by_cases hlt:i<n+70
  ·by_cases hin:i<n
   ·obtain ⟨f,m,d,c2,ci,vg,vc,l,ad,Ai,rfl,rfl,hnv,hms,hbi,g0,g1,e0,e1,hvc,hk,hmci,hml,hdat⟩:=back_row HC.out H0.out hLE.out HBS.out HV.out hin HD.out
    have HVC:=Lib.hid hvc
    have HBI:=Lib.hid hbi
    have HDAT:=Lib.hid hdat
    have HSZ:=Lib.hid (show w0.heap.size≤wr.heap.size from Nat.le_trans H0.out.size hLE.out.below.size)
    have v0:=HVC.out wr hLE.out.next
    have hin2:(i:Int)<(n:Int):=by omega
    have HKEPT:=Lib.hid (show ∀ W,Below wr.heap.size wr W→Calls Try.prog 68 #[.slice (some ⟨d,0,none⟩) (2*m+70) c2,.slice Ai m ci] W fun e w'=>e=.returned (.bool true)∧Below W.heap.size W w' from fun W hW=>kept_ W d (2*m+70) c2 m ci Ai l hml rfl (by omega) (hdat.below hW) (Kd.C_below hk hW) hmci)
    have HSA:=Lib.hid (show ∀ W,Below wr.heap.size wr W→(fun W=>W.cell? ⟨G,i*2,none⟩=some (.int .u64 f)∧W.cell? ⟨G,i*2+1,none⟩=some (.slice (some ⟨d,0,none⟩) m c2)∧W.cell? (ad.add (i*2))=some (.int .u64 f)∧W.cell? ⟨(ad.add (i*2)).block,(ad.add (i*2)).off+1,none⟩=some (.slice Ai m ci)∧W.cell? ⟨vg,i,none⟩=some (.slice (some ⟨d,0,none⟩) (2*m+70) c2)) W from fun W hW=>⟨(hW.cell (World.block_lt_of_cell? wr _ g0)).trans g0,(hW.cell (World.block_lt_of_cell? wr _ g1)).trans g1,(hW.cell (World.block_lt_of_cell? wr _ e0)).trans e0,(hW.cell (World.block_lt_of_cell? wr _ e1)).trans e1,(hW.cell (World.block_lt_of_cell? wr _ v0)).trans v0⟩)
    have HS0:=Lib.hid (HSA.out wr.drew (below_drew (Below.refl _ _)))
    have HLEN:=Lib.hid hml
    clear hvc hbi hdat hk hml hmci g0 g1 e0 e1 v0
    go_wp2
    go_region_held3 (fun W=>W.cell? ⟨G,i*2,none⟩=some (.int .u64 f)∧W.cell? ⟨G,i*2+1,none⟩=some (.slice (some ⟨d,0,none⟩) m c2)∧W.cell? (ad.add (i*2))=some (.int .u64 f)∧W.cell? ⟨(ad.add (i*2)).block,(ad.add (i*2)).off+1,none⟩=some (.slice Ai m ci)∧W.cell? ⟨vg,i,none⟩=some (.slice (some ⟨d,0,none⟩) (2*m+70) c2)) (first|exact HS0.out|exact HS1.out) (first|(go_at_call 68;refine (HKEPT.out _ (below_drew (Below.refl _ _))).mono ?_;rintro e w2 ⟨rfl,hb2⟩;have HB2:=Lib.hid ((below_drew (Below.refl wr.heap.size wr)).trans hb2);have HS1:=Lib.hid (HSA.out w2 HB2.out);clear hb2))
    have HL2:=Lib.hid ((hLE.out.after HB2.out HSZ.out).next)
    have HBK:=Lib.hid (show ∃ cs:Array Value,Blk w2 d 5 cs∧2*m+70≤cs.size from by
     obtain ⟨d3,cs,e,hb,hl,_⟩:=(HDAT.out.below HB2.out).row (by have:=(spareL_ok m (by omega)).2.1;simp;omega)
     cases e
     refine ⟨cs,hb,?_⟩
     have:=(spareL_ok m (by omega)).2.1
     have h5:=HLEN.out
     simp at hl
     omega)
    go_wp2
    go_loopw [8] (fun kV wr2=>∃ (k:Nat),k≤2*m+70∧kV=.int .i64 (k:Int)∧Hid (Left w0.heap.size w wr2 G xs bs (i+1))∧Hid (∃ cs:Array Value,Blk wr2 d 5 cs∧2*m+70≤cs.size)) (fun kV _=>2*m+70 - (RowKit.intOf kV).toNat)
    case atStart=>exact ⟨0,Nat.zero_le _,rfl,HL2,HBK⟩
    case round =>
     obtain ⟨k,hk,rfl,hLk,hBk⟩:=hrel
     have vk:=HVC.out _ hLk.out
     by_cases hkl:k<2*m+70
     ·obtain ⟨cs,hcs,hsz⟩:=hBk.out
      have ck:=(hcs.cell k).trans (Array.getElem?_eq_getElem (by omega))
      have fk:=hcs.frozen k
      have HCS:=Lib.hid (And.intro hcs hsz)
      obtain ⟨vz,hvz⟩:∃ vz,vz=cs[k]'(by omega):=⟨_,rfl⟩
      rw [← hvz] at ck
      clear hcs hsz hvz hBk
      go_wp2
      go_roundw
      case rel =>
       refine ⟨k+1,by omega,by go_num,Lib.hid ?_,Lib.hid ⟨_,HCS.out.1.set_ k _,by simpa using HCS.out.2⟩⟩
       obtain ⟨hib,hbi⟩:=HBI.out
       have h7:=hLk.out.store hib k (.int .u8 66) (by rw [hbi];exact ⟨_,HCS.out.1⟩)
       rw [hbi] at h7
       exact h7
      case measure=>simp [RowKit.intOf];omega
     ·obtain rfl:k=2*m+70:=by omega
      go_wp2
      go_roundw
      case rel=>exact ⟨i+1,by omega,by go_num,hLk⟩
      case measure=>simp [RowKit.intOf];omega
   ·have k1:IntKind.u64.wrap (i:Int)=(i:Int):=Mem.u64 _ (by omega) (by omega)
    have hge:¬ (i:Int)<(n:Int):=by omega
    have hdn:decide (i<n)=false:=decide_eq_false hin
    obtain ⟨d,c2,g0,g1,p0⟩:=back_mark hLE.out (by rw [HBS.out];exact hlt) (by rw [HN.out];exact hin)
    go_wp2
    go_roundw
    case rel=>exact ⟨i+1,by omega,by go_num,Lib.hid hLE.out.next⟩
    case measure=>simp [RowKit.intOf];omega
  ·obtain rfl:i=n+70:=by omega
   go_wp2
   go_loopw [9] (fun jV wr3=>∃ (j:Nat),j≤n∧jV=.int .i64 (j:Int)∧Hid (Left w0.heap.size w wr3 G xs bs (xs.length+70))) (fun jV _=>n - (RowKit.intOf jV).toNat)
   case atStart=>exact ⟨0,Nat.zero_le _,rfl,Lib.hid (by rw [HN.out];exact hLE.out)⟩
   case round =>
    obtain ⟨j,hj,rfl,hL3⟩:=hrel
    by_cases hjl:j<n
    ·obtain ⟨v0,v1,y0,y1,z0,z1⟩:=left_cells hL3.out j (by rw [HN.out];omega)
     have hjn:j<n+70:=by omega
     have hjI:(j:Int)<(n:Int):=by omega
     have hjI2:(j:Int)<(n:Int)+70:=by omega
     go_wp2
     go_roundw
     case rel=>exact ⟨j+1,by omega,by go_num,Lib.hid ((hL3.out.wipe (i:=0) (by rw [HBS.out,HN.out]) _ _).wipe (i:=0) (by rw [HBS.out,HN.out]) _ _)⟩
     case measure=>simp [RowKit.intOf];omega
    ·obtain rfl:j=n:=by omega
     go_wp2
     go_ret
     exact ⟨rfl,hL3.out.below,hL3.out.frame⟩
end Go.Proofs.Ythmeojeehemlaaa.Mem
end
section
namespace Go.Proofs.Ythmeojeehemlaaa.Mem
open Go.RowKit Go.Proofs.YthmeojeehemlaaaW.PrintWords
open Go.Proofs.Ythmeojeehemlaaa.PM
attribute [local go_sem] isSome_setCell
theorem St.frame {B:Nat} {w w':World} {s:Nat} {rs:List Reg} (h:St B w s rs) (hk:∀ g t cs,t≠39→(t=5→B≤g)→Blk w g t cs→Blk w' g t cs):St B w' s rs:=by
 obtain ⟨P,cap,h1,h2,h3⟩:=h.sp
 refine ⟨⟨P,cap,hk _ _ _ (by decide) (by intro h;cases h) h1,⟨h2.big,h2.len,h2.small,?_,fun r hr=>?_⟩,h3⟩,h.base,h.data,h.apart,h.rising,h.bytes,h.regs⟩
 ·rcases h2.row with hn|⟨p,cs,e,hb,hs,hc⟩
  ·exact .inl hn
  ·exact .inr ⟨p,cs,e,hk _ _ _ (by decide) (by intro h;cases h) hb,hs,hc⟩
 ·have hq:=h2.regs r hr
  refine ⟨hk _ _ _ (by decide) (by intro h;cases h) hq.blk,hq.len,hq.small,hq.first0,hq.first1,fun hp=>?_⟩
  obtain ⟨d,cs,e,hb,hl,hc⟩:=hq.row hp
  exact ⟨d,cs,e,hk _ _ _ (by decide) (fun _=>h.data r hr d e hp) hb,hl,hc⟩
theorem laid_C {base:Nat} {w:World} {G:Nat} {xs:List S39} {bs:List (Nat × Nat)} (h:Laid base w G xs bs) (hb:bs.length=xs.length+70) (hl:xs.length≤1048576):Kd.C k39 w (some ⟨G,0,none⟩) xs.length xs:=by
 obtain ⟨cs,h1,h2,h3⟩:=h.blk
 refine ⟨rfl,by omega,fun hp=>⟨⟨G,0,none⟩,rfl,fun j p hj=>?_⟩⟩
 obtain ⟨hjl,hjp⟩:=List.getElem?_eq_some_iff.1 hj
 obtain ⟨q0,q1⟩:=h3 j (by omega)
 have gf:gFirst xs j=p.f0:=by unfold gFirst;rw [dif_pos hjl,hjp]
 have gl:gLen xs j=p.f1.length:=by unfold gLen;rw [dif_pos hjl,hjp]
 have gd:gData xs j=p.f1 ++ spareL p.f1.length:=by unfold gData;rw [dif_pos hjl,hjp]
 rw [gf] at q0
 rw [gl] at q1
 have hd:=h.dat j (by omega)
 rw [gd] at hd
 have hdl:=hd.len
 simp at hdl
 have hd2:Dat w (some ⟨(bs[j]'(by omega)).1,0,none⟩) (bs[j]'(by omega)).2 p.f1:=by
  refine ⟨by omega,hd.small,fun hp=>?_⟩
  obtain ⟨d,ds,e,hb,hl,hc⟩:=hd.row (by simp;omega)
  simp at hl
  refine ⟨d,ds,e,hb,by omega,fun i hi=>?_⟩
  rw [hc i (by simp;omega),List.getElem_append_left hi]
 refine ⟨[.int .u64 p.f0,.slice (some ⟨(bs[j]'(by omega)).1,0,none⟩) p.f1.length (bs[j]'(by omega)).2],rfl,k39_mk w p hd2.len hd2.C,fun i u hu=>?_⟩
 have ad:(⟨G,0,none⟩:Addr).add (j*k39.sz+i)=⟨G,j*2+i,none⟩:=by
  show (⟨G,0,none⟩:Addr).add (j*2+i)=⟨G,j*2+i,none⟩
  unfold Addr.add;split <;> simp_all
 rw [ad,h1.cell]
 rcases i with _|_|i
 ·rw [Nat.add_zero,q0];simpa using hu
 ·rw [q1];simpa using hu
 ·simp at hu
theorem new3_ (w:World) (A:Option Addr) (n c:Nat) (xs:List S39) (hC:Kd.C k39 w A n xs) (hn:n≤1048576) (hx:∀ y∈xs,Small y) :
  Calls Try.prog 7 #[.slice A n c] w fun e w'=>∃ P0 c0,e=.returned (.tuple #[.pointer P0,.int .i64 c0])∧Below w.heap.size w w'∧((c0=0∧(∀ j (h:j<xs.length),Fine (xs.take j) xs[j])∧∃ s rs,P0=some ⟨s,0,none⟩∧Adds xs rs∧St w.heap.size w' s rs)∨(c0=201∧P0=none∧∃ j,∃ h:j<xs.length,¬ Fine (xs.take j) xs[j])):=by
 refine (new_ w A n c xs hC (fun x hx'=>(hx x hx').1) (by omega)).mono ?_
 rintro e w' (⟨s,rs,rfl,h1,h2,h3⟩|⟨rfl,⟨k,rs,hk,ha,hm⟩,h3⟩)
 ·exact ⟨_,_,rfl,h3,.inl ⟨rfl,adds_prefix h1 (fun y hy=>(hx y hy).1),s,rs,rfl,h1,h2⟩⟩
 ·refine ⟨_,_,rfl,h3,.inr ⟨rfl,rfl,k,hk,fun hf=>?_⟩⟩
  have:=(may_fine ha (fun y hy=>(hx y (List.mem_of_mem_take hy)).1) _ (hx _ (List.getElem_mem hk)).1).2 hf
  rw [hm] at this
  cases this
theorem copy2_ (w:World) (A:Option Addr) (n c:Nat) (xs:List S39) (hC:Kd.C k39 w A n xs) (hc:n≤c) (hl:xs.length≤4398046510976) (hx:∀ x∈xs,x.f1.length≤140737488351232) :
  Calls Try.prog 8 #[.slice A n c] w fun e w'=>∃ A' c',e=.returned (.slice A' n c')∧n≤c'∧Kd.C k39 w' A' n xs∧Below w.heap.size w w':=by
 obtain rfl:=hC.1
 refine (spindlelaw20_CopyRegions.calls (xs.length+1) A c xs xs w hC hc (copy_eq xs hl hx)).mono ?_
 rintro e w' ⟨v,rfl,hs,hb⟩
 obtain ⟨A',c',rfl,h1,h2⟩:=Kd.S_reads hs
 exact ⟨A',c',rfl,h1,h2,hb⟩
end Go.Proofs.Ythmeojeehemlaaa.Mem
end
section
namespace Go.Proofs.Ythmeojeehemlaaa.Mem
open Go.RowKit Go.Proofs.YthmeojeehemlaaaW.PrintWords
open Go.Proofs.Ythmeojeehemlaaa.PM
attribute [local go_sem] isSome_setCell
theorem regions_nil (w:World):Calls Try.prog 22 #[.pointer none] w fun e w'=>e=.returned (.tuple #[.slice none 0 0,.int .i64 1])∧w'=w:=by
 go_enter Try.func22,Try.ntmps22
 go_wp2
 go_ret2
 exact ⟨rfl,rfl⟩
theorem same_ (w:World) (A1 A2:Option Addr) (n m c1 c2:Nat) (ys:List S39) (h1:Kd.C k39 w A1 n ys) (h2:Kd.C k39 w A2 m ys) (l1:n≤c1) (l2:m≤c2) (hl:ys.length≤1048576) :
  Calls Try.prog 52 #[.slice A1 n c1,.slice A2 m c2] w fun e w'=>e=.returned (.bool true)∧Drawn0 w w':=by
 obtain rfl:=h1.1
 obtain rfl:=h2.1
 exact spindlelaw20_SameRegions.calls (ys.length+1) A1 c1 ys A2 c2 ys true w h1 l1 h2 l2 (same_eq ys hl)
theorem act_size (w:World) (o:Obj):w.heap.size≤(w.alloc o).heap.size:=by
 show w.heap.size≤(w.heap.push o).size
 rw [Array.size_push];omega
end Go.Proofs.Ythmeojeehemlaaa.Mem
end
section
namespace Go.Proofs.Ythmeojeehemlaaa.Mem
open Go.RowKit Go.Proofs.YthmeojeehemlaaaW.PrintWords
open Go.Proofs.Ythmeojeehemlaaa.PM
attribute [local go_sem] isSome_setCell
end Go.Proofs.Ythmeojeehemlaaa.Mem
end
end
