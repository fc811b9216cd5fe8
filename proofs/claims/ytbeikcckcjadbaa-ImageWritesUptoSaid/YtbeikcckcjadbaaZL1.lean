/- Parts of the proof, laid together by a program of this session (pack.py): PIx0, PIx1, PIx3, PIx2, PIx4. Of the kit's print what the claim does not use is left out. -/
import Derived.Test.YtbeikcckcjadbaaZL0
import Derived.Test.YtbeikcckcjadbaaProg
import Derived.Below
import Derived.Deep.Draws
import Derived.Deep.AppendLies
import Derived.Maps.AppendAt
import Derived.OwnWalk
import Derived.Laws.BytesArg
import Derived.Laws.MakeOwn
import Derived.Laws.OwnMore
import Derived.Deep.OwnRows
import Derived.Tactics
import Derived.Lib.ConvBytes
import Derived.Laws.Slices
import Derived.WalkKit
import Derived.KernelRfl
import Derived.RowKit3
import Derived.Deep.LoopGhost
import Derived.Deep.QuietTactic
import Derived.BigQuiet
import Derived.WideLaws
import Derived.Deep.DeepCutAuto
import Derived.Deep.CutBlock
import Derived.Deep.RegionHeld3
import Derived.Laws.Rows
import Derived.Lib.AppendStr
import Derived.ArgAppend
import Derived.Laws.IdiomCopy
import Derived.OrdersHeld
import Derived.Laws.BitsLemmas
import Derived.RowKit
set_option linter.unusedVariables false
set_option linter.unusedSimpArgs false
set_option maxRecDepth 100000
set_option maxHeartbeats 16000000
section
namespace Go.Proofs.Ytbeikcckcjadbaa.PI
open Go.RowKit Go.Proofs.YtbeikcckcjadbaaW.PrintWords Go.Proofs.YtbeikcckcjadbaaW.PrintLast Go.Proofs.YtbeikcckcjadbaaW.PrintMore
attribute [local go_sem] isSome_setCell max2_int min2_int max_two min_two max_three min_three max_four min_four
def errW:Option Int→Value
 | none=>.nilIface
 | some c=>.iface 0 (.int .i64 c)
theorem errW_none:errW none=.nilIface:=rfl
theorem errW_some (c:Int):errW (some c)=.iface 0 (.int .i64 c):=rfl
theorem info3:(Try.prog.info? 3).map (fun i=>(i.zero,i.size,i.bytes))=some (some (.int .i64 0),1,8):=by kernel_rfl
theorem info5:(Try.prog.info? 5).map (fun i=>(i.zero,i.size,i.bytes))=some (some (.int .u8 0),1,1):=by kernel_rfl
theorem info9:(Try.prog.info? 9).map (fun i=>(i.zero,i.size,i.bytes))=some (some (.string ⟨#[]⟩),1,16):=by kernel_rfl
theorem info54:(Try.prog.info? 54).map (fun i=>(i.zero,i.size,i.bytes))=some (some (.agg #[(.int .i64 0),(.int .i64 0),(.int .i64 0),(.int .i64 0),(.int .i64 0)]),5,40):=by kernel_rfl
theorem info56:(Try.prog.info? 56).map (fun i=>(i.zero,i.size,i.bytes))=some (some (.agg #[(.string ⟨#[]⟩),(.int .i64 0),(.int .i64 0),(.int .i64 0),(.int .i64 0)]),5,48):=by kernel_rfl
theorem info68:(Try.prog.info? 68).map (fun i=>(i.zero,i.size,i.bytes))=some (some (.agg #[(.string ⟨#[]⟩),(.int .i64 0),(.int .i64 0),(.int .i64 0)]),4,40):=by kernel_rfl
structure S54 where
 f0:Int
 f1:Int
 f2:Int
 f3:Int
 f4:Int
def z54:S54:=⟨(0:Int),(0:Int),(0:Int),(0:Int),(0:Int)⟩
def k54:Kd S54:=Kd.iso (Kd.pair (Kd.int .i64) (Kd.pair (Kd.int .i64) (Kd.pair (Kd.int .i64) (Kd.pair (Kd.int .i64) (Kd.int .i64))))) (fun x:S54=>(x.f0,x.f1,x.f2,x.f3,x.f4))
theorem k54_open {w:World} {x:S54} {cs:List Value} (h:k54.K w x cs):cs=[.int .i64 x.f0,.int .i64 x.f1,.int .i64 x.f2,.int .i64 x.f3,.int .i64 x.f4]:=by
 obtain ⟨_,_,rfl,rfl,⟨_,_,rfl,rfl,⟨_,_,rfl,rfl,⟨_,_,rfl,rfl,rfl⟩⟩⟩⟩:=h
 exact rfl
theorem k54_openM {w:World} {base:Nat} {ok:Nat→Prop} {x:S54} {cs:List Value} (h:k54.M w base ok x cs):cs=[.int .i64 x.f0,.int .i64 x.f1,.int .i64 x.f2,.int .i64 x.f3,.int .i64 x.f4]:=by
 obtain ⟨_,_,rfl,rfl,⟨_,_,rfl,rfl,⟨_,_,rfl,rfl,⟨_,_,rfl,rfl,rfl⟩⟩⟩⟩:=h
 exact rfl
theorem k54_mk (w:World) (x:S54) :k54.K w x [.int .i64 x.f0,.int .i64 x.f1,.int .i64 x.f2,.int .i64 x.f3,.int .i64 x.f4]:=⟨[.int .i64 x.f0],[.int .i64 x.f1,.int .i64 x.f2,.int .i64 x.f3,.int .i64 x.f4],rfl,rfl,⟨[.int .i64 x.f1],[.int .i64 x.f2,.int .i64 x.f3,.int .i64 x.f4],rfl,rfl,⟨[.int .i64 x.f2],[.int .i64 x.f3,.int .i64 x.f4],rfl,rfl,⟨[.int .i64 x.f3],[.int .i64 x.f4],rfl,rfl,rfl⟩⟩⟩⟩
theorem k54_mkM (w:World) (base:Nat) (ok:Nat→Prop) (x:S54) :k54.M w base ok x [.int .i64 x.f0,.int .i64 x.f1,.int .i64 x.f2,.int .i64 x.f3,.int .i64 x.f4]:=⟨[.int .i64 x.f0],[.int .i64 x.f1,.int .i64 x.f2,.int .i64 x.f3,.int .i64 x.f4],rfl,rfl,⟨[.int .i64 x.f1],[.int .i64 x.f2,.int .i64 x.f3,.int .i64 x.f4],rfl,rfl,⟨[.int .i64 x.f2],[.int .i64 x.f3,.int .i64 x.f4],rfl,rfl,⟨[.int .i64 x.f3],[.int .i64 x.f4],rfl,rfl,rfl⟩⟩⟩⟩
def rd_T54 (xs:List S54) (i:Int):S54:=xs.getD i.toNat z54
theorem at_T54 {w:World} {A:Option Addr} {n:Nat} {xs:List S54} (h:Kd.C k54 w A n xs) (i:Int) (h0:0≤i) (h1:i<n):∃ ad ,A=some ad∧w.cell? (ad.add (i.toNat*5))=some (.int .i64 (rd_T54 xs i).f0)∧w.cell? ⟨(ad.add (i.toNat*5)).block,(ad.add (i.toNat*5)).off+1,none⟩=some (.int .i64 (rd_T54 xs i).f1)∧w.cell? ⟨(ad.add (i.toNat*5)).block,(ad.add (i.toNat*5)).off+2,none⟩=some (.int .i64 (rd_T54 xs i).f2)∧w.cell? ⟨(ad.add (i.toNat*5)).block,(ad.add (i.toNat*5)).off+3,none⟩=some (.int .i64 (rd_T54 xs i).f3)∧w.cell? ⟨(ad.add (i.toNat*5)).block,(ad.add (i.toNat*5)).off+4,none⟩=some (.int .i64 (rd_T54 xs i).f4):=by
 obtain ⟨ad,c,e,_,hK,hc0⟩:=Kd.C_get h z54 i h0 h1
 have hc:∀ j u,c[j]?=some u→w.cell? (ad.add (i.toNat*5+j))=some u:=hc0
 obtain rfl:=k54_open hK
 exact ⟨ad,e,hc 0 _ rfl,by rw [← add_field _ _ 1 (by omega)];exact hc 1 _ rfl,by rw [← add_field _ _ 2 (by omega)];exact hc 2 _ rfl,by rw [← add_field _ _ 3 (by omega)];exact hc 3 _ rfl,by rw [← add_field _ _ 4 (by omega)];exact hc 4 _ rfl⟩
structure S68 where
 f0:ByteArray
 f1:Int
 f2:Int
 f3:Int
def z68:S68:=⟨(⟨#[]⟩:ByteArray),(0:Int),(0:Int),(0:Int)⟩
def k68:Kd S68:=Kd.iso (Kd.pair Kd.string (Kd.pair (Kd.int .i64) (Kd.pair (Kd.int .i64) (Kd.int .i64)))) (fun x:S68=>(x.f0,x.f1,x.f2,x.f3))
theorem k68_open {w:World} {x:S68} {cs:List Value} (h:k68.K w x cs):cs=[.string x.f0,.int .i64 x.f1,.int .i64 x.f2,.int .i64 x.f3]:=by
 obtain ⟨_,_,rfl,rfl,⟨_,_,rfl,rfl,⟨_,_,rfl,rfl,rfl⟩⟩⟩:=h
 exact rfl
theorem k68_mk (w:World) (x:S68) :k68.K w x [.string x.f0,.int .i64 x.f1,.int .i64 x.f2,.int .i64 x.f3]:=⟨[.string x.f0],[.int .i64 x.f1,.int .i64 x.f2,.int .i64 x.f3],rfl,rfl,⟨[.int .i64 x.f1],[.int .i64 x.f2,.int .i64 x.f3],rfl,rfl,⟨[.int .i64 x.f2],[.int .i64 x.f3],rfl,rfl,rfl⟩⟩⟩
theorem k68_mkM (w:World) (base:Nat) (ok:Nat→Prop) (x:S68) :k68.M w base ok x [.string x.f0,.int .i64 x.f1,.int .i64 x.f2,.int .i64 x.f3]:=⟨[.string x.f0],[.int .i64 x.f1,.int .i64 x.f2,.int .i64 x.f3],rfl,rfl,⟨[.int .i64 x.f1],[.int .i64 x.f2,.int .i64 x.f3],rfl,rfl,⟨[.int .i64 x.f2],[.int .i64 x.f3],rfl,rfl,rfl⟩⟩⟩
def rd_T68 (xs:List S68) (i:Int):S68:=xs.getD i.toNat z68
theorem at_T68 {w:World} {A:Option Addr} {n:Nat} {xs:List S68} (h:Kd.C k68 w A n xs) (i:Int) (h0:0≤i) (h1:i<n):∃ ad ,A=some ad∧w.cell? (ad.add (i.toNat*4))=some (.string (rd_T68 xs i).f0)∧w.cell? ⟨(ad.add (i.toNat*4)).block,(ad.add (i.toNat*4)).off+1,none⟩=some (.int .i64 (rd_T68 xs i).f1)∧w.cell? ⟨(ad.add (i.toNat*4)).block,(ad.add (i.toNat*4)).off+2,none⟩=some (.int .i64 (rd_T68 xs i).f2)∧w.cell? ⟨(ad.add (i.toNat*4)).block,(ad.add (i.toNat*4)).off+3,none⟩=some (.int .i64 (rd_T68 xs i).f3):=by
 obtain ⟨ad,c,e,_,hK,hc0⟩:=Kd.C_get h z68 i h0 h1
 have hc:∀ j u,c[j]?=some u→w.cell? (ad.add (i.toNat*4+j))=some u:=hc0
 obtain rfl:=k68_open hK
 exact ⟨ad,e,hc 0 _ rfl,by rw [← add_field _ _ 1 (by omega)];exact hc 1 _ rfl,by rw [← add_field _ _ 2 (by omega)];exact hc 2 _ rfl,by rw [← add_field _ _ 3 (by omega)];exact hc 3 _ rfl⟩
structure S56 where
 f0:ByteArray
 f1:Int
 f2:Int
 f3:Int
 f4:Int
def z56:S56:=⟨(⟨#[]⟩:ByteArray),(0:Int),(0:Int),(0:Int),(0:Int)⟩
def k56:Kd S56:=Kd.iso (Kd.pair Kd.string (Kd.pair (Kd.int .i64) (Kd.pair (Kd.int .i64) (Kd.pair (Kd.int .i64) (Kd.int .i64))))) (fun x:S56=>(x.f0,x.f1,x.f2,x.f3,x.f4))
theorem k56_open {w:World} {x:S56} {cs:List Value} (h:k56.K w x cs):cs=[.string x.f0,.int .i64 x.f1,.int .i64 x.f2,.int .i64 x.f3,.int .i64 x.f4]:=by
 obtain ⟨_,_,rfl,rfl,⟨_,_,rfl,rfl,⟨_,_,rfl,rfl,⟨_,_,rfl,rfl,rfl⟩⟩⟩⟩:=h
 exact rfl
theorem k56_openM {w:World} {base:Nat} {ok:Nat→Prop} {x:S56} {cs:List Value} (h:k56.M w base ok x cs):cs=[.string x.f0,.int .i64 x.f1,.int .i64 x.f2,.int .i64 x.f3,.int .i64 x.f4]:=by
 obtain ⟨_,_,rfl,rfl,⟨_,_,rfl,rfl,⟨_,_,rfl,rfl,⟨_,_,rfl,rfl,rfl⟩⟩⟩⟩:=h
 exact rfl
theorem k56_mk (w:World) (x:S56) :k56.K w x [.string x.f0,.int .i64 x.f1,.int .i64 x.f2,.int .i64 x.f3,.int .i64 x.f4]:=⟨[.string x.f0],[.int .i64 x.f1,.int .i64 x.f2,.int .i64 x.f3,.int .i64 x.f4],rfl,rfl,⟨[.int .i64 x.f1],[.int .i64 x.f2,.int .i64 x.f3,.int .i64 x.f4],rfl,rfl,⟨[.int .i64 x.f2],[.int .i64 x.f3,.int .i64 x.f4],rfl,rfl,⟨[.int .i64 x.f3],[.int .i64 x.f4],rfl,rfl,rfl⟩⟩⟩⟩
theorem k56_mkM (w:World) (base:Nat) (ok:Nat→Prop) (x:S56) :k56.M w base ok x [.string x.f0,.int .i64 x.f1,.int .i64 x.f2,.int .i64 x.f3,.int .i64 x.f4]:=⟨[.string x.f0],[.int .i64 x.f1,.int .i64 x.f2,.int .i64 x.f3,.int .i64 x.f4],rfl,rfl,⟨[.int .i64 x.f1],[.int .i64 x.f2,.int .i64 x.f3,.int .i64 x.f4],rfl,rfl,⟨[.int .i64 x.f2],[.int .i64 x.f3,.int .i64 x.f4],rfl,rfl,⟨[.int .i64 x.f3],[.int .i64 x.f4],rfl,rfl,rfl⟩⟩⟩⟩
def rd_T56 (xs:List S56) (i:Int):S56:=xs.getD i.toNat z56
theorem at_T56 {w:World} {A:Option Addr} {n:Nat} {xs:List S56} (h:Kd.C k56 w A n xs) (i:Int) (h0:0≤i) (h1:i<n):∃ ad ,A=some ad∧w.cell? (ad.add (i.toNat*5))=some (.string (rd_T56 xs i).f0)∧w.cell? ⟨(ad.add (i.toNat*5)).block,(ad.add (i.toNat*5)).off+1,none⟩=some (.int .i64 (rd_T56 xs i).f1)∧w.cell? ⟨(ad.add (i.toNat*5)).block,(ad.add (i.toNat*5)).off+2,none⟩=some (.int .i64 (rd_T56 xs i).f2)∧w.cell? ⟨(ad.add (i.toNat*5)).block,(ad.add (i.toNat*5)).off+3,none⟩=some (.int .i64 (rd_T56 xs i).f3)∧w.cell? ⟨(ad.add (i.toNat*5)).block,(ad.add (i.toNat*5)).off+4,none⟩=some (.int .i64 (rd_T56 xs i).f4):=by
 obtain ⟨ad,c,e,_,hK,hc0⟩:=Kd.C_get h z56 i h0 h1
 have hc:∀ j u,c[j]?=some u→w.cell? (ad.add (i.toNat*5+j))=some u:=hc0
 obtain rfl:=k56_open hK
 exact ⟨ad,e,hc 0 _ rfl,by rw [← add_field _ _ 1 (by omega)];exact hc 1 _ rfl,by rw [← add_field _ _ 2 (by omega)];exact hc 2 _ rfl,by rw [← add_field _ _ 3 (by omega)];exact hc 3 _ rfl,by rw [← add_field _ _ 4 (by omega)];exact hc 4 _ rfl⟩
end Go.Proofs.Ytbeikcckcjadbaa.PI
end
section
namespace Go.Proofs.Ytbeikcckcjadbaa.PI
open Go.RowKit Go.Proofs.YtbeikcckcjadbaaW.PrintWords Go.Proofs.YtbeikcckcjadbaaW.PrintLast Go.Proofs.YtbeikcckcjadbaaW.PrintMore
attribute [local go_sem] isSome_setCell max2_int min2_int max_two min_two max_three min_three max_four min_four
theorem eqA54 (d:Nat) (w:World) (x0 y0:Int) (x1 y1:Int) (x2 y2:Int) (x3 y3:Int) (x4 y4:Int) :
  (Op.equalIn (d+2) 54 (.agg #[.int .i64 x0,.int .i64 x1,.int .i64 x2,.int .i64 x3,.int .i64 x4]) (.agg #[.int .i64 y0,.int .i64 y1,.int .i64 y2,.int .i64 y3,.int .i64 y4])).run Try.prog w=.ok (x0 == y0 && (x1 == y1 && (x2 == y2 && (x3 == y3 && (x4 == y4))))) w:=by
 refine eqA_of Try.underlying54 (by kernel_rfl) ?_
 refine eqf_cons (by rfl) (by go_simp;rfl) (by go_simp;rfl) (by go_simp) ?_
 refine eqf_cons (by rfl) (by go_simp;rfl) (by go_simp;rfl) (by go_simp) ?_
 refine eqf_cons (by rfl) (by go_simp;rfl) (by go_simp;rfl) (by go_simp) ?_
 refine eqf_cons (by rfl) (by go_simp;rfl) (by go_simp;rfl) (by go_simp) ?_
 exact eqf_last (by rfl) (by go_simp;rfl) (by go_simp;rfl) (by go_simp)
end Go.Proofs.Ytbeikcckcjadbaa.PI
end
section
namespace Go.Proofs.Ytbeikcckcjadbaa.PI
open Go.RowKit Go.Proofs.YtbeikcckcjadbaaW.PrintWords Go.Proofs.YtbeikcckcjadbaaW.PrintLast Go.Proofs.YtbeikcckcjadbaaW.PrintMore
attribute [local go_sem] isSome_setCell max2_int min2_int max_two min_two max_three min_three max_four min_four
theorem eqA68 (d:Nat) (w:World) (x0 y0:ByteArray) (x1 y1:Int) (x2 y2:Int) (x3 y3:Int) :
  (Op.equalIn (d+2) 68 (.agg #[.string x0,.int .i64 x1,.int .i64 x2,.int .i64 x3]) (.agg #[.string y0,.int .i64 y1,.int .i64 y2,.int .i64 y3])).run Try.prog w=.ok (x0.toList == y0.toList && (x1 == y1 && (x2 == y2 && (x3 == y3)))) w:=by
 refine eqA_of Try.underlying68 (by kernel_rfl) ?_
 refine eqf_cons (by rfl) (by go_simp;rfl) (by go_simp;rfl) (by go_simp) ?_
 refine eqf_cons (by rfl) (by go_simp;rfl) (by go_simp;rfl) (by go_simp) ?_
 refine eqf_cons (by rfl) (by go_simp;rfl) (by go_simp;rfl) (by go_simp) ?_
 exact eqf_last (by rfl) (by go_simp;rfl) (by go_simp;rfl) (by go_simp)
end Go.Proofs.Ytbeikcckcjadbaa.PI
end
section
namespace Go.Proofs.Ytbeikcckcjadbaa.PI
open Go.RowKit Go.Proofs.YtbeikcckcjadbaaW.PrintWords Go.Proofs.YtbeikcckcjadbaaW.PrintLast Go.Proofs.YtbeikcckcjadbaaW.PrintMore
attribute [local go_sem] isSome_setCell max2_int min2_int max_two min_two max_three min_three max_four min_four
theorem eqA56 (d:Nat) (w:World) (x0 y0:ByteArray) (x1 y1:Int) (x2 y2:Int) (x3 y3:Int) (x4 y4:Int) :
  (Op.equalIn (d+2) 56 (.agg #[.string x0,.int .i64 x1,.int .i64 x2,.int .i64 x3,.int .i64 x4]) (.agg #[.string y0,.int .i64 y1,.int .i64 y2,.int .i64 y3,.int .i64 y4])).run Try.prog w=.ok (x0.toList == y0.toList && (x1 == y1 && (x2 == y2 && (x3 == y3 && (x4 == y4))))) w:=by
 refine eqA_of Try.underlying56 (by kernel_rfl) ?_
 refine eqf_cons (by rfl) (by go_simp;rfl) (by go_simp;rfl) (by go_simp) ?_
 refine eqf_cons (by rfl) (by go_simp;rfl) (by go_simp;rfl) (by go_simp) ?_
 refine eqf_cons (by rfl) (by go_simp;rfl) (by go_simp;rfl) (by go_simp) ?_
 refine eqf_cons (by rfl) (by go_simp;rfl) (by go_simp;rfl) (by go_simp) ?_
 exact eqf_last (by rfl) (by go_simp;rfl) (by go_simp;rfl) (by go_simp)
end Go.Proofs.Ytbeikcckcjadbaa.PI
end
section
namespace Go.Proofs.Ytbeikcckcjadbaa.PI
open Go.RowKit Go.Proofs.YtbeikcckcjadbaaW.PrintWords Go.Proofs.YtbeikcckcjadbaaW.PrintLast Go.Proofs.YtbeikcckcjadbaaW.PrintMore
attribute [local go_sem] isSome_setCell max2_int min2_int max_two min_two max_three min_three max_four min_four
def image_slots.f (a0_0:Int) (a0_1:Int) (a0_2:Int) (a0_3:Int) (a0_4:Int):Option (Int):=if a0_0=24 then (some 2) else (some 1)
theorem image_slots.calls (a0_0:Int) (a0_1:Int) (a0_2:Int) (a0_3:Int) (a0_4:Int) (r:Int) (w:World) (h:image_slots.f a0_0 a0_1 a0_2 a0_3 a0_4=some r) :
  Calls Try.prog 73 #[.agg #[.int .i64 a0_0,.int .i64 a0_1,.int .i64 a0_2,.int .i64 a0_3,.int .i64 a0_4]] w fun e w'=>e=.returned (.int .i64 r)∧Below w.heap.size w w':=by
 have hu54:=Try.underlying54
 have HB:=As0.mk (Below.refl w.heap.size w)
 have H:(if a0_0=24 then (some 2) else (some 1))=some r:=h
 clear h
 by_cases c2:a0_0=24
 ·rw [if_pos c2] at H
  have c2b0:(a0_0 == 24)=true:=beq_iff_eq.mpr c2
  have c2b1:(a0_0 != 24)=false:=bne_eq_false_iff_eq.mpr c2
  clear c2
  obtain rfl:=Option.some.inj H
  go_enter Try.func73,Try.ntmps73
  go_wp2_with (first|((with_reducible refine gtD (N:=1) rfl ?_);refine bxE ?hg (N:=1) ?hd (cs:=#[.int .i64 a0_0,.int .i64 a0_1,.int .i64 a0_2,.int .i64 a0_3,.int .i64 a0_4]) (t:=54) ?hr ?_;(case hd=>rfl);(case hg=>rfl);(case hr=>first|(go_simp;done)|(go_simp;rfl));intro gb101 hg w3 hbox hb;have n0_:=As0.mk (bdT (by repeat (first|(with_reducible first|exact HB.out|apply bdA|apply bdN|apply bd1)|exact HB.out)) hb);have n1_:=As0.mk (hbox);have n2_:=As0.mk ((by rw [hg];exact (bdZ (by repeat (first|(with_reducible first|exact HB.out|apply bdA|apply bdN|apply bd1)|exact HB.out))):w.heap.size≤gb101));have n3_:=As0.mk ((by rw [hg];exact (bdZ (by repeat (first|(with_reducible first|exact HB.out|apply bdA|apply bdN|apply bd1)|exact HB.out))):w.heap.size≤gb101));clear HB;have HB:=n0_;have BK101:=n1_;have GW101:=n2_;have GE101:=n3_;clear n0_ n1_ n2_ n3_;clear hb hbox hg;have hcz4_0:w3.cell? ⟨gb101,0,none⟩=some (.int .i64 a0_0):=(bkC BK101.out 0).trans rfl;have hcz4_1:w3.cell? ⟨gb101,1,none⟩=some (.int .i64 a0_1):=(bkC BK101.out 1).trans rfl;have hcz4_2:w3.cell? ⟨gb101,2,none⟩=some (.int .i64 a0_2):=(bkC BK101.out 2).trans rfl;have hcz4_3:w3.cell? ⟨gb101,3,none⟩=some (.int .i64 a0_3):=(bkC BK101.out 3).trans rfl;have hcz4_4:w3.cell? ⟨gb101,4,none⟩=some (.int .i64 a0_4):=(bkC BK101.out 4).trans rfl;have hfz4_0:=bkF BK101.out 0;have hfz4_1:=bkF BK101.out 1;have hfz4_2:=bkF BK101.out 2;have hfz4_3:=bkF BK101.out 3;have hfz4_4:=bkF BK101.out 4))
  go_ret
  exact ⟨by first|rfl|(simp [errW_none,errW_some] <;> rfl)|(simp [*,errW_none,errW_some] <;> rfl),by repeat (first|(with_reducible first|exact HB.out|apply bdA|apply bdN|apply bd1|refine bdS ?_ GE101.out)|exact HB.out)⟩
 ·rw [if_neg c2] at H
  have c2b0:(a0_0 == 24)=false:=beq_eq_false_iff_ne.mpr c2
  have c2b1:(a0_0 != 24)=true:=bne_iff_ne.mpr c2
  obtain rfl:=Option.some.inj H
  go_enter Try.func73,Try.ntmps73
  go_wp2_with (first|((with_reducible refine gtD (N:=1) rfl ?_);refine bxE ?hg (N:=1) ?hd (cs:=#[.int .i64 a0_0,.int .i64 a0_1,.int .i64 a0_2,.int .i64 a0_3,.int .i64 a0_4]) (t:=54) ?hr ?_;(case hd=>rfl);(case hg=>rfl);(case hr=>first|(go_simp;done)|(go_simp;rfl));intro gb101 hg w5 hbox hb;have n0_:=As0.mk (bdT (by repeat (first|(with_reducible first|exact HB.out|apply bdA|apply bdN|apply bd1)|exact HB.out)) hb);have n1_:=As0.mk (hbox);have n2_:=As0.mk ((by rw [hg];exact (bdZ (by repeat (first|(with_reducible first|exact HB.out|apply bdA|apply bdN|apply bd1)|exact HB.out))):w.heap.size≤gb101));have n3_:=As0.mk ((by rw [hg];exact (bdZ (by repeat (first|(with_reducible first|exact HB.out|apply bdA|apply bdN|apply bd1)|exact HB.out))):w.heap.size≤gb101));clear HB;have HB:=n0_;have BK101:=n1_;have GW101:=n2_;have GE101:=n3_;clear n0_ n1_ n2_ n3_;clear hb hbox hg;have hcz6_0:w5.cell? ⟨gb101,0,none⟩=some (.int .i64 a0_0):=(bkC BK101.out 0).trans rfl;have hcz6_1:w5.cell? ⟨gb101,1,none⟩=some (.int .i64 a0_1):=(bkC BK101.out 1).trans rfl;have hcz6_2:w5.cell? ⟨gb101,2,none⟩=some (.int .i64 a0_2):=(bkC BK101.out 2).trans rfl;have hcz6_3:w5.cell? ⟨gb101,3,none⟩=some (.int .i64 a0_3):=(bkC BK101.out 3).trans rfl;have hcz6_4:w5.cell? ⟨gb101,4,none⟩=some (.int .i64 a0_4):=(bkC BK101.out 4).trans rfl;have hfz6_0:=bkF BK101.out 0;have hfz6_1:=bkF BK101.out 1;have hfz6_2:=bkF BK101.out 2;have hfz6_3:=bkF BK101.out 3;have hfz6_4:=bkF BK101.out 4))
  go_ret
  exact ⟨by first|rfl|(simp [errW_none,errW_some] <;> rfl)|(simp [*,errW_none,errW_some] <;> rfl),by repeat (first|(with_reducible first|exact HB.out|apply bdA|apply bdN|apply bd1|refine bdS ?_ GE101.out)|exact HB.out)⟩
def image_length.l0:Nat→Int→List (S54)→Int→Int→Option (Int)
 | 0,_,_,_,_=>none
 | k+1,x3,x6,x7,x8=>if x8<x7 then (if 0≤x8 then (if x8<(x6.length:Int) then ((image_slots.f ((rd_T54 x6 x8).f0) ((rd_T54 x6 x8).f1) ((rd_T54 x6 x8).f2) ((rd_T54 x6 x8).f3) ((rd_T54 x6 x8).f4)).bind fun t104=>(image_length.l0 k (wrap64 (x3+t104)) x6 x7 (wrap64 (x8+1)))) else (none)) else (none)) else (some x3)
def image_length.f (k:Nat) (l0:List (S54)):Option (Int):=image_length.l0 k 0 l0 (l0.length:Int) 0
theorem image_length.calls (k:Nat) (A0:Option Addr) (c0:Nat) (l0:List (S54)) (r:Int) (w:World) (hr0:Kd.C k54 w A0 l0.length l0) (hc0:l0.length≤c0) (h:image_length.f k l0=some r) :
  Calls Try.prog 37 #[.slice A0 l0.length c0] w fun e w'=>e=.returned (.int .i64 r)∧Below w.heap.size w w':=by
 have hu54:=Try.underlying54
 have HR0:=As0.mk hr0
 have HC0:=As0.mk hc0
 clear hr0 hc0
 have HB:=As0.mk (Below.refl w.heap.size w)
 have H:(image_length.l0 k 0 l0 (l0.length:Int) 0)=some r:=h
 clear h
 have H':=As0.mk H
 clear H
 go_enter Try.func37,Try.ntmps37
 go_wp2
 go_loopg [3,8] k (fun kq v3 v8 w'=>∃ (x3_1:Int) (x8_1:Int),v3=.int .i64 x3_1∧v8=.int .i64 x8_1∧As0 (image_length.l0 kq x3_1 l0 (l0.length:Int) x8_1=some r)∧As0 (kq≤k)∧As0 (Below w.heap.size w w'))
 case atStart=>exact ⟨(0),(0),(by first|rfl|(simp;done)|(simp [*];done)),(by first|rfl|(simp;done)|(simp [*];done)),H',⟨Nat.le_refl _⟩,⟨by repeat (first|(with_reducible first|exact HB.out|apply bdA|apply bdN|apply bd1)|exact HB.out)⟩⟩
 case round =>
  clear H'
  obtain ⟨x3_1,x8_1,rfl,rfl,HA,HK1,HB⟩:=hrel
  cases gk with
  | zero=>exact absurd HA.out (by simp [image_length.l0])
  | succ k1 =>
   have H:=HA.out
   clear HA
   simp only [image_length.l0] at H
   by_cases c2:x8_1<(l0.length:Int)
   ·rw [if_pos c2] at H
    have c2b0:decide (x8_1<(l0.length:Int))=true:=decide_eq_true c2
    clear c2
    by_cases c3:0≤x8_1
    ·rw [if_pos c3] at H
     have c3b0:decide (0≤x8_1)=true:=decide_eq_true c3
     clear c3
     by_cases c4:x8_1<(l0.length:Int)
     ·rw [if_pos c4] at H
      have c4b0:decide (x8_1<(l0.length:Int))=true:=decide_eq_true c4
      clear c4
      replace H:=Option.bind_eq_some_iff.mp H
      obtain ⟨t104,A50,H⟩:=H
      replace H:(image_length.l0 k1 (wrap64 (x3_1+t104)) l0 (l0.length:Int) (wrap64 (x8_1+1)))=some r:=H
      have A5:=As0.mk A50
      clear A50
      have H':=As0.mk H
      clear H
      have p102:0≤(x8_1:Int):=of_decide_eq_true (by first|(with_reducible assumption)|assumption)
      have q102:x8_1<(l0.length:Int):=of_decide_eq_true (by first|(with_reducible assumption)|assumption)
      obtain ⟨ad102,e102,hx102_0,hx102_1,hx102_2,hx102_3,hx102_4⟩:=at_T54 HR0.out x8_1 p102 q102
      cases e102
      replace hx102_0:=(HB.out.cell (World.block_lt_of_cell? w _ hx102_0)).trans hx102_0
      replace hx102_1:=(HB.out.cell (World.block_lt_of_cell? w _ hx102_1)).trans hx102_1
      replace hx102_2:=(HB.out.cell (World.block_lt_of_cell? w _ hx102_2)).trans hx102_2
      replace hx102_3:=(HB.out.cell (World.block_lt_of_cell? w _ hx102_3)).trans hx102_3
      replace hx102_4:=(HB.out.cell (World.block_lt_of_cell? w _ hx102_4)).trans hx102_4
      replace p102:=eq_true p102
      replace q102:=eq_true q102
      go_wp2_with (first|((with_reducible refine gtD (N:=5) rfl ?_);refine bxE ?hg (N:=5) ?hd (cs:=#[.int .i64 0,.int .i64 0,.int .i64 0,.int .i64 0,.int .i64 0]) (t:=54) ?hr ?_;(case hd=>rfl);(case hg=>rfl);(case hr=>first|(go_simp;done)|(go_simp;rfl));intro gb103 hg w6 hbox hb;have n0_:=As0.mk (bdT (by repeat (first|(with_reducible first|exact HB.out|apply bdA|apply bdN|apply bd1)|exact HB.out)) hb);have n1_:=As0.mk (hbox);have n2_:=As0.mk ((by rw [hg];exact (bdZ (by repeat (first|(with_reducible first|exact HB.out|apply bdA|apply bdN|apply bd1)|exact HB.out))):w.heap.size≤gb103));have n3_:=As0.mk ((by rw [hg];exact (bdZ (by repeat (first|(with_reducible first|exact HB.out|apply bdA|apply bdN|apply bd1)|exact HB.out))):w.heap.size≤gb103));clear HB;have HB:=n0_;have BK103:=n1_;have GW103:=n2_;have GE103:=n3_;clear n0_ n1_ n2_ n3_;clear hb hbox hg;have hcz7_0:w6.cell? ⟨gb103,0,none⟩=some (.int .i64 0):=(bkC BK103.out 0).trans rfl;have hcz7_1:w6.cell? ⟨gb103,1,none⟩=some (.int .i64 0):=(bkC BK103.out 1).trans rfl;have hcz7_2:w6.cell? ⟨gb103,2,none⟩=some (.int .i64 0):=(bkC BK103.out 2).trans rfl;have hcz7_3:w6.cell? ⟨gb103,3,none⟩=some (.int .i64 0):=(bkC BK103.out 3).trans rfl;have hcz7_4:w6.cell? ⟨gb103,4,none⟩=some (.int .i64 0):=(bkC BK103.out 4).trans rfl;have hfz7_0:=bkF BK103.out 0;have hfz7_1:=bkF BK103.out 1;have hfz7_2:=bkF BK103.out 2;have hfz7_3:=bkF BK103.out 3;have hfz7_4:=bkF BK103.out 4)|((with_reducible refine gate_callee (f:=73) rfl ?_);refine goesL_ (some 14) rfl rfl Try.func73 (by kernel_rfl) rfl #[.agg #[.int .i64 ((rd_T54 l0 x8_1).f0),.int .i64 ((rd_T54 l0 x8_1).f1),.int .i64 ((rd_T54 l0 x8_1).f2),.int .i64 ((rd_T54 l0 x8_1).f3),.int .i64 ((rd_T54 l0 x8_1).f4)]] rfl (by (try simp only [List.map_toArray,List.map_cons,List.map_nil]);first|done|rfl|(simp only [List.length_drop,List.length_take];rfl)) ?_;(with_reducible refine (image_slots.calls ((rd_T54 l0 x8_1).f0) ((rd_T54 l0 x8_1).f1) ((rd_T54 l0 x8_1).f2) ((rd_T54 l0 x8_1).f3) ((rd_T54 l0 x8_1).f4) t104 _ A5.out).mono ?_);rintro e w8 ⟨rfl,hb⟩;refine ⟨_,rfl,?_⟩;have n0_:=As0.mk (bkB (g:=gb103) (o:=.cells #[.int .i64 ((rd_T54 l0 x8_1).f0),.int .i64 ((rd_T54 l0 x8_1).f1),.int .i64 ((rd_T54 l0 x8_1).f2),.int .i64 ((rd_T54 l0 x8_1).f3),.int .i64 ((rd_T54 l0 x8_1).f4)] 54 (0,0)) (by (with_reducible repeat (first|refine bkN ?_ _|refine bkD ?_|refine bkA ?_ _));refine bkP (cs:=#[.int .i64 ((rd_T54 l0 x8_1).f0),.int .i64 ((rd_T54 l0 x8_1).f1),.int .i64 ((rd_T54 l0 x8_1).f2),.int .i64 ((rd_T54 l0 x8_1).f3),.int .i64 0]) ?_ 4 _ rfl;(with_reducible repeat (first|refine bkN ?_ _|refine bkD ?_|refine bkA ?_ _));refine bkP (cs:=#[.int .i64 ((rd_T54 l0 x8_1).f0),.int .i64 ((rd_T54 l0 x8_1).f1),.int .i64 ((rd_T54 l0 x8_1).f2),.int .i64 0,.int .i64 0]) ?_ 3 _ rfl;(with_reducible repeat (first|refine bkN ?_ _|refine bkD ?_|refine bkA ?_ _));refine bkP (cs:=#[.int .i64 ((rd_T54 l0 x8_1).f0),.int .i64 ((rd_T54 l0 x8_1).f1),.int .i64 0,.int .i64 0,.int .i64 0]) ?_ 2 _ rfl;(with_reducible repeat (first|refine bkN ?_ _|refine bkD ?_|refine bkA ?_ _));refine bkP (cs:=#[.int .i64 ((rd_T54 l0 x8_1).f0),.int .i64 0,.int .i64 0,.int .i64 0,.int .i64 0]) ?_ 1 _ rfl;(with_reducible repeat (first|refine bkN ?_ _|refine bkD ?_|refine bkA ?_ _));refine bkP (cs:=#[.int .i64 0,.int .i64 0,.int .i64 0,.int .i64 0,.int .i64 0]) ?_ 0 _ rfl;(with_reducible repeat (first|refine bkN ?_ _|refine bkD ?_|refine bkA ?_ _));exact BK103.out) hb);have n1_:=As0.mk (bdT (by repeat (first|(with_reducible first|exact HB.out|apply bdA|apply bdN|apply bd1|refine bdS ?_ GE103.out)|exact HB.out)) hb);clear BK103;clear HB;have BK103:=n0_;have HB:=n1_;clear n0_ n1_;(try clear hb);(try clear hb2);(try clear hk);(try clear hi)))
      go_roundg k1
      case measure=>have:=HK1.out;omega
      case rel=>exact ⟨(wrap64 (x3_1+t104)),(wrap64 (x8_1+1)),(by first|rfl|(simp;done)|(simp [*];done)),(by first|rfl|(simp;done)|(simp [*];done)),H',⟨by have:=HK1.out;omega⟩,⟨by repeat (first|(with_reducible first|exact HB.out|apply bdA|apply bdN|apply bd1|refine bdS ?_ GE103.out)|exact HB.out)⟩⟩
     ·rw [if_neg c4] at H
      exact absurd H (by simp)
    ·rw [if_neg c3] at H
     exact absurd H (by simp)
   ·rw [if_neg c2] at H
    have c2b0:decide (x8_1<(l0.length:Int))=false:=decide_eq_false c2
    clear c2
    obtain rfl:=Option.some.inj H
    go_wp2
    go_ret
    exact ⟨by first|rfl|(simp [errW_none,errW_some] <;> rfl)|(simp [*,errW_none,errW_some] <;> rfl),by repeat (first|(with_reducible first|exact HB.out|apply bdA|apply bdN|apply bd1)|exact HB.out)⟩
def image_many.f (k:Nat) (l0_0:List (S54)) (l0_1:List (S68)) (l0_2:List (S56)) (a0_3:Int):Option (Int × Bool):=(image_length.f k l0_0).bind fun t106=>(if t106 > 1048576 then (some (0,true)) else (if (l0_1.length:Int) > 4096 then (some (1,true)) else (if (l0_2.length:Int) > 1024 then (some (2,true)) else (some (0,false)))))
theorem image_many.calls (k:Nat) (A0_0:Option Addr) (c0_0:Nat) (l0_0:List (S54)) (A0_1:Option Addr) (c0_1:Nat) (l0_1:List (S68)) (A0_2:Option Addr) (c0_2:Nat) (l0_2:List (S56)) (a0_3:Int) (r1:Int) (r2:Bool) (w:World) (hr0_0:Kd.C k54 w A0_0 l0_0.length l0_0) (hc0_0:l0_0.length≤c0_0) (hr0_1:Kd.C k68 w A0_1 l0_1.length l0_1) (hc0_1:l0_1.length≤c0_1) (hr0_2:Kd.C k56 w A0_2 l0_2.length l0_2) (hc0_2:l0_2.length≤c0_2) (h:image_many.f k l0_0 l0_1 l0_2 a0_3=some (r1,r2)) :
  Calls Try.prog 29 #[.agg #[.slice A0_0 l0_0.length c0_0,.slice A0_1 l0_1.length c0_1,.slice A0_2 l0_2.length c0_2,.int .i64 a0_3]] w fun e w'=>e=.returned (.tuple #[.int .i64 r1,.bool r2])∧Below w.heap.size w w':=by
 have hu26:=Try.underlying26
 have HR0_0:=As0.mk hr0_0
 have HC0_0:=As0.mk hc0_0
 clear hr0_0 hc0_0
 have HR0_1:=As0.mk hr0_1
 have HC0_1:=As0.mk hc0_1
 clear hr0_1 hc0_1
 have HR0_2:=As0.mk hr0_2
 have HC0_2:=As0.mk hc0_2
 clear hr0_2 hc0_2
 have HB:=As0.mk (Below.refl w.heap.size w)
 have H:((image_length.f k l0_0).bind fun t106=>(if t106 > 1048576 then (some (0,true)) else (if (l0_1.length:Int) > 4096 then (some (1,true)) else (if (l0_2.length:Int) > 1024 then (some (2,true)) else (some (0,false))))))=some (r1,r2):=h
 clear h
 replace H:=Option.bind_eq_some_iff.mp H
 obtain ⟨t106,A20,H⟩:=H
 replace H:(if t106 > 1048576 then (some (0,true)) else (if (l0_1.length:Int) > 4096 then (some (1,true)) else (if (l0_2.length:Int) > 1024 then (some (2,true)) else (some (0,false)))))=some (r1,r2):=H
 have A2:=As0.mk A20
 clear A20
 by_cases c3:t106 > 1048576
 ·rw [if_pos c3] at H
  have c3b0:decide (1048576<t106)=true:=decide_eq_true c3
  clear c3
  simp only [Option.some.injEq,Prod.mk.injEq] at H
  obtain ⟨rfl,rfl⟩:=H
  go_enter Try.func29,Try.ntmps29
  go_wp2_with (first|((with_reducible refine gtD (N:=1) rfl ?_);refine bxE ?hg (N:=1) ?hd (cs:=#[.slice A0_0 l0_0.length c0_0,.slice A0_1 l0_1.length c0_1,.slice A0_2 l0_2.length c0_2,.int .i64 a0_3]) (t:=26) ?hr ?_;(case hd=>rfl);(case hg=>rfl);(case hr=>first|(go_simp;done)|(go_simp;rfl));intro gb105 hg w4 hbox hb;have n0_:=As0.mk (bdT (by repeat (first|(with_reducible first|exact HB.out|apply bdA|apply bdN|apply bd1)|exact HB.out)) hb);have n1_:=As0.mk (hbox);have n2_:=As0.mk ((by rw [hg];exact (bdZ (by repeat (first|(with_reducible first|exact HB.out|apply bdA|apply bdN|apply bd1)|exact HB.out))):w.heap.size≤gb105));have n3_:=As0.mk ((by rw [hg];exact (bdZ (by repeat (first|(with_reducible first|exact HB.out|apply bdA|apply bdN|apply bd1)|exact HB.out))):w.heap.size≤gb105));clear HB;have HB:=n0_;have BK105:=n1_;have GW105:=n2_;have GE105:=n3_;clear n0_ n1_ n2_ n3_;clear hb hbox hg;have hcz5_0:w4.cell? ⟨gb105,0,none⟩=some (.slice A0_0 l0_0.length c0_0):=(bkC BK105.out 0).trans rfl;have hcz5_1:w4.cell? ⟨gb105,1,none⟩=some (.slice A0_1 l0_1.length c0_1):=(bkC BK105.out 1).trans rfl;have hcz5_2:w4.cell? ⟨gb105,2,none⟩=some (.slice A0_2 l0_2.length c0_2):=(bkC BK105.out 2).trans rfl;have hcz5_3:w4.cell? ⟨gb105,3,none⟩=some (.int .i64 a0_3):=(bkC BK105.out 3).trans rfl;have hfz5_0:=bkF BK105.out 0;have hfz5_1:=bkF BK105.out 1;have hfz5_2:=bkF BK105.out 2;have hfz5_3:=bkF BK105.out 3)|((with_reducible refine gate_callee (f:=37) rfl ?_);refine goesL_ (some 7) rfl rfl Try.func37 (by kernel_rfl) rfl #[.slice A0_0 l0_0.length c0_0] rfl (by (try simp only [List.map_toArray,List.map_cons,List.map_nil]);first|done|rfl|(simp only [List.length_drop,List.length_take];rfl)) ?_;(with_reducible refine (image_length.calls k _ _ l0_0 t106 _ ?side1 ?side2 A2.out).mono ?_);(case side1=>repeat (first|exact (Kd.CbW HR0_0.out HB.out)|(with_reducible refine Kd.C_alloc ?_ _)|(with_reducible refine Kd.C_drewN ?_ _)|(with_reducible refine Kd.C_drew ?_)));(case side2=>exact HC0_0.out);rintro e w6 ⟨rfl,hb⟩;refine ⟨_,rfl,?_⟩;have n0_:=As0.mk (bkB (g:=gb105) (o:=.cells #[.slice A0_0 l0_0.length c0_0,.slice A0_1 l0_1.length c0_1,.slice A0_2 l0_2.length c0_2,.int .i64 a0_3] 26 (0,0)) (by (with_reducible repeat (first|refine bkN ?_ _|refine bkD ?_|refine bkA ?_ _));exact BK105.out) hb);have n1_:=As0.mk (bdT (by repeat (first|(with_reducible first|exact HB.out|apply bdA|apply bdN|apply bd1|refine bdS ?_ GE105.out)|exact HB.out)) hb);clear BK105;clear HB;have BK105:=n0_;have HB:=n1_;clear n0_ n1_;(try clear hb);(try clear hb2);(try clear hk);(try clear hi)))
  go_ret2
  exact ⟨by first|rfl|(simp [errW_none,errW_some] <;> rfl)|(simp [*,errW_none,errW_some] <;> rfl),by repeat (first|(with_reducible first|exact HB.out|apply bdA|apply bdN|apply bd1|refine bdS ?_ GE105.out)|exact HB.out)⟩
 ·rw [if_neg c3] at H
  have c3b0:decide (1048576<t106)=false:=decide_eq_false c3
  clear c3
  by_cases c7:(l0_1.length:Int) > 4096
  ·rw [if_pos c7] at H
   have c7b0:decide (4096<(l0_1.length:Int))=true:=decide_eq_true c7
   have c7b1:decide (4096<l0_1.length)=true:=decide_eq_true (by omega)
   clear c7
   simp only [Option.some.injEq,Prod.mk.injEq] at H
   obtain ⟨rfl,rfl⟩:=H
   go_enter Try.func29,Try.ntmps29
   go_wp2_with (first|((with_reducible refine gtD (N:=1) rfl ?_);refine bxE ?hg (N:=1) ?hd (cs:=#[.slice A0_0 l0_0.length c0_0,.slice A0_1 l0_1.length c0_1,.slice A0_2 l0_2.length c0_2,.int .i64 a0_3]) (t:=26) ?hr ?_;(case hd=>rfl);(case hg=>rfl);(case hr=>first|(go_simp;done)|(go_simp;rfl));intro gb105 hg w8 hbox hb;have n0_:=As0.mk (bdT (by repeat (first|(with_reducible first|exact HB.out|apply bdA|apply bdN|apply bd1)|exact HB.out)) hb);have n1_:=As0.mk (hbox);have n2_:=As0.mk ((by rw [hg];exact (bdZ (by repeat (first|(with_reducible first|exact HB.out|apply bdA|apply bdN|apply bd1)|exact HB.out))):w.heap.size≤gb105));have n3_:=As0.mk ((by rw [hg];exact (bdZ (by repeat (first|(with_reducible first|exact HB.out|apply bdA|apply bdN|apply bd1)|exact HB.out))):w.heap.size≤gb105));clear HB;have HB:=n0_;have BK105:=n1_;have GW105:=n2_;have GE105:=n3_;clear n0_ n1_ n2_ n3_;clear hb hbox hg;have hcz9_0:w8.cell? ⟨gb105,0,none⟩=some (.slice A0_0 l0_0.length c0_0):=(bkC BK105.out 0).trans rfl;have hcz9_1:w8.cell? ⟨gb105,1,none⟩=some (.slice A0_1 l0_1.length c0_1):=(bkC BK105.out 1).trans rfl;have hcz9_2:w8.cell? ⟨gb105,2,none⟩=some (.slice A0_2 l0_2.length c0_2):=(bkC BK105.out 2).trans rfl;have hcz9_3:w8.cell? ⟨gb105,3,none⟩=some (.int .i64 a0_3):=(bkC BK105.out 3).trans rfl;have hfz9_0:=bkF BK105.out 0;have hfz9_1:=bkF BK105.out 1;have hfz9_2:=bkF BK105.out 2;have hfz9_3:=bkF BK105.out 3)|((with_reducible refine gate_callee (f:=37) rfl ?_);refine goesL_ (some 7) rfl rfl Try.func37 (by kernel_rfl) rfl #[.slice A0_0 l0_0.length c0_0] rfl (by (try simp only [List.map_toArray,List.map_cons,List.map_nil]);first|done|rfl|(simp only [List.length_drop,List.length_take];rfl)) ?_;(with_reducible refine (image_length.calls k _ _ l0_0 t106 _ ?side1 ?side2 A2.out).mono ?_);(case side1=>repeat (first|exact (Kd.CbW HR0_0.out HB.out)|(with_reducible refine Kd.C_alloc ?_ _)|(with_reducible refine Kd.C_drewN ?_ _)|(with_reducible refine Kd.C_drew ?_)));(case side2=>exact HC0_0.out);rintro e w10 ⟨rfl,hb⟩;refine ⟨_,rfl,?_⟩;have n0_:=As0.mk (bkB (g:=gb105) (o:=.cells #[.slice A0_0 l0_0.length c0_0,.slice A0_1 l0_1.length c0_1,.slice A0_2 l0_2.length c0_2,.int .i64 a0_3] 26 (0,0)) (by (with_reducible repeat (first|refine bkN ?_ _|refine bkD ?_|refine bkA ?_ _));exact BK105.out) hb);have n1_:=As0.mk (bdT (by repeat (first|(with_reducible first|exact HB.out|apply bdA|apply bdN|apply bd1|refine bdS ?_ GE105.out)|exact HB.out)) hb);clear BK105;clear HB;have BK105:=n0_;have HB:=n1_;clear n0_ n1_;(try clear hb);(try clear hb2);(try clear hk);(try clear hi);have hcz11_0:w10.cell? ⟨gb105,0,none⟩=some (.slice A0_0 l0_0.length c0_0):=(bkC BK105.out 0).trans rfl;have hcz11_1:w10.cell? ⟨gb105,1,none⟩=some (.slice A0_1 l0_1.length c0_1):=(bkC BK105.out 1).trans rfl;have hcz11_2:w10.cell? ⟨gb105,2,none⟩=some (.slice A0_2 l0_2.length c0_2):=(bkC BK105.out 2).trans rfl;have hcz11_3:w10.cell? ⟨gb105,3,none⟩=some (.int .i64 a0_3):=(bkC BK105.out 3).trans rfl;have hfz11_0:=bkF BK105.out 0;have hfz11_1:=bkF BK105.out 1;have hfz11_2:=bkF BK105.out 2;have hfz11_3:=bkF BK105.out 3))
   go_ret2
   exact ⟨by first|rfl|(simp [errW_none,errW_some] <;> rfl)|(simp [*,errW_none,errW_some] <;> rfl),by repeat (first|(with_reducible first|exact HB.out|apply bdA|apply bdN|apply bd1|refine bdS ?_ GE105.out)|exact HB.out)⟩
  ·rw [if_neg c7] at H
   have c7b0:decide (4096<(l0_1.length:Int))=false:=decide_eq_false c7
   have c7b1:decide (4096<l0_1.length)=false:=decide_eq_false (by omega)
   clear c7
   by_cases c12:(l0_2.length:Int) > 1024
   ·rw [if_pos c12] at H
    have c12b0:decide (1024<(l0_2.length:Int))=true:=decide_eq_true c12
    have c12b1:decide (1024<l0_2.length)=true:=decide_eq_true (by omega)
    clear c12
    simp only [Option.some.injEq,Prod.mk.injEq] at H
    obtain ⟨rfl,rfl⟩:=H
    go_enter Try.func29,Try.ntmps29
    go_wp2_with (first|((with_reducible refine gtD (N:=1) rfl ?_);refine bxE ?hg (N:=1) ?hd (cs:=#[.slice A0_0 l0_0.length c0_0,.slice A0_1 l0_1.length c0_1,.slice A0_2 l0_2.length c0_2,.int .i64 a0_3]) (t:=26) ?hr ?_;(case hd=>rfl);(case hg=>rfl);(case hr=>first|(go_simp;done)|(go_simp;rfl));intro gb105 hg w13 hbox hb;have n0_:=As0.mk (bdT (by repeat (first|(with_reducible first|exact HB.out|apply bdA|apply bdN|apply bd1)|exact HB.out)) hb);have n1_:=As0.mk (hbox);have n2_:=As0.mk ((by rw [hg];exact (bdZ (by repeat (first|(with_reducible first|exact HB.out|apply bdA|apply bdN|apply bd1)|exact HB.out))):w.heap.size≤gb105));have n3_:=As0.mk ((by rw [hg];exact (bdZ (by repeat (first|(with_reducible first|exact HB.out|apply bdA|apply bdN|apply bd1)|exact HB.out))):w.heap.size≤gb105));clear HB;have HB:=n0_;have BK105:=n1_;have GW105:=n2_;have GE105:=n3_;clear n0_ n1_ n2_ n3_;clear hb hbox hg;have hcz14_0:w13.cell? ⟨gb105,0,none⟩=some (.slice A0_0 l0_0.length c0_0):=(bkC BK105.out 0).trans rfl;have hcz14_1:w13.cell? ⟨gb105,1,none⟩=some (.slice A0_1 l0_1.length c0_1):=(bkC BK105.out 1).trans rfl;have hcz14_2:w13.cell? ⟨gb105,2,none⟩=some (.slice A0_2 l0_2.length c0_2):=(bkC BK105.out 2).trans rfl;have hcz14_3:w13.cell? ⟨gb105,3,none⟩=some (.int .i64 a0_3):=(bkC BK105.out 3).trans rfl;have hfz14_0:=bkF BK105.out 0;have hfz14_1:=bkF BK105.out 1;have hfz14_2:=bkF BK105.out 2;have hfz14_3:=bkF BK105.out 3)|((with_reducible refine gate_callee (f:=37) rfl ?_);refine goesL_ (some 7) rfl rfl Try.func37 (by kernel_rfl) rfl #[.slice A0_0 l0_0.length c0_0] rfl (by (try simp only [List.map_toArray,List.map_cons,List.map_nil]);first|done|rfl|(simp only [List.length_drop,List.length_take];rfl)) ?_;(with_reducible refine (image_length.calls k _ _ l0_0 t106 _ ?side1 ?side2 A2.out).mono ?_);(case side1=>repeat (first|exact (Kd.CbW HR0_0.out HB.out)|(with_reducible refine Kd.C_alloc ?_ _)|(with_reducible refine Kd.C_drewN ?_ _)|(with_reducible refine Kd.C_drew ?_)));(case side2=>exact HC0_0.out);rintro e w15 ⟨rfl,hb⟩;refine ⟨_,rfl,?_⟩;have n0_:=As0.mk (bkB (g:=gb105) (o:=.cells #[.slice A0_0 l0_0.length c0_0,.slice A0_1 l0_1.length c0_1,.slice A0_2 l0_2.length c0_2,.int .i64 a0_3] 26 (0,0)) (by (with_reducible repeat (first|refine bkN ?_ _|refine bkD ?_|refine bkA ?_ _));exact BK105.out) hb);have n1_:=As0.mk (bdT (by repeat (first|(with_reducible first|exact HB.out|apply bdA|apply bdN|apply bd1|refine bdS ?_ GE105.out)|exact HB.out)) hb);clear BK105;clear HB;have BK105:=n0_;have HB:=n1_;clear n0_ n1_;(try clear hb);(try clear hb2);(try clear hk);(try clear hi);have hcz16_0:w15.cell? ⟨gb105,0,none⟩=some (.slice A0_0 l0_0.length c0_0):=(bkC BK105.out 0).trans rfl;have hcz16_1:w15.cell? ⟨gb105,1,none⟩=some (.slice A0_1 l0_1.length c0_1):=(bkC BK105.out 1).trans rfl;have hcz16_2:w15.cell? ⟨gb105,2,none⟩=some (.slice A0_2 l0_2.length c0_2):=(bkC BK105.out 2).trans rfl;have hcz16_3:w15.cell? ⟨gb105,3,none⟩=some (.int .i64 a0_3):=(bkC BK105.out 3).trans rfl;have hfz16_0:=bkF BK105.out 0;have hfz16_1:=bkF BK105.out 1;have hfz16_2:=bkF BK105.out 2;have hfz16_3:=bkF BK105.out 3))
    go_ret2
    exact ⟨by first|rfl|(simp [errW_none,errW_some] <;> rfl)|(simp [*,errW_none,errW_some] <;> rfl),by repeat (first|(with_reducible first|exact HB.out|apply bdA|apply bdN|apply bd1|refine bdS ?_ GE105.out)|exact HB.out)⟩
   ·rw [if_neg c12] at H
    have c12b0:decide (1024<(l0_2.length:Int))=false:=decide_eq_false c12
    have c12b1:decide (1024<l0_2.length)=false:=decide_eq_false (by omega)
    clear c12
    simp only [Option.some.injEq,Prod.mk.injEq] at H
    obtain ⟨rfl,rfl⟩:=H
    go_enter Try.func29,Try.ntmps29
    go_wp2_with (first|((with_reducible refine gtD (N:=1) rfl ?_);refine bxE ?hg (N:=1) ?hd (cs:=#[.slice A0_0 l0_0.length c0_0,.slice A0_1 l0_1.length c0_1,.slice A0_2 l0_2.length c0_2,.int .i64 a0_3]) (t:=26) ?hr ?_;(case hd=>rfl);(case hg=>rfl);(case hr=>first|(go_simp;done)|(go_simp;rfl));intro gb105 hg w17 hbox hb;have n0_:=As0.mk (bdT (by repeat (first|(with_reducible first|exact HB.out|apply bdA|apply bdN|apply bd1)|exact HB.out)) hb);have n1_:=As0.mk (hbox);have n2_:=As0.mk ((by rw [hg];exact (bdZ (by repeat (first|(with_reducible first|exact HB.out|apply bdA|apply bdN|apply bd1)|exact HB.out))):w.heap.size≤gb105));have n3_:=As0.mk ((by rw [hg];exact (bdZ (by repeat (first|(with_reducible first|exact HB.out|apply bdA|apply bdN|apply bd1)|exact HB.out))):w.heap.size≤gb105));clear HB;have HB:=n0_;have BK105:=n1_;have GW105:=n2_;have GE105:=n3_;clear n0_ n1_ n2_ n3_;clear hb hbox hg;have hcz18_0:w17.cell? ⟨gb105,0,none⟩=some (.slice A0_0 l0_0.length c0_0):=(bkC BK105.out 0).trans rfl;have hcz18_1:w17.cell? ⟨gb105,1,none⟩=some (.slice A0_1 l0_1.length c0_1):=(bkC BK105.out 1).trans rfl;have hcz18_2:w17.cell? ⟨gb105,2,none⟩=some (.slice A0_2 l0_2.length c0_2):=(bkC BK105.out 2).trans rfl;have hcz18_3:w17.cell? ⟨gb105,3,none⟩=some (.int .i64 a0_3):=(bkC BK105.out 3).trans rfl;have hfz18_0:=bkF BK105.out 0;have hfz18_1:=bkF BK105.out 1;have hfz18_2:=bkF BK105.out 2;have hfz18_3:=bkF BK105.out 3)|((with_reducible refine gate_callee (f:=37) rfl ?_);refine goesL_ (some 7) rfl rfl Try.func37 (by kernel_rfl) rfl #[.slice A0_0 l0_0.length c0_0] rfl (by (try simp only [List.map_toArray,List.map_cons,List.map_nil]);first|done|rfl|(simp only [List.length_drop,List.length_take];rfl)) ?_;(with_reducible refine (image_length.calls k _ _ l0_0 t106 _ ?side1 ?side2 A2.out).mono ?_);(case side1=>repeat (first|exact (Kd.CbW HR0_0.out HB.out)|(with_reducible refine Kd.C_alloc ?_ _)|(with_reducible refine Kd.C_drewN ?_ _)|(with_reducible refine Kd.C_drew ?_)));(case side2=>exact HC0_0.out);rintro e w19 ⟨rfl,hb⟩;refine ⟨_,rfl,?_⟩;have n0_:=As0.mk (bkB (g:=gb105) (o:=.cells #[.slice A0_0 l0_0.length c0_0,.slice A0_1 l0_1.length c0_1,.slice A0_2 l0_2.length c0_2,.int .i64 a0_3] 26 (0,0)) (by (with_reducible repeat (first|refine bkN ?_ _|refine bkD ?_|refine bkA ?_ _));exact BK105.out) hb);have n1_:=As0.mk (bdT (by repeat (first|(with_reducible first|exact HB.out|apply bdA|apply bdN|apply bd1|refine bdS ?_ GE105.out)|exact HB.out)) hb);clear BK105;clear HB;have BK105:=n0_;have HB:=n1_;clear n0_ n1_;(try clear hb);(try clear hb2);(try clear hk);(try clear hi);have hcz20_0:w19.cell? ⟨gb105,0,none⟩=some (.slice A0_0 l0_0.length c0_0):=(bkC BK105.out 0).trans rfl;have hcz20_1:w19.cell? ⟨gb105,1,none⟩=some (.slice A0_1 l0_1.length c0_1):=(bkC BK105.out 1).trans rfl;have hcz20_2:w19.cell? ⟨gb105,2,none⟩=some (.slice A0_2 l0_2.length c0_2):=(bkC BK105.out 2).trans rfl;have hcz20_3:w19.cell? ⟨gb105,3,none⟩=some (.int .i64 a0_3):=(bkC BK105.out 3).trans rfl;have hfz20_0:=bkF BK105.out 0;have hfz20_1:=bkF BK105.out 1;have hfz20_2:=bkF BK105.out 2;have hfz20_3:=bkF BK105.out 3))
    go_ret2
    exact ⟨by first|rfl|(simp [errW_none,errW_some] <;> rfl)|(simp [*,errW_none,errW_some] <;> rfl),by repeat (first|(with_reducible first|exact HB.out|apply bdA|apply bdN|apply bd1|refine bdS ?_ GE105.out)|exact HB.out)⟩
def imbF.l0:Nat→Int→List (S68)→Int→Int→List (S54)→List (S68)→List (S56)→Int→Option (Int × Bool)
 | 0,_,_,_,_,_,_,_,_=>none
 | k+1,x4,x8,x9,x10,x109000,x109001,x109002,x109003=>if x10<x9 then (if 0≤x10 then (if x10<(x8.length:Int) then (if ((rd_T68 x8 x10).f2)=x4 then (if ((rd_T68 x8 x10).f3)<1 then (some (x10,true)) else (if ((rd_T68 x8 x10).f3) > (wrap64 ((x109000.length:Int) - x4)) then (some (x10,true)) else (imbF.l0 k (wrap64 (x4+((rd_T68 x8 x10).f3))) x8 x9 (wrap64 (x10+1)) x109000 x109001 x109002 x109003))) else (some (x10,true))) else (none)) else (none)) else (some ((x109001.length:Int),decide (x4<(x109000.length:Int))))
def imbF.f (k:Nat) (l0_0:List (S54)) (l0_1:List (S68)) (l0_2:List (S56)) (a0_3:Int):Option (Int × Bool):=imbF.l0 k 0 l0_1 (l0_1.length:Int) 0 l0_0 l0_1 l0_2 a0_3
theorem imbF.calls (k:Nat) (A0_0:Option Addr) (c0_0:Nat) (l0_0:List (S54)) (A0_1:Option Addr) (c0_1:Nat) (l0_1:List (S68)) (A0_2:Option Addr) (c0_2:Nat) (l0_2:List (S56)) (a0_3:Int) (r1:Int) (r2:Bool) (w:World) (hr0_0:Kd.C k54 w A0_0 l0_0.length l0_0) (hc0_0:l0_0.length≤c0_0) (hr0_1:Kd.C k68 w A0_1 l0_1.length l0_1) (hc0_1:l0_1.length≤c0_1) (hr0_2:Kd.C k56 w A0_2 l0_2.length l0_2) (hc0_2:l0_2.length≤c0_2) (h:imbF.f k l0_0 l0_1 l0_2 a0_3=some (r1,r2)) :
  Calls Try.prog 31 #[.agg #[.slice A0_0 l0_0.length c0_0,.slice A0_1 l0_1.length c0_1,.slice A0_2 l0_2.length c0_2,.int .i64 a0_3]] w fun e w'=>e=.returned (.tuple #[.int .i64 r1,.bool r2])∧Below w.heap.size w w':=by
 have hu26:=Try.underlying26
 have hu68:=Try.underlying68
 have HR0_0:=As0.mk hr0_0
 have HC0_0:=As0.mk hc0_0
 clear hr0_0 hc0_0
 have HR0_1:=As0.mk hr0_1
 have HC0_1:=As0.mk hc0_1
 clear hr0_1 hc0_1
 have HR0_2:=As0.mk hr0_2
 have HC0_2:=As0.mk hc0_2
 clear hr0_2 hc0_2
 have HB:=As0.mk (Below.refl w.heap.size w)
 have H:(imbF.l0 k 0 l0_1 (l0_1.length:Int) 0 l0_0 l0_1 l0_2 a0_3)=some (r1,r2):=h
 clear h
 have H':=As0.mk H
 clear H
 go_enter Try.func31,Try.ntmps31
 go_wp2_with (first|((with_reducible refine gtD (N:=1) rfl ?_);(try (refine gate_guard (by rfl) ?_;dsimp only));refine bxE ?hg (N:=1) ?hd (cs:=#[.slice A0_0 l0_0.length c0_0,.slice A0_1 l0_1.length c0_1,.slice A0_2 l0_2.length c0_2,.int .i64 a0_3]) (t:=26) ?hr ?_;(case hd=>rfl);(case hg=>rfl);(case hr=>first|(go_simp;done)|(go_simp;rfl));intro gb108 hg w2 hbox hb;have n0_:=As0.mk (bdT (by repeat (first|(with_reducible first|exact HB.out|apply bdA|apply bdN|apply bd1)|exact HB.out)) hb);have n1_:=As0.mk (hbox);have n2_:=As0.mk ((by rw [hg];exact (bdZ (by repeat (first|(with_reducible first|exact HB.out|apply bdA|apply bdN|apply bd1)|exact HB.out))):w.heap.size≤gb108));have n3_:=As0.mk ((by rw [hg];exact (bdZ (by repeat (first|(with_reducible first|exact HB.out|apply bdA|apply bdN|apply bd1)|exact HB.out))):w.heap.size≤gb108));clear HB;have HB:=n0_;have BK108:=n1_;have GW108:=n2_;have GE108:=n3_;clear n0_ n1_ n2_ n3_;clear hb hbox hg;have hcz3_0:w2.cell? ⟨gb108,0,none⟩=some (.slice A0_0 l0_0.length c0_0):=(bkC BK108.out 0).trans rfl;have hcz3_1:w2.cell? ⟨gb108,1,none⟩=some (.slice A0_1 l0_1.length c0_1):=(bkC BK108.out 1).trans rfl;have hcz3_2:w2.cell? ⟨gb108,2,none⟩=some (.slice A0_2 l0_2.length c0_2):=(bkC BK108.out 2).trans rfl;have hcz3_3:w2.cell? ⟨gb108,3,none⟩=some (.int .i64 a0_3):=(bkC BK108.out 3).trans rfl;have hfz3_0:=bkF BK108.out 0;have hfz3_1:=bkF BK108.out 1;have hfz3_2:=bkF BK108.out 2;have hfz3_3:=bkF BK108.out 3))
 repeat (go_quiet (first|((with_reducible refine gtD (N:=1) rfl ?_);(try (refine gate_guard (by rfl) ?_;dsimp only));refine bxE ?hg (N:=1) ?hd (cs:=#[.slice A0_0 l0_0.length c0_0,.slice A0_1 l0_1.length c0_1,.slice A0_2 l0_2.length c0_2,.int .i64 a0_3]) (t:=26) ?hr ?_;(case hd=>rfl);(case hg=>rfl);(case hr=>first|(go_simp;done)|(go_simp;rfl));intro gb108 hg w2 hbox hb;have n0_:=As0.mk (bdT (by repeat (first|(with_reducible first|exact HB.out|apply bdA|apply bdN|apply bd1)|exact HB.out)) hb);have n1_:=As0.mk (hbox);have n2_:=As0.mk ((by rw [hg];exact (bdZ (by repeat (first|(with_reducible first|exact HB.out|apply bdA|apply bdN|apply bd1)|exact HB.out))):w.heap.size≤gb108));have n3_:=As0.mk ((by rw [hg];exact (bdZ (by repeat (first|(with_reducible first|exact HB.out|apply bdA|apply bdN|apply bd1)|exact HB.out))):w.heap.size≤gb108));clear HB;have HB:=n0_;have BK108:=n1_;have GW108:=n2_;have GE108:=n3_;clear n0_ n1_ n2_ n3_;clear hb hbox hg;have hcz3_0:w2.cell? ⟨gb108,0,none⟩=some (.slice A0_0 l0_0.length c0_0):=(bkC BK108.out 0).trans rfl;have hcz3_1:w2.cell? ⟨gb108,1,none⟩=some (.slice A0_1 l0_1.length c0_1):=(bkC BK108.out 1).trans rfl;have hcz3_2:w2.cell? ⟨gb108,2,none⟩=some (.slice A0_2 l0_2.length c0_2):=(bkC BK108.out 2).trans rfl;have hcz3_3:w2.cell? ⟨gb108,3,none⟩=some (.int .i64 a0_3):=(bkC BK108.out 3).trans rfl;have hfz3_0:=bkF BK108.out 0;have hfz3_1:=bkF BK108.out 1;have hfz3_2:=bkF BK108.out 2;have hfz3_3:=bkF BK108.out 3));try go_wp2_with (first|((with_reducible refine gtD (N:=1) rfl ?_);(try (refine gate_guard (by rfl) ?_;dsimp only));refine bxE ?hg (N:=1) ?hd (cs:=#[.slice A0_0 l0_0.length c0_0,.slice A0_1 l0_1.length c0_1,.slice A0_2 l0_2.length c0_2,.int .i64 a0_3]) (t:=26) ?hr ?_;(case hd=>rfl);(case hg=>rfl);(case hr=>first|(go_simp;done)|(go_simp;rfl));intro gb108 hg w2 hbox hb;have n0_:=As0.mk (bdT (by repeat (first|(with_reducible first|exact HB.out|apply bdA|apply bdN|apply bd1)|exact HB.out)) hb);have n1_:=As0.mk (hbox);have n2_:=As0.mk ((by rw [hg];exact (bdZ (by repeat (first|(with_reducible first|exact HB.out|apply bdA|apply bdN|apply bd1)|exact HB.out))):w.heap.size≤gb108));have n3_:=As0.mk ((by rw [hg];exact (bdZ (by repeat (first|(with_reducible first|exact HB.out|apply bdA|apply bdN|apply bd1)|exact HB.out))):w.heap.size≤gb108));clear HB;have HB:=n0_;have BK108:=n1_;have GW108:=n2_;have GE108:=n3_;clear n0_ n1_ n2_ n3_;clear hb hbox hg;have hcz3_0:w2.cell? ⟨gb108,0,none⟩=some (.slice A0_0 l0_0.length c0_0):=(bkC BK108.out 0).trans rfl;have hcz3_1:w2.cell? ⟨gb108,1,none⟩=some (.slice A0_1 l0_1.length c0_1):=(bkC BK108.out 1).trans rfl;have hcz3_2:w2.cell? ⟨gb108,2,none⟩=some (.slice A0_2 l0_2.length c0_2):=(bkC BK108.out 2).trans rfl;have hcz3_3:w2.cell? ⟨gb108,3,none⟩=some (.int .i64 a0_3):=(bkC BK108.out 3).trans rfl;have hfz3_0:=bkF BK108.out 0;have hfz3_1:=bkF BK108.out 1;have hfz3_2:=bkF BK108.out 2;have hfz3_3:=bkF BK108.out 3)))
 go_loopg [4,10] k (fun kq v4 v10 w'=>∃ (x4_1:Int) (x10_1:Int),v4=.int .i64 x4_1∧v10=.int .i64 x10_1∧As0 (imbF.l0 kq x4_1 l0_1 (l0_1.length:Int) x10_1 l0_0 l0_1 l0_2 a0_3=some (r1,r2))∧As0 (kq≤k)∧As0 (w'.heap[gb108]?=some (.cells #[(.slice A0_0 l0_0.length c0_0),(.slice A0_1 l0_1.length c0_1),(.slice A0_2 l0_2.length c0_2),.int .i64 a0_3] 26 (0,0)))∧As0 (Below w.heap.size w w'))
 case atStart=>exact ⟨(0),(0),(by first|rfl|(simp;done)|(simp [*];done)),(by first|rfl|(simp;done)|(simp [*];done)),H',⟨Nat.le_refl _⟩,⟨by (with_reducible repeat (first|refine bkN ?_ _|refine bkD ?_|refine bkA ?_ _));exact BK108.out⟩,⟨by repeat (first|(with_reducible first|exact HB.out|apply bdA|apply bdN|apply bd1|refine bdS ?_ GE108.out)|exact HB.out)⟩⟩
 case round =>
  clear H'
  try clear p2
  try clear c3
  try clear hcz3_0
  try clear hcz3_1
  try clear hcz3_2
  try clear hcz3_3
  try clear hfz3_0
  try clear hfz3_1
  try clear hfz3_2
  try clear hfz3_3
  obtain ⟨x4_1,x10_1,rfl,rfl,HA,HK1,BK108,HB⟩:=hrel
  cases gk with
  | zero=>exact absurd HA.out (by simp [imbF.l0])
  | succ k1 =>
   have H:=HA.out
   clear HA
   simp only [imbF.l0] at H
   by_cases c4:x10_1<(l0_1.length:Int)
   ·rw [if_pos c4] at H
    have c4b0:decide (x10_1<(l0_1.length:Int))=true:=decide_eq_true c4
    clear c4
    by_cases c5:0≤x10_1
    ·rw [if_pos c5] at H
     have c5b0:decide (0≤x10_1)=true:=decide_eq_true c5
     clear c5
     by_cases c6:x10_1<(l0_1.length:Int)
     ·rw [if_pos c6] at H
      have c6b0:decide (x10_1<(l0_1.length:Int))=true:=decide_eq_true c6
      clear c6
      by_cases c7:((rd_T68 l0_1 x10_1).f2)=x4_1
      ·rw [if_pos c7] at H
       have c7b0:(((rd_T68 l0_1 x10_1).f2) == x4_1)=true:=beq_iff_eq.mpr c7
       have c7b1:(((rd_T68 l0_1 x10_1).f2) != x4_1)=false:=bne_eq_false_iff_eq.mpr c7
       clear c7
       by_cases c8:((rd_T68 l0_1 x10_1).f3)<1
       ·rw [if_pos c8] at H
        have c8b0:decide (((rd_T68 l0_1 x10_1).f3)<1)=true:=decide_eq_true c8
        clear c8
        simp only [Option.some.injEq,Prod.mk.injEq] at H
        obtain ⟨rfl,rfl⟩:=H
        have p109:0≤(x10_1:Int):=of_decide_eq_true (by first|(with_reducible assumption)|assumption)
        have q109:x10_1<(l0_1.length:Int):=of_decide_eq_true (by first|(with_reducible assumption)|assumption)
        obtain ⟨ad109,e109,hx109_0,hx109_1,hx109_2,hx109_3⟩:=at_T68 HR0_1.out x10_1 p109 q109
        cases e109
        replace hx109_0:=(HB.out.cell (World.block_lt_of_cell? w _ hx109_0)).trans hx109_0
        replace hx109_1:=(HB.out.cell (World.block_lt_of_cell? w _ hx109_1)).trans hx109_1
        replace hx109_2:=(HB.out.cell (World.block_lt_of_cell? w _ hx109_2)).trans hx109_2
        replace hx109_3:=(HB.out.cell (World.block_lt_of_cell? w _ hx109_3)).trans hx109_3
        replace p109:=eq_true p109
        replace q109:=eq_true q109
        go_wp2_with (first|((with_reducible refine gtD (N:=6) rfl ?_);(try (refine gate_guard (by rfl) ?_;dsimp only));refine bxE ?hg (N:=6) ?hd (cs:=#[.string (⟨#[]⟩:ByteArray),.int .i64 0,.int .i64 0,.int .i64 0]) (t:=68) ?hr ?_;(case hd=>rfl);(case hg=>rfl);(case hr=>first|(go_simp;done)|(go_simp;rfl));intro gb110 hg w9 hbox hb;have n0_:=As0.mk (bkB (g:=gb108) (o:=.cells #[.slice A0_0 l0_0.length c0_0,.slice (some ad109) l0_1.length c0_1,.slice A0_2 l0_2.length c0_2,.int .i64 a0_3] 26 (0,0)) (by (with_reducible repeat (first|refine bkN ?_ _|refine bkD ?_|refine bkA ?_ _));exact BK108.out) hb);have n1_:=As0.mk (bdT (by repeat (first|(with_reducible first|exact HB.out|apply bdA|apply bdN|apply bd1|refine bdS ?_ GE108.out)|exact HB.out)) hb);have n2_:=As0.mk (hbox);have n3_:=As0.mk ((by rw [hg];exact (bdZ (by repeat (first|(with_reducible first|exact HB.out|apply bdA|apply bdN|apply bd1|refine bdS ?_ GE108.out)|exact HB.out))):w.heap.size≤gb110));have n4_:=As0.mk ((by rw [hg];exact (bdZ (by repeat (first|(with_reducible first|exact HB.out|apply bdA|apply bdN|apply bd1|refine bdS ?_ GE108.out)|exact HB.out))):w.heap.size≤gb110));have n5_:=As0.mk ((by rw [hg];exact Nat.ne_of_lt (blk_lt (g:=gb108) (o:=.cells #[.slice A0_0 l0_0.length c0_0,.slice (some ad109) l0_1.length c0_1,.slice A0_2 l0_2.length c0_2,.int .i64 a0_3] 26 (0,0)) (by (with_reducible repeat (first|refine bkN ?_ _|refine bkD ?_|refine bkA ?_ _));exact BK108.out)):gb108≠gb110));have n6_:=As0.mk ((by rw [hg];exact Nat.ne_of_gt (blk_lt (g:=gb108) (o:=.cells #[.slice A0_0 l0_0.length c0_0,.slice (some ad109) l0_1.length c0_1,.slice A0_2 l0_2.length c0_2,.int .i64 a0_3] 26 (0,0)) (by (with_reducible repeat (first|refine bkN ?_ _|refine bkD ?_|refine bkA ?_ _));exact BK108.out)):gb110≠gb108));clear BK108;clear HB;have BK108:=n0_;have HB:=n1_;have BK110:=n2_;have GW110:=n3_;have GE110:=n4_;have NB108_110:=n5_;have NB110_108:=n6_;clear n0_ n1_ n2_ n3_ n4_ n5_ n6_;clear hb hbox hg;have hnb10:=NB110_108.out;have hnc10:=NB108_110.out;have hcz11_0:w9.cell? ⟨gb110,0,none⟩=some (.string (⟨#[]⟩:ByteArray)):=(bkC BK110.out 0).trans rfl;have hcz11_1:w9.cell? ⟨gb110,1,none⟩=some (.int .i64 0):=(bkC BK110.out 1).trans rfl;have hcz11_2:w9.cell? ⟨gb110,2,none⟩=some (.int .i64 0):=(bkC BK110.out 2).trans rfl;have hcz11_3:w9.cell? ⟨gb110,3,none⟩=some (.int .i64 0):=(bkC BK110.out 3).trans rfl;have hfz11_0:=bkF BK110.out 0;have hfz11_1:=bkF BK110.out 1;have hfz11_2:=bkF BK110.out 2;have hfz11_3:=bkF BK110.out 3))
        repeat (go_quiet (first|((with_reducible refine gtD (N:=6) rfl ?_);(try (refine gate_guard (by rfl) ?_;dsimp only));refine bxE ?hg (N:=6) ?hd (cs:=#[.string (⟨#[]⟩:ByteArray),.int .i64 0,.int .i64 0,.int .i64 0]) (t:=68) ?hr ?_;(case hd=>rfl);(case hg=>rfl);(case hr=>first|(go_simp;done)|(go_simp;rfl));intro gb110 hg w9 hbox hb;have n0_:=As0.mk (bkB (g:=gb108) (o:=.cells #[.slice A0_0 l0_0.length c0_0,.slice (some ad109) l0_1.length c0_1,.slice A0_2 l0_2.length c0_2,.int .i64 a0_3] 26 (0,0)) (by (with_reducible repeat (first|refine bkN ?_ _|refine bkD ?_|refine bkA ?_ _));exact BK108.out) hb);have n1_:=As0.mk (bdT (by repeat (first|(with_reducible first|exact HB.out|apply bdA|apply bdN|apply bd1|refine bdS ?_ GE108.out)|exact HB.out)) hb);have n2_:=As0.mk (hbox);have n3_:=As0.mk ((by rw [hg];exact (bdZ (by repeat (first|(with_reducible first|exact HB.out|apply bdA|apply bdN|apply bd1|refine bdS ?_ GE108.out)|exact HB.out))):w.heap.size≤gb110));have n4_:=As0.mk ((by rw [hg];exact (bdZ (by repeat (first|(with_reducible first|exact HB.out|apply bdA|apply bdN|apply bd1|refine bdS ?_ GE108.out)|exact HB.out))):w.heap.size≤gb110));have n5_:=As0.mk ((by rw [hg];exact Nat.ne_of_lt (blk_lt (g:=gb108) (o:=.cells #[.slice A0_0 l0_0.length c0_0,.slice (some ad109) l0_1.length c0_1,.slice A0_2 l0_2.length c0_2,.int .i64 a0_3] 26 (0,0)) (by (with_reducible repeat (first|refine bkN ?_ _|refine bkD ?_|refine bkA ?_ _));exact BK108.out)):gb108≠gb110));have n6_:=As0.mk ((by rw [hg];exact Nat.ne_of_gt (blk_lt (g:=gb108) (o:=.cells #[.slice A0_0 l0_0.length c0_0,.slice (some ad109) l0_1.length c0_1,.slice A0_2 l0_2.length c0_2,.int .i64 a0_3] 26 (0,0)) (by (with_reducible repeat (first|refine bkN ?_ _|refine bkD ?_|refine bkA ?_ _));exact BK108.out)):gb110≠gb108));clear BK108;clear HB;have BK108:=n0_;have HB:=n1_;have BK110:=n2_;have GW110:=n3_;have GE110:=n4_;have NB108_110:=n5_;have NB110_108:=n6_;clear n0_ n1_ n2_ n3_ n4_ n5_ n6_;clear hb hbox hg;have hnb10:=NB110_108.out;have hnc10:=NB108_110.out;have hcz11_0:w9.cell? ⟨gb110,0,none⟩=some (.string (⟨#[]⟩:ByteArray)):=(bkC BK110.out 0).trans rfl;have hcz11_1:w9.cell? ⟨gb110,1,none⟩=some (.int .i64 0):=(bkC BK110.out 1).trans rfl;have hcz11_2:w9.cell? ⟨gb110,2,none⟩=some (.int .i64 0):=(bkC BK110.out 2).trans rfl;have hcz11_3:w9.cell? ⟨gb110,3,none⟩=some (.int .i64 0):=(bkC BK110.out 3).trans rfl;have hfz11_0:=bkF BK110.out 0;have hfz11_1:=bkF BK110.out 1;have hfz11_2:=bkF BK110.out 2;have hfz11_3:=bkF BK110.out 3));try go_wp2_with (first|((with_reducible refine gtD (N:=6) rfl ?_);(try (refine gate_guard (by rfl) ?_;dsimp only));refine bxE ?hg (N:=6) ?hd (cs:=#[.string (⟨#[]⟩:ByteArray),.int .i64 0,.int .i64 0,.int .i64 0]) (t:=68) ?hr ?_;(case hd=>rfl);(case hg=>rfl);(case hr=>first|(go_simp;done)|(go_simp;rfl));intro gb110 hg w9 hbox hb;have n0_:=As0.mk (bkB (g:=gb108) (o:=.cells #[.slice A0_0 l0_0.length c0_0,.slice (some ad109) l0_1.length c0_1,.slice A0_2 l0_2.length c0_2,.int .i64 a0_3] 26 (0,0)) (by (with_reducible repeat (first|refine bkN ?_ _|refine bkD ?_|refine bkA ?_ _));exact BK108.out) hb);have n1_:=As0.mk (bdT (by repeat (first|(with_reducible first|exact HB.out|apply bdA|apply bdN|apply bd1|refine bdS ?_ GE108.out)|exact HB.out)) hb);have n2_:=As0.mk (hbox);have n3_:=As0.mk ((by rw [hg];exact (bdZ (by repeat (first|(with_reducible first|exact HB.out|apply bdA|apply bdN|apply bd1|refine bdS ?_ GE108.out)|exact HB.out))):w.heap.size≤gb110));have n4_:=As0.mk ((by rw [hg];exact (bdZ (by repeat (first|(with_reducible first|exact HB.out|apply bdA|apply bdN|apply bd1|refine bdS ?_ GE108.out)|exact HB.out))):w.heap.size≤gb110));have n5_:=As0.mk ((by rw [hg];exact Nat.ne_of_lt (blk_lt (g:=gb108) (o:=.cells #[.slice A0_0 l0_0.length c0_0,.slice (some ad109) l0_1.length c0_1,.slice A0_2 l0_2.length c0_2,.int .i64 a0_3] 26 (0,0)) (by (with_reducible repeat (first|refine bkN ?_ _|refine bkD ?_|refine bkA ?_ _));exact BK108.out)):gb108≠gb110));have n6_:=As0.mk ((by rw [hg];exact Nat.ne_of_gt (blk_lt (g:=gb108) (o:=.cells #[.slice A0_0 l0_0.length c0_0,.slice (some ad109) l0_1.length c0_1,.slice A0_2 l0_2.length c0_2,.int .i64 a0_3] 26 (0,0)) (by (with_reducible repeat (first|refine bkN ?_ _|refine bkD ?_|refine bkA ?_ _));exact BK108.out)):gb110≠gb108));clear BK108;clear HB;have BK108:=n0_;have HB:=n1_;have BK110:=n2_;have GW110:=n3_;have GE110:=n4_;have NB108_110:=n5_;have NB110_108:=n6_;clear n0_ n1_ n2_ n3_ n4_ n5_ n6_;clear hb hbox hg;have hnb10:=NB110_108.out;have hnc10:=NB108_110.out;have hcz11_0:w9.cell? ⟨gb110,0,none⟩=some (.string (⟨#[]⟩:ByteArray)):=(bkC BK110.out 0).trans rfl;have hcz11_1:w9.cell? ⟨gb110,1,none⟩=some (.int .i64 0):=(bkC BK110.out 1).trans rfl;have hcz11_2:w9.cell? ⟨gb110,2,none⟩=some (.int .i64 0):=(bkC BK110.out 2).trans rfl;have hcz11_3:w9.cell? ⟨gb110,3,none⟩=some (.int .i64 0):=(bkC BK110.out 3).trans rfl;have hfz11_0:=bkF BK110.out 0;have hfz11_1:=bkF BK110.out 1;have hfz11_2:=bkF BK110.out 2;have hfz11_3:=bkF BK110.out 3)))
        go_ret2
        exact ⟨by first|rfl|(simp [errW_none,errW_some] <;> rfl)|(simp [*,errW_none,errW_some] <;> rfl),by repeat (first|(with_reducible first|exact HB.out|apply bdA|apply bdN|apply bd1|refine bdS ?_ GE108.out|refine bdS ?_ GE110.out)|exact HB.out)⟩
       ·rw [if_neg c8] at H
        have c8b0:decide (((rd_T68 l0_1 x10_1).f3)<1)=false:=decide_eq_false c8
        clear c8
        by_cases c12:((rd_T68 l0_1 x10_1).f3) > (wrap64 ((l0_0.length:Int) - x4_1))
        ·rw [if_pos c12] at H
         have c12b0:decide ((wrap64 ((l0_0.length:Int) - x4_1))<((rd_T68 l0_1 x10_1).f3))=true:=decide_eq_true c12
         clear c12
         simp only [Option.some.injEq,Prod.mk.injEq] at H
         obtain ⟨rfl,rfl⟩:=H
         have p109:0≤(x10_1:Int):=of_decide_eq_true (by first|(with_reducible assumption)|assumption)
         have q109:x10_1<(l0_1.length:Int):=of_decide_eq_true (by first|(with_reducible assumption)|assumption)
         obtain ⟨ad109,e109,hx109_0,hx109_1,hx109_2,hx109_3⟩:=at_T68 HR0_1.out x10_1 p109 q109
         cases e109
         replace hx109_0:=(HB.out.cell (World.block_lt_of_cell? w _ hx109_0)).trans hx109_0
         replace hx109_1:=(HB.out.cell (World.block_lt_of_cell? w _ hx109_1)).trans hx109_1
         replace hx109_2:=(HB.out.cell (World.block_lt_of_cell? w _ hx109_2)).trans hx109_2
         replace hx109_3:=(HB.out.cell (World.block_lt_of_cell? w _ hx109_3)).trans hx109_3
         replace p109:=eq_true p109
         replace q109:=eq_true q109
         go_wp2_with (first|((with_reducible refine gtD (N:=6) rfl ?_);(try (refine gate_guard (by rfl) ?_;dsimp only));refine bxE ?hg (N:=6) ?hd (cs:=#[.string (⟨#[]⟩:ByteArray),.int .i64 0,.int .i64 0,.int .i64 0]) (t:=68) ?hr ?_;(case hd=>rfl);(case hg=>rfl);(case hr=>first|(go_simp;done)|(go_simp;rfl));intro gb110 hg w13 hbox hb;have n0_:=As0.mk (bkB (g:=gb108) (o:=.cells #[.slice A0_0 l0_0.length c0_0,.slice (some ad109) l0_1.length c0_1,.slice A0_2 l0_2.length c0_2,.int .i64 a0_3] 26 (0,0)) (by (with_reducible repeat (first|refine bkN ?_ _|refine bkD ?_|refine bkA ?_ _));exact BK108.out) hb);have n1_:=As0.mk (bdT (by repeat (first|(with_reducible first|exact HB.out|apply bdA|apply bdN|apply bd1|refine bdS ?_ GE108.out)|exact HB.out)) hb);have n2_:=As0.mk (hbox);have n3_:=As0.mk ((by rw [hg];exact (bdZ (by repeat (first|(with_reducible first|exact HB.out|apply bdA|apply bdN|apply bd1|refine bdS ?_ GE108.out)|exact HB.out))):w.heap.size≤gb110));have n4_:=As0.mk ((by rw [hg];exact (bdZ (by repeat (first|(with_reducible first|exact HB.out|apply bdA|apply bdN|apply bd1|refine bdS ?_ GE108.out)|exact HB.out))):w.heap.size≤gb110));have n5_:=As0.mk ((by rw [hg];exact Nat.ne_of_lt (blk_lt (g:=gb108) (o:=.cells #[.slice A0_0 l0_0.length c0_0,.slice (some ad109) l0_1.length c0_1,.slice A0_2 l0_2.length c0_2,.int .i64 a0_3] 26 (0,0)) (by (with_reducible repeat (first|refine bkN ?_ _|refine bkD ?_|refine bkA ?_ _));exact BK108.out)):gb108≠gb110));have n6_:=As0.mk ((by rw [hg];exact Nat.ne_of_gt (blk_lt (g:=gb108) (o:=.cells #[.slice A0_0 l0_0.length c0_0,.slice (some ad109) l0_1.length c0_1,.slice A0_2 l0_2.length c0_2,.int .i64 a0_3] 26 (0,0)) (by (with_reducible repeat (first|refine bkN ?_ _|refine bkD ?_|refine bkA ?_ _));exact BK108.out)):gb110≠gb108));clear BK108;clear HB;have BK108:=n0_;have HB:=n1_;have BK110:=n2_;have GW110:=n3_;have GE110:=n4_;have NB108_110:=n5_;have NB110_108:=n6_;clear n0_ n1_ n2_ n3_ n4_ n5_ n6_;clear hb hbox hg;have hnb14:=NB110_108.out;have hnc14:=NB108_110.out;have hcz15_0:w13.cell? ⟨gb110,0,none⟩=some (.string (⟨#[]⟩:ByteArray)):=(bkC BK110.out 0).trans rfl;have hcz15_1:w13.cell? ⟨gb110,1,none⟩=some (.int .i64 0):=(bkC BK110.out 1).trans rfl;have hcz15_2:w13.cell? ⟨gb110,2,none⟩=some (.int .i64 0):=(bkC BK110.out 2).trans rfl;have hcz15_3:w13.cell? ⟨gb110,3,none⟩=some (.int .i64 0):=(bkC BK110.out 3).trans rfl;have hfz15_0:=bkF BK110.out 0;have hfz15_1:=bkF BK110.out 1;have hfz15_2:=bkF BK110.out 2;have hfz15_3:=bkF BK110.out 3;have hcz16_0:w13.cell? ⟨gb108,0,none⟩=some (.slice A0_0 l0_0.length c0_0):=(bkC BK108.out 0).trans rfl;have hcz16_1:w13.cell? ⟨gb108,1,none⟩=some (.slice (some ad109) l0_1.length c0_1):=(bkC BK108.out 1).trans rfl;have hcz16_2:w13.cell? ⟨gb108,2,none⟩=some (.slice A0_2 l0_2.length c0_2):=(bkC BK108.out 2).trans rfl;have hcz16_3:w13.cell? ⟨gb108,3,none⟩=some (.int .i64 a0_3):=(bkC BK108.out 3).trans rfl;have hfz16_0:=bkF BK108.out 0;have hfz16_1:=bkF BK108.out 1;have hfz16_2:=bkF BK108.out 2;have hfz16_3:=bkF BK108.out 3))
         repeat (go_quiet (first|((with_reducible refine gtD (N:=6) rfl ?_);(try (refine gate_guard (by rfl) ?_;dsimp only));refine bxE ?hg (N:=6) ?hd (cs:=#[.string (⟨#[]⟩:ByteArray),.int .i64 0,.int .i64 0,.int .i64 0]) (t:=68) ?hr ?_;(case hd=>rfl);(case hg=>rfl);(case hr=>first|(go_simp;done)|(go_simp;rfl));intro gb110 hg w13 hbox hb;have n0_:=As0.mk (bkB (g:=gb108) (o:=.cells #[.slice A0_0 l0_0.length c0_0,.slice (some ad109) l0_1.length c0_1,.slice A0_2 l0_2.length c0_2,.int .i64 a0_3] 26 (0,0)) (by (with_reducible repeat (first|refine bkN ?_ _|refine bkD ?_|refine bkA ?_ _));exact BK108.out) hb);have n1_:=As0.mk (bdT (by repeat (first|(with_reducible first|exact HB.out|apply bdA|apply bdN|apply bd1|refine bdS ?_ GE108.out)|exact HB.out)) hb);have n2_:=As0.mk (hbox);have n3_:=As0.mk ((by rw [hg];exact (bdZ (by repeat (first|(with_reducible first|exact HB.out|apply bdA|apply bdN|apply bd1|refine bdS ?_ GE108.out)|exact HB.out))):w.heap.size≤gb110));have n4_:=As0.mk ((by rw [hg];exact (bdZ (by repeat (first|(with_reducible first|exact HB.out|apply bdA|apply bdN|apply bd1|refine bdS ?_ GE108.out)|exact HB.out))):w.heap.size≤gb110));have n5_:=As0.mk ((by rw [hg];exact Nat.ne_of_lt (blk_lt (g:=gb108) (o:=.cells #[.slice A0_0 l0_0.length c0_0,.slice (some ad109) l0_1.length c0_1,.slice A0_2 l0_2.length c0_2,.int .i64 a0_3] 26 (0,0)) (by (with_reducible repeat (first|refine bkN ?_ _|refine bkD ?_|refine bkA ?_ _));exact BK108.out)):gb108≠gb110));have n6_:=As0.mk ((by rw [hg];exact Nat.ne_of_gt (blk_lt (g:=gb108) (o:=.cells #[.slice A0_0 l0_0.length c0_0,.slice (some ad109) l0_1.length c0_1,.slice A0_2 l0_2.length c0_2,.int .i64 a0_3] 26 (0,0)) (by (with_reducible repeat (first|refine bkN ?_ _|refine bkD ?_|refine bkA ?_ _));exact BK108.out)):gb110≠gb108));clear BK108;clear HB;have BK108:=n0_;have HB:=n1_;have BK110:=n2_;have GW110:=n3_;have GE110:=n4_;have NB108_110:=n5_;have NB110_108:=n6_;clear n0_ n1_ n2_ n3_ n4_ n5_ n6_;clear hb hbox hg;have hnb14:=NB110_108.out;have hnc14:=NB108_110.out;have hcz15_0:w13.cell? ⟨gb110,0,none⟩=some (.string (⟨#[]⟩:ByteArray)):=(bkC BK110.out 0).trans rfl;have hcz15_1:w13.cell? ⟨gb110,1,none⟩=some (.int .i64 0):=(bkC BK110.out 1).trans rfl;have hcz15_2:w13.cell? ⟨gb110,2,none⟩=some (.int .i64 0):=(bkC BK110.out 2).trans rfl;have hcz15_3:w13.cell? ⟨gb110,3,none⟩=some (.int .i64 0):=(bkC BK110.out 3).trans rfl;have hfz15_0:=bkF BK110.out 0;have hfz15_1:=bkF BK110.out 1;have hfz15_2:=bkF BK110.out 2;have hfz15_3:=bkF BK110.out 3;have hcz16_0:w13.cell? ⟨gb108,0,none⟩=some (.slice A0_0 l0_0.length c0_0):=(bkC BK108.out 0).trans rfl;have hcz16_1:w13.cell? ⟨gb108,1,none⟩=some (.slice (some ad109) l0_1.length c0_1):=(bkC BK108.out 1).trans rfl;have hcz16_2:w13.cell? ⟨gb108,2,none⟩=some (.slice A0_2 l0_2.length c0_2):=(bkC BK108.out 2).trans rfl;have hcz16_3:w13.cell? ⟨gb108,3,none⟩=some (.int .i64 a0_3):=(bkC BK108.out 3).trans rfl;have hfz16_0:=bkF BK108.out 0;have hfz16_1:=bkF BK108.out 1;have hfz16_2:=bkF BK108.out 2;have hfz16_3:=bkF BK108.out 3));try go_wp2_with (first|((with_reducible refine gtD (N:=6) rfl ?_);(try (refine gate_guard (by rfl) ?_;dsimp only));refine bxE ?hg (N:=6) ?hd (cs:=#[.string (⟨#[]⟩:ByteArray),.int .i64 0,.int .i64 0,.int .i64 0]) (t:=68) ?hr ?_;(case hd=>rfl);(case hg=>rfl);(case hr=>first|(go_simp;done)|(go_simp;rfl));intro gb110 hg w13 hbox hb;have n0_:=As0.mk (bkB (g:=gb108) (o:=.cells #[.slice A0_0 l0_0.length c0_0,.slice (some ad109) l0_1.length c0_1,.slice A0_2 l0_2.length c0_2,.int .i64 a0_3] 26 (0,0)) (by (with_reducible repeat (first|refine bkN ?_ _|refine bkD ?_|refine bkA ?_ _));exact BK108.out) hb);have n1_:=As0.mk (bdT (by repeat (first|(with_reducible first|exact HB.out|apply bdA|apply bdN|apply bd1|refine bdS ?_ GE108.out)|exact HB.out)) hb);have n2_:=As0.mk (hbox);have n3_:=As0.mk ((by rw [hg];exact (bdZ (by repeat (first|(with_reducible first|exact HB.out|apply bdA|apply bdN|apply bd1|refine bdS ?_ GE108.out)|exact HB.out))):w.heap.size≤gb110));have n4_:=As0.mk ((by rw [hg];exact (bdZ (by repeat (first|(with_reducible first|exact HB.out|apply bdA|apply bdN|apply bd1|refine bdS ?_ GE108.out)|exact HB.out))):w.heap.size≤gb110));have n5_:=As0.mk ((by rw [hg];exact Nat.ne_of_lt (blk_lt (g:=gb108) (o:=.cells #[.slice A0_0 l0_0.length c0_0,.slice (some ad109) l0_1.length c0_1,.slice A0_2 l0_2.length c0_2,.int .i64 a0_3] 26 (0,0)) (by (with_reducible repeat (first|refine bkN ?_ _|refine bkD ?_|refine bkA ?_ _));exact BK108.out)):gb108≠gb110));have n6_:=As0.mk ((by rw [hg];exact Nat.ne_of_gt (blk_lt (g:=gb108) (o:=.cells #[.slice A0_0 l0_0.length c0_0,.slice (some ad109) l0_1.length c0_1,.slice A0_2 l0_2.length c0_2,.int .i64 a0_3] 26 (0,0)) (by (with_reducible repeat (first|refine bkN ?_ _|refine bkD ?_|refine bkA ?_ _));exact BK108.out)):gb110≠gb108));clear BK108;clear HB;have BK108:=n0_;have HB:=n1_;have BK110:=n2_;have GW110:=n3_;have GE110:=n4_;have NB108_110:=n5_;have NB110_108:=n6_;clear n0_ n1_ n2_ n3_ n4_ n5_ n6_;clear hb hbox hg;have hnb14:=NB110_108.out;have hnc14:=NB108_110.out;have hcz15_0:w13.cell? ⟨gb110,0,none⟩=some (.string (⟨#[]⟩:ByteArray)):=(bkC BK110.out 0).trans rfl;have hcz15_1:w13.cell? ⟨gb110,1,none⟩=some (.int .i64 0):=(bkC BK110.out 1).trans rfl;have hcz15_2:w13.cell? ⟨gb110,2,none⟩=some (.int .i64 0):=(bkC BK110.out 2).trans rfl;have hcz15_3:w13.cell? ⟨gb110,3,none⟩=some (.int .i64 0):=(bkC BK110.out 3).trans rfl;have hfz15_0:=bkF BK110.out 0;have hfz15_1:=bkF BK110.out 1;have hfz15_2:=bkF BK110.out 2;have hfz15_3:=bkF BK110.out 3;have hcz16_0:w13.cell? ⟨gb108,0,none⟩=some (.slice A0_0 l0_0.length c0_0):=(bkC BK108.out 0).trans rfl;have hcz16_1:w13.cell? ⟨gb108,1,none⟩=some (.slice (some ad109) l0_1.length c0_1):=(bkC BK108.out 1).trans rfl;have hcz16_2:w13.cell? ⟨gb108,2,none⟩=some (.slice A0_2 l0_2.length c0_2):=(bkC BK108.out 2).trans rfl;have hcz16_3:w13.cell? ⟨gb108,3,none⟩=some (.int .i64 a0_3):=(bkC BK108.out 3).trans rfl;have hfz16_0:=bkF BK108.out 0;have hfz16_1:=bkF BK108.out 1;have hfz16_2:=bkF BK108.out 2;have hfz16_3:=bkF BK108.out 3)))
         go_ret2
         exact ⟨by first|rfl|(simp [errW_none,errW_some] <;> rfl)|(simp [*,errW_none,errW_some] <;> rfl),by repeat (first|(with_reducible first|exact HB.out|apply bdA|apply bdN|apply bd1|refine bdS ?_ GE108.out|refine bdS ?_ GE110.out)|exact HB.out)⟩
        ·rw [if_neg c12] at H
         have c12b0:decide ((wrap64 ((l0_0.length:Int) - x4_1))<((rd_T68 l0_1 x10_1).f3))=false:=decide_eq_false c12
         clear c12
         have H':=As0.mk H
         clear H
         have p109:0≤(x10_1:Int):=of_decide_eq_true (by first|(with_reducible assumption)|assumption)
         have q109:x10_1<(l0_1.length:Int):=of_decide_eq_true (by first|(with_reducible assumption)|assumption)
         obtain ⟨ad109,e109,hx109_0,hx109_1,hx109_2,hx109_3⟩:=at_T68 HR0_1.out x10_1 p109 q109
         cases e109
         replace hx109_0:=(HB.out.cell (World.block_lt_of_cell? w _ hx109_0)).trans hx109_0
         replace hx109_1:=(HB.out.cell (World.block_lt_of_cell? w _ hx109_1)).trans hx109_1
         replace hx109_2:=(HB.out.cell (World.block_lt_of_cell? w _ hx109_2)).trans hx109_2
         replace hx109_3:=(HB.out.cell (World.block_lt_of_cell? w _ hx109_3)).trans hx109_3
         replace p109:=eq_true p109
         replace q109:=eq_true q109
         go_wp2_with (first|((with_reducible refine gtD (N:=6) rfl ?_);(try (refine gate_guard (by rfl) ?_;dsimp only));refine bxE ?hg (N:=6) ?hd (cs:=#[.string (⟨#[]⟩:ByteArray),.int .i64 0,.int .i64 0,.int .i64 0]) (t:=68) ?hr ?_;(case hd=>rfl);(case hg=>rfl);(case hr=>first|(go_simp;done)|(go_simp;rfl));intro gb110 hg w17 hbox hb;have n0_:=As0.mk (bkB (g:=gb108) (o:=.cells #[.slice A0_0 l0_0.length c0_0,.slice (some ad109) l0_1.length c0_1,.slice A0_2 l0_2.length c0_2,.int .i64 a0_3] 26 (0,0)) (by (with_reducible repeat (first|refine bkN ?_ _|refine bkD ?_|refine bkA ?_ _));exact BK108.out) hb);have n1_:=As0.mk (bdT (by repeat (first|(with_reducible first|exact HB.out|apply bdA|apply bdN|apply bd1|refine bdS ?_ GE108.out)|exact HB.out)) hb);have n2_:=As0.mk (hbox);have n3_:=As0.mk ((by rw [hg];exact (bdZ (by repeat (first|(with_reducible first|exact HB.out|apply bdA|apply bdN|apply bd1|refine bdS ?_ GE108.out)|exact HB.out))):w.heap.size≤gb110));have n4_:=As0.mk ((by rw [hg];exact (bdZ (by repeat (first|(with_reducible first|exact HB.out|apply bdA|apply bdN|apply bd1|refine bdS ?_ GE108.out)|exact HB.out))):w.heap.size≤gb110));have n5_:=As0.mk ((by rw [hg];exact Nat.ne_of_lt (blk_lt (g:=gb108) (o:=.cells #[.slice A0_0 l0_0.length c0_0,.slice (some ad109) l0_1.length c0_1,.slice A0_2 l0_2.length c0_2,.int .i64 a0_3] 26 (0,0)) (by (with_reducible repeat (first|refine bkN ?_ _|refine bkD ?_|refine bkA ?_ _));exact BK108.out)):gb108≠gb110));have n6_:=As0.mk ((by rw [hg];exact Nat.ne_of_gt (blk_lt (g:=gb108) (o:=.cells #[.slice A0_0 l0_0.length c0_0,.slice (some ad109) l0_1.length c0_1,.slice A0_2 l0_2.length c0_2,.int .i64 a0_3] 26 (0,0)) (by (with_reducible repeat (first|refine bkN ?_ _|refine bkD ?_|refine bkA ?_ _));exact BK108.out)):gb110≠gb108));clear BK108;clear HB;have BK108:=n0_;have HB:=n1_;have BK110:=n2_;have GW110:=n3_;have GE110:=n4_;have NB108_110:=n5_;have NB110_108:=n6_;clear n0_ n1_ n2_ n3_ n4_ n5_ n6_;clear hb hbox hg;have hnb18:=NB110_108.out;have hnc18:=NB108_110.out;have hcz19_0:w17.cell? ⟨gb110,0,none⟩=some (.string (⟨#[]⟩:ByteArray)):=(bkC BK110.out 0).trans rfl;have hcz19_1:w17.cell? ⟨gb110,1,none⟩=some (.int .i64 0):=(bkC BK110.out 1).trans rfl;have hcz19_2:w17.cell? ⟨gb110,2,none⟩=some (.int .i64 0):=(bkC BK110.out 2).trans rfl;have hcz19_3:w17.cell? ⟨gb110,3,none⟩=some (.int .i64 0):=(bkC BK110.out 3).trans rfl;have hfz19_0:=bkF BK110.out 0;have hfz19_1:=bkF BK110.out 1;have hfz19_2:=bkF BK110.out 2;have hfz19_3:=bkF BK110.out 3;have hcz20_0:w17.cell? ⟨gb108,0,none⟩=some (.slice A0_0 l0_0.length c0_0):=(bkC BK108.out 0).trans rfl;have hcz20_1:w17.cell? ⟨gb108,1,none⟩=some (.slice (some ad109) l0_1.length c0_1):=(bkC BK108.out 1).trans rfl;have hcz20_2:w17.cell? ⟨gb108,2,none⟩=some (.slice A0_2 l0_2.length c0_2):=(bkC BK108.out 2).trans rfl;have hcz20_3:w17.cell? ⟨gb108,3,none⟩=some (.int .i64 a0_3):=(bkC BK108.out 3).trans rfl;have hfz20_0:=bkF BK108.out 0;have hfz20_1:=bkF BK108.out 1;have hfz20_2:=bkF BK108.out 2;have hfz20_3:=bkF BK108.out 3))
         repeat (go_quiet (first|((with_reducible refine gtD (N:=6) rfl ?_);(try (refine gate_guard (by rfl) ?_;dsimp only));refine bxE ?hg (N:=6) ?hd (cs:=#[.string (⟨#[]⟩:ByteArray),.int .i64 0,.int .i64 0,.int .i64 0]) (t:=68) ?hr ?_;(case hd=>rfl);(case hg=>rfl);(case hr=>first|(go_simp;done)|(go_simp;rfl));intro gb110 hg w17 hbox hb;have n0_:=As0.mk (bkB (g:=gb108) (o:=.cells #[.slice A0_0 l0_0.length c0_0,.slice (some ad109) l0_1.length c0_1,.slice A0_2 l0_2.length c0_2,.int .i64 a0_3] 26 (0,0)) (by (with_reducible repeat (first|refine bkN ?_ _|refine bkD ?_|refine bkA ?_ _));exact BK108.out) hb);have n1_:=As0.mk (bdT (by repeat (first|(with_reducible first|exact HB.out|apply bdA|apply bdN|apply bd1|refine bdS ?_ GE108.out)|exact HB.out)) hb);have n2_:=As0.mk (hbox);have n3_:=As0.mk ((by rw [hg];exact (bdZ (by repeat (first|(with_reducible first|exact HB.out|apply bdA|apply bdN|apply bd1|refine bdS ?_ GE108.out)|exact HB.out))):w.heap.size≤gb110));have n4_:=As0.mk ((by rw [hg];exact (bdZ (by repeat (first|(with_reducible first|exact HB.out|apply bdA|apply bdN|apply bd1|refine bdS ?_ GE108.out)|exact HB.out))):w.heap.size≤gb110));have n5_:=As0.mk ((by rw [hg];exact Nat.ne_of_lt (blk_lt (g:=gb108) (o:=.cells #[.slice A0_0 l0_0.length c0_0,.slice (some ad109) l0_1.length c0_1,.slice A0_2 l0_2.length c0_2,.int .i64 a0_3] 26 (0,0)) (by (with_reducible repeat (first|refine bkN ?_ _|refine bkD ?_|refine bkA ?_ _));exact BK108.out)):gb108≠gb110));have n6_:=As0.mk ((by rw [hg];exact Nat.ne_of_gt (blk_lt (g:=gb108) (o:=.cells #[.slice A0_0 l0_0.length c0_0,.slice (some ad109) l0_1.length c0_1,.slice A0_2 l0_2.length c0_2,.int .i64 a0_3] 26 (0,0)) (by (with_reducible repeat (first|refine bkN ?_ _|refine bkD ?_|refine bkA ?_ _));exact BK108.out)):gb110≠gb108));clear BK108;clear HB;have BK108:=n0_;have HB:=n1_;have BK110:=n2_;have GW110:=n3_;have GE110:=n4_;have NB108_110:=n5_;have NB110_108:=n6_;clear n0_ n1_ n2_ n3_ n4_ n5_ n6_;clear hb hbox hg;have hnb18:=NB110_108.out;have hnc18:=NB108_110.out;have hcz19_0:w17.cell? ⟨gb110,0,none⟩=some (.string (⟨#[]⟩:ByteArray)):=(bkC BK110.out 0).trans rfl;have hcz19_1:w17.cell? ⟨gb110,1,none⟩=some (.int .i64 0):=(bkC BK110.out 1).trans rfl;have hcz19_2:w17.cell? ⟨gb110,2,none⟩=some (.int .i64 0):=(bkC BK110.out 2).trans rfl;have hcz19_3:w17.cell? ⟨gb110,3,none⟩=some (.int .i64 0):=(bkC BK110.out 3).trans rfl;have hfz19_0:=bkF BK110.out 0;have hfz19_1:=bkF BK110.out 1;have hfz19_2:=bkF BK110.out 2;have hfz19_3:=bkF BK110.out 3;have hcz20_0:w17.cell? ⟨gb108,0,none⟩=some (.slice A0_0 l0_0.length c0_0):=(bkC BK108.out 0).trans rfl;have hcz20_1:w17.cell? ⟨gb108,1,none⟩=some (.slice (some ad109) l0_1.length c0_1):=(bkC BK108.out 1).trans rfl;have hcz20_2:w17.cell? ⟨gb108,2,none⟩=some (.slice A0_2 l0_2.length c0_2):=(bkC BK108.out 2).trans rfl;have hcz20_3:w17.cell? ⟨gb108,3,none⟩=some (.int .i64 a0_3):=(bkC BK108.out 3).trans rfl;have hfz20_0:=bkF BK108.out 0;have hfz20_1:=bkF BK108.out 1;have hfz20_2:=bkF BK108.out 2;have hfz20_3:=bkF BK108.out 3));try go_wp2_with (first|((with_reducible refine gtD (N:=6) rfl ?_);(try (refine gate_guard (by rfl) ?_;dsimp only));refine bxE ?hg (N:=6) ?hd (cs:=#[.string (⟨#[]⟩:ByteArray),.int .i64 0,.int .i64 0,.int .i64 0]) (t:=68) ?hr ?_;(case hd=>rfl);(case hg=>rfl);(case hr=>first|(go_simp;done)|(go_simp;rfl));intro gb110 hg w17 hbox hb;have n0_:=As0.mk (bkB (g:=gb108) (o:=.cells #[.slice A0_0 l0_0.length c0_0,.slice (some ad109) l0_1.length c0_1,.slice A0_2 l0_2.length c0_2,.int .i64 a0_3] 26 (0,0)) (by (with_reducible repeat (first|refine bkN ?_ _|refine bkD ?_|refine bkA ?_ _));exact BK108.out) hb);have n1_:=As0.mk (bdT (by repeat (first|(with_reducible first|exact HB.out|apply bdA|apply bdN|apply bd1|refine bdS ?_ GE108.out)|exact HB.out)) hb);have n2_:=As0.mk (hbox);have n3_:=As0.mk ((by rw [hg];exact (bdZ (by repeat (first|(with_reducible first|exact HB.out|apply bdA|apply bdN|apply bd1|refine bdS ?_ GE108.out)|exact HB.out))):w.heap.size≤gb110));have n4_:=As0.mk ((by rw [hg];exact (bdZ (by repeat (first|(with_reducible first|exact HB.out|apply bdA|apply bdN|apply bd1|refine bdS ?_ GE108.out)|exact HB.out))):w.heap.size≤gb110));have n5_:=As0.mk ((by rw [hg];exact Nat.ne_of_lt (blk_lt (g:=gb108) (o:=.cells #[.slice A0_0 l0_0.length c0_0,.slice (some ad109) l0_1.length c0_1,.slice A0_2 l0_2.length c0_2,.int .i64 a0_3] 26 (0,0)) (by (with_reducible repeat (first|refine bkN ?_ _|refine bkD ?_|refine bkA ?_ _));exact BK108.out)):gb108≠gb110));have n6_:=As0.mk ((by rw [hg];exact Nat.ne_of_gt (blk_lt (g:=gb108) (o:=.cells #[.slice A0_0 l0_0.length c0_0,.slice (some ad109) l0_1.length c0_1,.slice A0_2 l0_2.length c0_2,.int .i64 a0_3] 26 (0,0)) (by (with_reducible repeat (first|refine bkN ?_ _|refine bkD ?_|refine bkA ?_ _));exact BK108.out)):gb110≠gb108));clear BK108;clear HB;have BK108:=n0_;have HB:=n1_;have BK110:=n2_;have GW110:=n3_;have GE110:=n4_;have NB108_110:=n5_;have NB110_108:=n6_;clear n0_ n1_ n2_ n3_ n4_ n5_ n6_;clear hb hbox hg;have hnb18:=NB110_108.out;have hnc18:=NB108_110.out;have hcz19_0:w17.cell? ⟨gb110,0,none⟩=some (.string (⟨#[]⟩:ByteArray)):=(bkC BK110.out 0).trans rfl;have hcz19_1:w17.cell? ⟨gb110,1,none⟩=some (.int .i64 0):=(bkC BK110.out 1).trans rfl;have hcz19_2:w17.cell? ⟨gb110,2,none⟩=some (.int .i64 0):=(bkC BK110.out 2).trans rfl;have hcz19_3:w17.cell? ⟨gb110,3,none⟩=some (.int .i64 0):=(bkC BK110.out 3).trans rfl;have hfz19_0:=bkF BK110.out 0;have hfz19_1:=bkF BK110.out 1;have hfz19_2:=bkF BK110.out 2;have hfz19_3:=bkF BK110.out 3;have hcz20_0:w17.cell? ⟨gb108,0,none⟩=some (.slice A0_0 l0_0.length c0_0):=(bkC BK108.out 0).trans rfl;have hcz20_1:w17.cell? ⟨gb108,1,none⟩=some (.slice (some ad109) l0_1.length c0_1):=(bkC BK108.out 1).trans rfl;have hcz20_2:w17.cell? ⟨gb108,2,none⟩=some (.slice A0_2 l0_2.length c0_2):=(bkC BK108.out 2).trans rfl;have hcz20_3:w17.cell? ⟨gb108,3,none⟩=some (.int .i64 a0_3):=(bkC BK108.out 3).trans rfl;have hfz20_0:=bkF BK108.out 0;have hfz20_1:=bkF BK108.out 1;have hfz20_2:=bkF BK108.out 2;have hfz20_3:=bkF BK108.out 3)))
         go_roundg k1
         case measure=>have:=HK1.out;omega
         case rel=>exact ⟨(wrap64 (x4_1+((rd_T68 l0_1 x10_1).f3))),(wrap64 (x10_1+1)),(by first|rfl|(simp;done)|(simp [*];done)),(by first|rfl|(simp;done)|(simp [*];done)),H',⟨by have:=HK1.out;omega⟩,⟨by (with_reducible repeat (first|refine bkN ?_ _|refine bkD ?_|refine bkA ?_ _));refine bkR ?_ NB108_110.out _;(with_reducible repeat (first|refine bkN ?_ _|refine bkD ?_|refine bkA ?_ _));refine bkR ?_ NB108_110.out _;(with_reducible repeat (first|refine bkN ?_ _|refine bkD ?_|refine bkA ?_ _));refine bkR ?_ NB108_110.out _;(with_reducible repeat (first|refine bkN ?_ _|refine bkD ?_|refine bkA ?_ _));refine bkR ?_ NB108_110.out _;(with_reducible repeat (first|refine bkN ?_ _|refine bkD ?_|refine bkA ?_ _));exact BK108.out⟩,⟨by repeat (first|(with_reducible first|exact HB.out|apply bdA|apply bdN|apply bd1|refine bdS ?_ GE108.out|refine bdS ?_ GE110.out)|exact HB.out)⟩⟩
      ·rw [if_neg c7] at H
       have c7b0:(((rd_T68 l0_1 x10_1).f2) == x4_1)=false:=beq_eq_false_iff_ne.mpr c7
       have c7b1:(((rd_T68 l0_1 x10_1).f2) != x4_1)=true:=bne_iff_ne.mpr c7
       simp only [Option.some.injEq,Prod.mk.injEq] at H
       obtain ⟨rfl,rfl⟩:=H
       have p109:0≤(x10_1:Int):=of_decide_eq_true (by first|(with_reducible assumption)|assumption)
       have q109:x10_1<(l0_1.length:Int):=of_decide_eq_true (by first|(with_reducible assumption)|assumption)
       obtain ⟨ad109,e109,hx109_0,hx109_1,hx109_2,hx109_3⟩:=at_T68 HR0_1.out x10_1 p109 q109
       cases e109
       replace hx109_0:=(HB.out.cell (World.block_lt_of_cell? w _ hx109_0)).trans hx109_0
       replace hx109_1:=(HB.out.cell (World.block_lt_of_cell? w _ hx109_1)).trans hx109_1
       replace hx109_2:=(HB.out.cell (World.block_lt_of_cell? w _ hx109_2)).trans hx109_2
       replace hx109_3:=(HB.out.cell (World.block_lt_of_cell? w _ hx109_3)).trans hx109_3
       replace p109:=eq_true p109
       replace q109:=eq_true q109
       go_wp2_with (first|((with_reducible refine gtD (N:=6) rfl ?_);(try (refine gate_guard (by rfl) ?_;dsimp only));refine bxE ?hg (N:=6) ?hd (cs:=#[.string (⟨#[]⟩:ByteArray),.int .i64 0,.int .i64 0,.int .i64 0]) (t:=68) ?hr ?_;(case hd=>rfl);(case hg=>rfl);(case hr=>first|(go_simp;done)|(go_simp;rfl));intro gb110 hg w21 hbox hb;have n0_:=As0.mk (bkB (g:=gb108) (o:=.cells #[.slice A0_0 l0_0.length c0_0,.slice (some ad109) l0_1.length c0_1,.slice A0_2 l0_2.length c0_2,.int .i64 a0_3] 26 (0,0)) (by (with_reducible repeat (first|refine bkN ?_ _|refine bkD ?_|refine bkA ?_ _));exact BK108.out) hb);have n1_:=As0.mk (bdT (by repeat (first|(with_reducible first|exact HB.out|apply bdA|apply bdN|apply bd1|refine bdS ?_ GE108.out)|exact HB.out)) hb);have n2_:=As0.mk (hbox);have n3_:=As0.mk ((by rw [hg];exact (bdZ (by repeat (first|(with_reducible first|exact HB.out|apply bdA|apply bdN|apply bd1|refine bdS ?_ GE108.out)|exact HB.out))):w.heap.size≤gb110));have n4_:=As0.mk ((by rw [hg];exact (bdZ (by repeat (first|(with_reducible first|exact HB.out|apply bdA|apply bdN|apply bd1|refine bdS ?_ GE108.out)|exact HB.out))):w.heap.size≤gb110));have n5_:=As0.mk ((by rw [hg];exact Nat.ne_of_lt (blk_lt (g:=gb108) (o:=.cells #[.slice A0_0 l0_0.length c0_0,.slice (some ad109) l0_1.length c0_1,.slice A0_2 l0_2.length c0_2,.int .i64 a0_3] 26 (0,0)) (by (with_reducible repeat (first|refine bkN ?_ _|refine bkD ?_|refine bkA ?_ _));exact BK108.out)):gb108≠gb110));have n6_:=As0.mk ((by rw [hg];exact Nat.ne_of_gt (blk_lt (g:=gb108) (o:=.cells #[.slice A0_0 l0_0.length c0_0,.slice (some ad109) l0_1.length c0_1,.slice A0_2 l0_2.length c0_2,.int .i64 a0_3] 26 (0,0)) (by (with_reducible repeat (first|refine bkN ?_ _|refine bkD ?_|refine bkA ?_ _));exact BK108.out)):gb110≠gb108));clear BK108;clear HB;have BK108:=n0_;have HB:=n1_;have BK110:=n2_;have GW110:=n3_;have GE110:=n4_;have NB108_110:=n5_;have NB110_108:=n6_;clear n0_ n1_ n2_ n3_ n4_ n5_ n6_;clear hb hbox hg;have hnb22:=NB110_108.out;have hnc22:=NB108_110.out;have hcz23_0:w21.cell? ⟨gb110,0,none⟩=some (.string (⟨#[]⟩:ByteArray)):=(bkC BK110.out 0).trans rfl;have hcz23_1:w21.cell? ⟨gb110,1,none⟩=some (.int .i64 0):=(bkC BK110.out 1).trans rfl;have hcz23_2:w21.cell? ⟨gb110,2,none⟩=some (.int .i64 0):=(bkC BK110.out 2).trans rfl;have hcz23_3:w21.cell? ⟨gb110,3,none⟩=some (.int .i64 0):=(bkC BK110.out 3).trans rfl;have hfz23_0:=bkF BK110.out 0;have hfz23_1:=bkF BK110.out 1;have hfz23_2:=bkF BK110.out 2;have hfz23_3:=bkF BK110.out 3))
       repeat (go_quiet (first|((with_reducible refine gtD (N:=6) rfl ?_);(try (refine gate_guard (by rfl) ?_;dsimp only));refine bxE ?hg (N:=6) ?hd (cs:=#[.string (⟨#[]⟩:ByteArray),.int .i64 0,.int .i64 0,.int .i64 0]) (t:=68) ?hr ?_;(case hd=>rfl);(case hg=>rfl);(case hr=>first|(go_simp;done)|(go_simp;rfl));intro gb110 hg w21 hbox hb;have n0_:=As0.mk (bkB (g:=gb108) (o:=.cells #[.slice A0_0 l0_0.length c0_0,.slice (some ad109) l0_1.length c0_1,.slice A0_2 l0_2.length c0_2,.int .i64 a0_3] 26 (0,0)) (by (with_reducible repeat (first|refine bkN ?_ _|refine bkD ?_|refine bkA ?_ _));exact BK108.out) hb);have n1_:=As0.mk (bdT (by repeat (first|(with_reducible first|exact HB.out|apply bdA|apply bdN|apply bd1|refine bdS ?_ GE108.out)|exact HB.out)) hb);have n2_:=As0.mk (hbox);have n3_:=As0.mk ((by rw [hg];exact (bdZ (by repeat (first|(with_reducible first|exact HB.out|apply bdA|apply bdN|apply bd1|refine bdS ?_ GE108.out)|exact HB.out))):w.heap.size≤gb110));have n4_:=As0.mk ((by rw [hg];exact (bdZ (by repeat (first|(with_reducible first|exact HB.out|apply bdA|apply bdN|apply bd1|refine bdS ?_ GE108.out)|exact HB.out))):w.heap.size≤gb110));have n5_:=As0.mk ((by rw [hg];exact Nat.ne_of_lt (blk_lt (g:=gb108) (o:=.cells #[.slice A0_0 l0_0.length c0_0,.slice (some ad109) l0_1.length c0_1,.slice A0_2 l0_2.length c0_2,.int .i64 a0_3] 26 (0,0)) (by (with_reducible repeat (first|refine bkN ?_ _|refine bkD ?_|refine bkA ?_ _));exact BK108.out)):gb108≠gb110));have n6_:=As0.mk ((by rw [hg];exact Nat.ne_of_gt (blk_lt (g:=gb108) (o:=.cells #[.slice A0_0 l0_0.length c0_0,.slice (some ad109) l0_1.length c0_1,.slice A0_2 l0_2.length c0_2,.int .i64 a0_3] 26 (0,0)) (by (with_reducible repeat (first|refine bkN ?_ _|refine bkD ?_|refine bkA ?_ _));exact BK108.out)):gb110≠gb108));clear BK108;clear HB;have BK108:=n0_;have HB:=n1_;have BK110:=n2_;have GW110:=n3_;have GE110:=n4_;have NB108_110:=n5_;have NB110_108:=n6_;clear n0_ n1_ n2_ n3_ n4_ n5_ n6_;clear hb hbox hg;have hnb22:=NB110_108.out;have hnc22:=NB108_110.out;have hcz23_0:w21.cell? ⟨gb110,0,none⟩=some (.string (⟨#[]⟩:ByteArray)):=(bkC BK110.out 0).trans rfl;have hcz23_1:w21.cell? ⟨gb110,1,none⟩=some (.int .i64 0):=(bkC BK110.out 1).trans rfl;have hcz23_2:w21.cell? ⟨gb110,2,none⟩=some (.int .i64 0):=(bkC BK110.out 2).trans rfl;have hcz23_3:w21.cell? ⟨gb110,3,none⟩=some (.int .i64 0):=(bkC BK110.out 3).trans rfl;have hfz23_0:=bkF BK110.out 0;have hfz23_1:=bkF BK110.out 1;have hfz23_2:=bkF BK110.out 2;have hfz23_3:=bkF BK110.out 3));try go_wp2_with (first|((with_reducible refine gtD (N:=6) rfl ?_);(try (refine gate_guard (by rfl) ?_;dsimp only));refine bxE ?hg (N:=6) ?hd (cs:=#[.string (⟨#[]⟩:ByteArray),.int .i64 0,.int .i64 0,.int .i64 0]) (t:=68) ?hr ?_;(case hd=>rfl);(case hg=>rfl);(case hr=>first|(go_simp;done)|(go_simp;rfl));intro gb110 hg w21 hbox hb;have n0_:=As0.mk (bkB (g:=gb108) (o:=.cells #[.slice A0_0 l0_0.length c0_0,.slice (some ad109) l0_1.length c0_1,.slice A0_2 l0_2.length c0_2,.int .i64 a0_3] 26 (0,0)) (by (with_reducible repeat (first|refine bkN ?_ _|refine bkD ?_|refine bkA ?_ _));exact BK108.out) hb);have n1_:=As0.mk (bdT (by repeat (first|(with_reducible first|exact HB.out|apply bdA|apply bdN|apply bd1|refine bdS ?_ GE108.out)|exact HB.out)) hb);have n2_:=As0.mk (hbox);have n3_:=As0.mk ((by rw [hg];exact (bdZ (by repeat (first|(with_reducible first|exact HB.out|apply bdA|apply bdN|apply bd1|refine bdS ?_ GE108.out)|exact HB.out))):w.heap.size≤gb110));have n4_:=As0.mk ((by rw [hg];exact (bdZ (by repeat (first|(with_reducible first|exact HB.out|apply bdA|apply bdN|apply bd1|refine bdS ?_ GE108.out)|exact HB.out))):w.heap.size≤gb110));have n5_:=As0.mk ((by rw [hg];exact Nat.ne_of_lt (blk_lt (g:=gb108) (o:=.cells #[.slice A0_0 l0_0.length c0_0,.slice (some ad109) l0_1.length c0_1,.slice A0_2 l0_2.length c0_2,.int .i64 a0_3] 26 (0,0)) (by (with_reducible repeat (first|refine bkN ?_ _|refine bkD ?_|refine bkA ?_ _));exact BK108.out)):gb108≠gb110));have n6_:=As0.mk ((by rw [hg];exact Nat.ne_of_gt (blk_lt (g:=gb108) (o:=.cells #[.slice A0_0 l0_0.length c0_0,.slice (some ad109) l0_1.length c0_1,.slice A0_2 l0_2.length c0_2,.int .i64 a0_3] 26 (0,0)) (by (with_reducible repeat (first|refine bkN ?_ _|refine bkD ?_|refine bkA ?_ _));exact BK108.out)):gb110≠gb108));clear BK108;clear HB;have BK108:=n0_;have HB:=n1_;have BK110:=n2_;have GW110:=n3_;have GE110:=n4_;have NB108_110:=n5_;have NB110_108:=n6_;clear n0_ n1_ n2_ n3_ n4_ n5_ n6_;clear hb hbox hg;have hnb22:=NB110_108.out;have hnc22:=NB108_110.out;have hcz23_0:w21.cell? ⟨gb110,0,none⟩=some (.string (⟨#[]⟩:ByteArray)):=(bkC BK110.out 0).trans rfl;have hcz23_1:w21.cell? ⟨gb110,1,none⟩=some (.int .i64 0):=(bkC BK110.out 1).trans rfl;have hcz23_2:w21.cell? ⟨gb110,2,none⟩=some (.int .i64 0):=(bkC BK110.out 2).trans rfl;have hcz23_3:w21.cell? ⟨gb110,3,none⟩=some (.int .i64 0):=(bkC BK110.out 3).trans rfl;have hfz23_0:=bkF BK110.out 0;have hfz23_1:=bkF BK110.out 1;have hfz23_2:=bkF BK110.out 2;have hfz23_3:=bkF BK110.out 3)))
       go_ret2
       exact ⟨by first|rfl|(simp [errW_none,errW_some] <;> rfl)|(simp [*,errW_none,errW_some] <;> rfl),by repeat (first|(with_reducible first|exact HB.out|apply bdA|apply bdN|apply bd1|refine bdS ?_ GE108.out|refine bdS ?_ GE110.out)|exact HB.out)⟩
     ·rw [if_neg c6] at H
      exact absurd H (by simp)
    ·rw [if_neg c5] at H
     exact absurd H (by simp)
   ·rw [if_neg c4] at H
    have c4b0:decide (x10_1<(l0_1.length:Int))=false:=decide_eq_false c4
    clear c4
    simp only [Option.some.injEq,Prod.mk.injEq] at H
    obtain ⟨rfl,rfl⟩:=H
    have hcz24_0:wr.cell? ⟨gb108,0,none⟩=some (.slice A0_0 l0_0.length c0_0):=(bkC BK108.out 0).trans rfl
    have hcz24_1:wr.cell? ⟨gb108,1,none⟩=some (.slice A0_1 l0_1.length c0_1):=(bkC BK108.out 1).trans rfl
    have hcz24_2:wr.cell? ⟨gb108,2,none⟩=some (.slice A0_2 l0_2.length c0_2):=(bkC BK108.out 2).trans rfl
    have hcz24_3:wr.cell? ⟨gb108,3,none⟩=some (.int .i64 a0_3):=(bkC BK108.out 3).trans rfl
    have hfz24_0:=bkF BK108.out 0
    have hfz24_1:=bkF BK108.out 1
    have hfz24_2:=bkF BK108.out 2
    have hfz24_3:=bkF BK108.out 3
    go_wp2
    repeat (go_quiet (fail);try go_wp2)
    go_ret2
    exact ⟨by first|rfl|(simp [errW_none,errW_some] <;> rfl)|(simp [*,errW_none,errW_some] <;> rfl),by repeat (first|(with_reducible first|exact HB.out|apply bdA|apply bdN|apply bd1|refine bdS ?_ GE108.out)|exact HB.out)⟩
def image_room.f (a0_0:ByteArray) (a0_1:Int) (a0_2:Int) (a0_3:Int) (a0_4:Int):Option (Int):=some (wrap64 (a0_4*(wrap64 ((wrap64 (a0_2+(Go.bits .andNot .i64 (wrap64 (a0_3+7)) 7)))+8))))
theorem image_room.calls (a0_0:ByteArray) (a0_1:Int) (a0_2:Int) (a0_3:Int) (a0_4:Int) (r:Int) (w:World) (h:image_room.f a0_0 a0_1 a0_2 a0_3 a0_4=some r) :
  Calls Try.prog 71 #[.agg #[.string a0_0,.int .i64 a0_1,.int .i64 a0_2,.int .i64 a0_3,.int .i64 a0_4]] w fun e w'=>e=.returned (.int .i64 r)∧Below w.heap.size w w':=by
 have hu56:=Try.underlying56
 have HB:=As0.mk (Below.refl w.heap.size w)
 have H:(some (wrap64 (a0_4*(wrap64 ((wrap64 (a0_2+(Go.bits .andNot .i64 (wrap64 (a0_3+7)) 7)))+8)))))=some r:=h
 clear h
 obtain rfl:=Option.some.inj H
 go_enter Try.func71,Try.ntmps71
 go_wp2_with (first|((with_reducible refine gtD (N:=1) rfl ?_);refine bxE ?hg (N:=1) ?hd (cs:=#[.string a0_0,.int .i64 a0_1,.int .i64 a0_2,.int .i64 a0_3,.int .i64 a0_4]) (t:=56) ?hr ?_;(case hd=>rfl);(case hg=>rfl);(case hr=>first|(go_simp;done)|(go_simp;rfl));intro gb111 hg w2 hbox hb;have n0_:=As0.mk (bdT (by repeat (first|(with_reducible first|exact HB.out|apply bdA|apply bdN|apply bd1)|exact HB.out)) hb);have n1_:=As0.mk (hbox);have n2_:=As0.mk ((by rw [hg];exact (bdZ (by repeat (first|(with_reducible first|exact HB.out|apply bdA|apply bdN|apply bd1)|exact HB.out))):w.heap.size≤gb111));have n3_:=As0.mk ((by rw [hg];exact (bdZ (by repeat (first|(with_reducible first|exact HB.out|apply bdA|apply bdN|apply bd1)|exact HB.out))):w.heap.size≤gb111));clear HB;have HB:=n0_;have BK111:=n1_;have GW111:=n2_;have GE111:=n3_;clear n0_ n1_ n2_ n3_;clear hb hbox hg;have hcz3_0:w2.cell? ⟨gb111,0,none⟩=some (.string a0_0):=(bkC BK111.out 0).trans rfl;have hcz3_1:w2.cell? ⟨gb111,1,none⟩=some (.int .i64 a0_1):=(bkC BK111.out 1).trans rfl;have hcz3_2:w2.cell? ⟨gb111,2,none⟩=some (.int .i64 a0_2):=(bkC BK111.out 2).trans rfl;have hcz3_3:w2.cell? ⟨gb111,3,none⟩=some (.int .i64 a0_3):=(bkC BK111.out 3).trans rfl;have hcz3_4:w2.cell? ⟨gb111,4,none⟩=some (.int .i64 a0_4):=(bkC BK111.out 4).trans rfl;have hfz3_0:=bkF BK111.out 0;have hfz3_1:=bkF BK111.out 1;have hfz3_2:=bkF BK111.out 2;have hfz3_3:=bkF BK111.out 3;have hfz3_4:=bkF BK111.out 4))
 go_ret
 exact ⟨by first|rfl|(simp [errW_none,errW_some] <;> rfl)|(simp [*,errW_none,errW_some] <;> rfl),by repeat (first|(with_reducible first|exact HB.out|apply bdA|apply bdN|apply bd1|refine bdS ?_ GE111.out)|exact HB.out)⟩
def imFt.f (a0_0:ByteArray) (a0_1:Int) (a0_2:Int) (a0_3:Int) (a0_4:Int):Option (Bool):=if a0_2≥1 then (if a0_2≤64 then (if a0_3≥1 then (if a0_3≤4096 then (if a0_4≥1 then (if a0_1=1 then (if a0_2=4 then (if a0_4≤65536 then ((image_room.f a0_0 a0_1 a0_2 a0_3 a0_4).bind fun t113=>(some (decide (t113≤16777216)))) else (some false)) else (if a0_4≤65536 then (if a0_1=2 then ((image_room.f a0_0 a0_1 a0_2 a0_3 a0_4).bind fun t114=>(some (decide (t114≤16777216)))) else (some false)) else (some false))) else (if a0_4≤65536 then (if a0_1=2 then ((image_room.f a0_0 a0_1 a0_2 a0_3 a0_4).bind fun t115=>(some (decide (t115≤16777216)))) else (some false)) else (some false))) else (if a0_1=1 then (if a0_2=4 then (some false) else (some false)) else (some false))) else (if a0_1=1 then (if a0_2=4 then (some false) else (some false)) else (some false))) else (if a0_1=1 then (if a0_2=4 then (some false) else (some false)) else (some false))) else (if a0_1=1 then (if a0_2=4 then (some false) else (some false)) else (some false))) else (if a0_1=1 then (if a0_2=4 then (some false) else (some false)) else (some false))
theorem imFt.calls (a0_0:ByteArray) (a0_1:Int) (a0_2:Int) (a0_3:Int) (a0_4:Int) (r:Bool) (w:World) (h:imFt.f a0_0 a0_1 a0_2 a0_3 a0_4=some r) :
  Calls Try.prog 70 #[.agg #[.string a0_0,.int .i64 a0_1,.int .i64 a0_2,.int .i64 a0_3,.int .i64 a0_4]] w fun e w'=>e=.returned (.bool r)∧Below w.heap.size w w':=by
 have hu56:=Try.underlying56
 have HB:=As0.mk (Below.refl w.heap.size w)
 have H:(if a0_2≥1 then (if a0_2≤64 then (if a0_3≥1 then (if a0_3≤4096 then (if a0_4≥1 then (if a0_1=1 then (if a0_2=4 then (if a0_4≤65536 then ((image_room.f a0_0 a0_1 a0_2 a0_3 a0_4).bind fun t113=>(some (decide (t113≤16777216)))) else (some false)) else (if a0_4≤65536 then (if a0_1=2 then ((image_room.f a0_0 a0_1 a0_2 a0_3 a0_4).bind fun t114=>(some (decide (t114≤16777216)))) else (some false)) else (some false))) else (if a0_4≤65536 then (if a0_1=2 then ((image_room.f a0_0 a0_1 a0_2 a0_3 a0_4).bind fun t115=>(some (decide (t115≤16777216)))) else (some false)) else (some false))) else (if a0_1=1 then (if a0_2=4 then (some false) else (some false)) else (some false))) else (if a0_1=1 then (if a0_2=4 then (some false) else (some false)) else (some false))) else (if a0_1=1 then (if a0_2=4 then (some false) else (some false)) else (some false))) else (if a0_1=1 then (if a0_2=4 then (some false) else (some false)) else (some false))) else (if a0_1=1 then (if a0_2=4 then (some false) else (some false)) else (some false)))=some r:=h
 clear h
 by_cases c2:a0_2≥1
 ·rw [if_pos c2] at H
  have c2b0:decide (1≤a0_2)=true:=decide_eq_true c2
  clear c2
  by_cases c3:a0_2≤64
  ·rw [if_pos c3] at H
   have c3b0:decide (a0_2≤64)=true:=decide_eq_true c3
   clear c3
   by_cases c4:a0_3≥1
   ·rw [if_pos c4] at H
    have c4b0:decide (1≤a0_3)=true:=decide_eq_true c4
    clear c4
    by_cases c5:a0_3≤4096
    ·rw [if_pos c5] at H
     have c5b0:decide (a0_3≤4096)=true:=decide_eq_true c5
     clear c5
     by_cases c6:a0_4≥1
     ·rw [if_pos c6] at H
      have c6b0:decide (1≤a0_4)=true:=decide_eq_true c6
      clear c6
      by_cases c7:a0_1=1
      ·rw [if_pos c7] at H
       have c7b0:(a0_1 == 1)=true:=beq_iff_eq.mpr c7
       have c7b1:(a0_1 != 1)=false:=bne_eq_false_iff_eq.mpr c7
       clear c7
       by_cases c8:a0_2=4
       ·rw [if_pos c8] at H
        have c8b0:(a0_2 == 4)=true:=beq_iff_eq.mpr c8
        have c8b1:(a0_2 != 4)=false:=bne_eq_false_iff_eq.mpr c8
        clear c8
        by_cases c9:a0_4≤65536
        ·rw [if_pos c9] at H
         have c9b0:decide (a0_4≤65536)=true:=decide_eq_true c9
         clear c9
         replace H:=Option.bind_eq_some_iff.mp H
         obtain ⟨t113,A100,H⟩:=H
         replace H:(some (decide (t113≤16777216)))=some r:=H
         have A10:=As0.mk A100
         clear A100
         obtain rfl:=Option.some.inj H
         go_enter Try.func70,Try.ntmps70
         go_wp2_with (first|((with_reducible refine gtD (N:=1) rfl ?_);refine bxE ?hg (N:=1) ?hd (cs:=#[.string a0_0,.int .i64 a0_1,.int .i64 a0_2,.int .i64 a0_3,.int .i64 a0_4]) (t:=56) ?hr ?_;(case hd=>rfl);(case hg=>rfl);(case hr=>first|(go_simp;done)|(go_simp;rfl));intro gb112 hg w11 hbox hb;have n0_:=As0.mk (bdT (by repeat (first|(with_reducible first|exact HB.out|apply bdA|apply bdN|apply bd1)|exact HB.out)) hb);have n1_:=As0.mk (hbox);have n2_:=As0.mk ((by rw [hg];exact (bdZ (by repeat (first|(with_reducible first|exact HB.out|apply bdA|apply bdN|apply bd1)|exact HB.out))):w.heap.size≤gb112));have n3_:=As0.mk ((by rw [hg];exact (bdZ (by repeat (first|(with_reducible first|exact HB.out|apply bdA|apply bdN|apply bd1)|exact HB.out))):w.heap.size≤gb112));clear HB;have HB:=n0_;have BK112:=n1_;have GW112:=n2_;have GE112:=n3_;clear n0_ n1_ n2_ n3_;clear hb hbox hg;have hcz12_0:w11.cell? ⟨gb112,0,none⟩=some (.string a0_0):=(bkC BK112.out 0).trans rfl;have hcz12_1:w11.cell? ⟨gb112,1,none⟩=some (.int .i64 a0_1):=(bkC BK112.out 1).trans rfl;have hcz12_2:w11.cell? ⟨gb112,2,none⟩=some (.int .i64 a0_2):=(bkC BK112.out 2).trans rfl;have hcz12_3:w11.cell? ⟨gb112,3,none⟩=some (.int .i64 a0_3):=(bkC BK112.out 3).trans rfl;have hcz12_4:w11.cell? ⟨gb112,4,none⟩=some (.int .i64 a0_4):=(bkC BK112.out 4).trans rfl;have hfz12_0:=bkF BK112.out 0;have hfz12_1:=bkF BK112.out 1;have hfz12_2:=bkF BK112.out 2;have hfz12_3:=bkF BK112.out 3;have hfz12_4:=bkF BK112.out 4)|(go_at_call 71;(with_reducible refine (image_room.calls a0_0 a0_1 a0_2 a0_3 a0_4 t113 _ A10.out).mono ?_);rintro e w13 ⟨rfl,hb⟩;have n0_:=As0.mk (bkB (g:=gb112) (o:=.cells #[.string a0_0,.int .i64 a0_1,.int .i64 a0_2,.int .i64 a0_3,.int .i64 a0_4] 56 (0,0)) (by (with_reducible repeat (first|refine bkN ?_ _|refine bkD ?_|refine bkA ?_ _));exact BK112.out) hb);have n1_:=As0.mk (bdT (by repeat (first|(with_reducible first|exact HB.out|apply bdA|apply bdN|apply bd1|refine bdS ?_ GE112.out)|exact HB.out)) hb);clear BK112;clear HB;have BK112:=n0_;have HB:=n1_;clear n0_ n1_;(try clear hb);(try clear hb2);(try clear hk);(try clear hi)))
         go_ret
         exact ⟨by first|rfl|(simp [errW_none,errW_some] <;> rfl)|(simp [*,errW_none,errW_some] <;> rfl),by repeat (first|(with_reducible first|exact HB.out|apply bdA|apply bdN|apply bd1|refine bdS ?_ GE112.out)|exact HB.out)⟩
        ·rw [if_neg c9] at H
         have c9b0:decide (a0_4≤65536)=false:=decide_eq_false c9
         clear c9
         obtain rfl:=Option.some.inj H
         go_enter Try.func70,Try.ntmps70
         go_wp2_with (first|((with_reducible refine gtD (N:=1) rfl ?_);refine bxE ?hg (N:=1) ?hd (cs:=#[.string a0_0,.int .i64 a0_1,.int .i64 a0_2,.int .i64 a0_3,.int .i64 a0_4]) (t:=56) ?hr ?_;(case hd=>rfl);(case hg=>rfl);(case hr=>first|(go_simp;done)|(go_simp;rfl));intro gb112 hg w14 hbox hb;have n0_:=As0.mk (bdT (by repeat (first|(with_reducible first|exact HB.out|apply bdA|apply bdN|apply bd1)|exact HB.out)) hb);have n1_:=As0.mk (hbox);have n2_:=As0.mk ((by rw [hg];exact (bdZ (by repeat (first|(with_reducible first|exact HB.out|apply bdA|apply bdN|apply bd1)|exact HB.out))):w.heap.size≤gb112));have n3_:=As0.mk ((by rw [hg];exact (bdZ (by repeat (first|(with_reducible first|exact HB.out|apply bdA|apply bdN|apply bd1)|exact HB.out))):w.heap.size≤gb112));clear HB;have HB:=n0_;have BK112:=n1_;have GW112:=n2_;have GE112:=n3_;clear n0_ n1_ n2_ n3_;clear hb hbox hg;have hcz15_0:w14.cell? ⟨gb112,0,none⟩=some (.string a0_0):=(bkC BK112.out 0).trans rfl;have hcz15_1:w14.cell? ⟨gb112,1,none⟩=some (.int .i64 a0_1):=(bkC BK112.out 1).trans rfl;have hcz15_2:w14.cell? ⟨gb112,2,none⟩=some (.int .i64 a0_2):=(bkC BK112.out 2).trans rfl;have hcz15_3:w14.cell? ⟨gb112,3,none⟩=some (.int .i64 a0_3):=(bkC BK112.out 3).trans rfl;have hcz15_4:w14.cell? ⟨gb112,4,none⟩=some (.int .i64 a0_4):=(bkC BK112.out 4).trans rfl;have hfz15_0:=bkF BK112.out 0;have hfz15_1:=bkF BK112.out 1;have hfz15_2:=bkF BK112.out 2;have hfz15_3:=bkF BK112.out 3;have hfz15_4:=bkF BK112.out 4))
         go_ret
         exact ⟨by first|rfl|(simp [errW_none,errW_some] <;> rfl)|(simp [*,errW_none,errW_some] <;> rfl),by repeat (first|(with_reducible first|exact HB.out|apply bdA|apply bdN|apply bd1|refine bdS ?_ GE112.out)|exact HB.out)⟩
       ·rw [if_neg c8] at H
        have c8b0:(a0_2 == 4)=false:=beq_eq_false_iff_ne.mpr c8
        have c8b1:(a0_2 != 4)=true:=bne_iff_ne.mpr c8
        by_cases c16:a0_4≤65536
        ·rw [if_pos c16] at H
         have c16b0:decide (a0_4≤65536)=true:=decide_eq_true c16
         clear c16
         by_cases c17:a0_1=2
         ·rw [if_pos c17] at H
          have c17b0:(a0_1 == 2)=true:=beq_iff_eq.mpr c17
          have c17b1:(a0_1 != 2)=false:=bne_eq_false_iff_eq.mpr c17
          clear c17
          replace H:=Option.bind_eq_some_iff.mp H
          obtain ⟨t114,A180,H⟩:=H
          replace H:(some (decide (t114≤16777216)))=some r:=H
          have A18:=As0.mk A180
          clear A180
          obtain rfl:=Option.some.inj H
          go_enter Try.func70,Try.ntmps70
          go_wp2_with (first|((with_reducible refine gtD (N:=1) rfl ?_);refine bxE ?hg (N:=1) ?hd (cs:=#[.string a0_0,.int .i64 a0_1,.int .i64 a0_2,.int .i64 a0_3,.int .i64 a0_4]) (t:=56) ?hr ?_;(case hd=>rfl);(case hg=>rfl);(case hr=>first|(go_simp;done)|(go_simp;rfl));intro gb112 hg w19 hbox hb;have n0_:=As0.mk (bdT (by repeat (first|(with_reducible first|exact HB.out|apply bdA|apply bdN|apply bd1)|exact HB.out)) hb);have n1_:=As0.mk (hbox);have n2_:=As0.mk ((by rw [hg];exact (bdZ (by repeat (first|(with_reducible first|exact HB.out|apply bdA|apply bdN|apply bd1)|exact HB.out))):w.heap.size≤gb112));have n3_:=As0.mk ((by rw [hg];exact (bdZ (by repeat (first|(with_reducible first|exact HB.out|apply bdA|apply bdN|apply bd1)|exact HB.out))):w.heap.size≤gb112));clear HB;have HB:=n0_;have BK112:=n1_;have GW112:=n2_;have GE112:=n3_;clear n0_ n1_ n2_ n3_;clear hb hbox hg;have hcz20_0:w19.cell? ⟨gb112,0,none⟩=some (.string a0_0):=(bkC BK112.out 0).trans rfl;have hcz20_1:w19.cell? ⟨gb112,1,none⟩=some (.int .i64 a0_1):=(bkC BK112.out 1).trans rfl;have hcz20_2:w19.cell? ⟨gb112,2,none⟩=some (.int .i64 a0_2):=(bkC BK112.out 2).trans rfl;have hcz20_3:w19.cell? ⟨gb112,3,none⟩=some (.int .i64 a0_3):=(bkC BK112.out 3).trans rfl;have hcz20_4:w19.cell? ⟨gb112,4,none⟩=some (.int .i64 a0_4):=(bkC BK112.out 4).trans rfl;have hfz20_0:=bkF BK112.out 0;have hfz20_1:=bkF BK112.out 1;have hfz20_2:=bkF BK112.out 2;have hfz20_3:=bkF BK112.out 3;have hfz20_4:=bkF BK112.out 4)|(go_at_call 71;(with_reducible refine (image_room.calls a0_0 a0_1 a0_2 a0_3 a0_4 t114 _ A18.out).mono ?_);rintro e w21 ⟨rfl,hb⟩;have n0_:=As0.mk (bkB (g:=gb112) (o:=.cells #[.string a0_0,.int .i64 a0_1,.int .i64 a0_2,.int .i64 a0_3,.int .i64 a0_4] 56 (0,0)) (by (with_reducible repeat (first|refine bkN ?_ _|refine bkD ?_|refine bkA ?_ _));exact BK112.out) hb);have n1_:=As0.mk (bdT (by repeat (first|(with_reducible first|exact HB.out|apply bdA|apply bdN|apply bd1|refine bdS ?_ GE112.out)|exact HB.out)) hb);clear BK112;clear HB;have BK112:=n0_;have HB:=n1_;clear n0_ n1_;(try clear hb);(try clear hb2);(try clear hk);(try clear hi)))
          go_ret
          exact ⟨by first|rfl|(simp [errW_none,errW_some] <;> rfl)|(simp [*,errW_none,errW_some] <;> rfl),by repeat (first|(with_reducible first|exact HB.out|apply bdA|apply bdN|apply bd1|refine bdS ?_ GE112.out)|exact HB.out)⟩
         ·rw [if_neg c17] at H
          have c17b0:(a0_1 == 2)=false:=beq_eq_false_iff_ne.mpr c17
          have c17b1:(a0_1 != 2)=true:=bne_iff_ne.mpr c17
          obtain rfl:=Option.some.inj H
          go_enter Try.func70,Try.ntmps70
          go_wp2_with (first|((with_reducible refine gtD (N:=1) rfl ?_);refine bxE ?hg (N:=1) ?hd (cs:=#[.string a0_0,.int .i64 a0_1,.int .i64 a0_2,.int .i64 a0_3,.int .i64 a0_4]) (t:=56) ?hr ?_;(case hd=>rfl);(case hg=>rfl);(case hr=>first|(go_simp;done)|(go_simp;rfl));intro gb112 hg w22 hbox hb;have n0_:=As0.mk (bdT (by repeat (first|(with_reducible first|exact HB.out|apply bdA|apply bdN|apply bd1)|exact HB.out)) hb);have n1_:=As0.mk (hbox);have n2_:=As0.mk ((by rw [hg];exact (bdZ (by repeat (first|(with_reducible first|exact HB.out|apply bdA|apply bdN|apply bd1)|exact HB.out))):w.heap.size≤gb112));have n3_:=As0.mk ((by rw [hg];exact (bdZ (by repeat (first|(with_reducible first|exact HB.out|apply bdA|apply bdN|apply bd1)|exact HB.out))):w.heap.size≤gb112));clear HB;have HB:=n0_;have BK112:=n1_;have GW112:=n2_;have GE112:=n3_;clear n0_ n1_ n2_ n3_;clear hb hbox hg;have hcz23_0:w22.cell? ⟨gb112,0,none⟩=some (.string a0_0):=(bkC BK112.out 0).trans rfl;have hcz23_1:w22.cell? ⟨gb112,1,none⟩=some (.int .i64 a0_1):=(bkC BK112.out 1).trans rfl;have hcz23_2:w22.cell? ⟨gb112,2,none⟩=some (.int .i64 a0_2):=(bkC BK112.out 2).trans rfl;have hcz23_3:w22.cell? ⟨gb112,3,none⟩=some (.int .i64 a0_3):=(bkC BK112.out 3).trans rfl;have hcz23_4:w22.cell? ⟨gb112,4,none⟩=some (.int .i64 a0_4):=(bkC BK112.out 4).trans rfl;have hfz23_0:=bkF BK112.out 0;have hfz23_1:=bkF BK112.out 1;have hfz23_2:=bkF BK112.out 2;have hfz23_3:=bkF BK112.out 3;have hfz23_4:=bkF BK112.out 4))
          go_ret
          exact ⟨by first|rfl|(simp [errW_none,errW_some] <;> rfl)|(simp [*,errW_none,errW_some] <;> rfl),by repeat (first|(with_reducible first|exact HB.out|apply bdA|apply bdN|apply bd1|refine bdS ?_ GE112.out)|exact HB.out)⟩
        ·rw [if_neg c16] at H
         have c16b0:decide (a0_4≤65536)=false:=decide_eq_false c16
         clear c16
         obtain rfl:=Option.some.inj H
         go_enter Try.func70,Try.ntmps70
         go_wp2_with (first|((with_reducible refine gtD (N:=1) rfl ?_);refine bxE ?hg (N:=1) ?hd (cs:=#[.string a0_0,.int .i64 a0_1,.int .i64 a0_2,.int .i64 a0_3,.int .i64 a0_4]) (t:=56) ?hr ?_;(case hd=>rfl);(case hg=>rfl);(case hr=>first|(go_simp;done)|(go_simp;rfl));intro gb112 hg w24 hbox hb;have n0_:=As0.mk (bdT (by repeat (first|(with_reducible first|exact HB.out|apply bdA|apply bdN|apply bd1)|exact HB.out)) hb);have n1_:=As0.mk (hbox);have n2_:=As0.mk ((by rw [hg];exact (bdZ (by repeat (first|(with_reducible first|exact HB.out|apply bdA|apply bdN|apply bd1)|exact HB.out))):w.heap.size≤gb112));have n3_:=As0.mk ((by rw [hg];exact (bdZ (by repeat (first|(with_reducible first|exact HB.out|apply bdA|apply bdN|apply bd1)|exact HB.out))):w.heap.size≤gb112));clear HB;have HB:=n0_;have BK112:=n1_;have GW112:=n2_;have GE112:=n3_;clear n0_ n1_ n2_ n3_;clear hb hbox hg;have hcz25_0:w24.cell? ⟨gb112,0,none⟩=some (.string a0_0):=(bkC BK112.out 0).trans rfl;have hcz25_1:w24.cell? ⟨gb112,1,none⟩=some (.int .i64 a0_1):=(bkC BK112.out 1).trans rfl;have hcz25_2:w24.cell? ⟨gb112,2,none⟩=some (.int .i64 a0_2):=(bkC BK112.out 2).trans rfl;have hcz25_3:w24.cell? ⟨gb112,3,none⟩=some (.int .i64 a0_3):=(bkC BK112.out 3).trans rfl;have hcz25_4:w24.cell? ⟨gb112,4,none⟩=some (.int .i64 a0_4):=(bkC BK112.out 4).trans rfl;have hfz25_0:=bkF BK112.out 0;have hfz25_1:=bkF BK112.out 1;have hfz25_2:=bkF BK112.out 2;have hfz25_3:=bkF BK112.out 3;have hfz25_4:=bkF BK112.out 4))
         go_ret
         exact ⟨by first|rfl|(simp [errW_none,errW_some] <;> rfl)|(simp [*,errW_none,errW_some] <;> rfl),by repeat (first|(with_reducible first|exact HB.out|apply bdA|apply bdN|apply bd1|refine bdS ?_ GE112.out)|exact HB.out)⟩
      ·rw [if_neg c7] at H
       have c7b0:(a0_1 == 1)=false:=beq_eq_false_iff_ne.mpr c7
       have c7b1:(a0_1 != 1)=true:=bne_iff_ne.mpr c7
       by_cases c26:a0_4≤65536
       ·rw [if_pos c26] at H
        have c26b0:decide (a0_4≤65536)=true:=decide_eq_true c26
        clear c26
        by_cases c27:a0_1=2
        ·rw [if_pos c27] at H
         have c27b0:(a0_1 == 2)=true:=beq_iff_eq.mpr c27
         have c27b1:(a0_1 != 2)=false:=bne_eq_false_iff_eq.mpr c27
         clear c27
         replace H:=Option.bind_eq_some_iff.mp H
         obtain ⟨t115,A280,H⟩:=H
         replace H:(some (decide (t115≤16777216)))=some r:=H
         have A28:=As0.mk A280
         clear A280
         obtain rfl:=Option.some.inj H
         go_enter Try.func70,Try.ntmps70
         go_wp2_with (first|((with_reducible refine gtD (N:=1) rfl ?_);refine bxE ?hg (N:=1) ?hd (cs:=#[.string a0_0,.int .i64 a0_1,.int .i64 a0_2,.int .i64 a0_3,.int .i64 a0_4]) (t:=56) ?hr ?_;(case hd=>rfl);(case hg=>rfl);(case hr=>first|(go_simp;done)|(go_simp;rfl));intro gb112 hg w29 hbox hb;have n0_:=As0.mk (bdT (by repeat (first|(with_reducible first|exact HB.out|apply bdA|apply bdN|apply bd1)|exact HB.out)) hb);have n1_:=As0.mk (hbox);have n2_:=As0.mk ((by rw [hg];exact (bdZ (by repeat (first|(with_reducible first|exact HB.out|apply bdA|apply bdN|apply bd1)|exact HB.out))):w.heap.size≤gb112));have n3_:=As0.mk ((by rw [hg];exact (bdZ (by repeat (first|(with_reducible first|exact HB.out|apply bdA|apply bdN|apply bd1)|exact HB.out))):w.heap.size≤gb112));clear HB;have HB:=n0_;have BK112:=n1_;have GW112:=n2_;have GE112:=n3_;clear n0_ n1_ n2_ n3_;clear hb hbox hg;have hcz30_0:w29.cell? ⟨gb112,0,none⟩=some (.string a0_0):=(bkC BK112.out 0).trans rfl;have hcz30_1:w29.cell? ⟨gb112,1,none⟩=some (.int .i64 a0_1):=(bkC BK112.out 1).trans rfl;have hcz30_2:w29.cell? ⟨gb112,2,none⟩=some (.int .i64 a0_2):=(bkC BK112.out 2).trans rfl;have hcz30_3:w29.cell? ⟨gb112,3,none⟩=some (.int .i64 a0_3):=(bkC BK112.out 3).trans rfl;have hcz30_4:w29.cell? ⟨gb112,4,none⟩=some (.int .i64 a0_4):=(bkC BK112.out 4).trans rfl;have hfz30_0:=bkF BK112.out 0;have hfz30_1:=bkF BK112.out 1;have hfz30_2:=bkF BK112.out 2;have hfz30_3:=bkF BK112.out 3;have hfz30_4:=bkF BK112.out 4)|(go_at_call 71;(with_reducible refine (image_room.calls a0_0 a0_1 a0_2 a0_3 a0_4 t115 _ A28.out).mono ?_);rintro e w31 ⟨rfl,hb⟩;have n0_:=As0.mk (bkB (g:=gb112) (o:=.cells #[.string a0_0,.int .i64 a0_1,.int .i64 a0_2,.int .i64 a0_3,.int .i64 a0_4] 56 (0,0)) (by (with_reducible repeat (first|refine bkN ?_ _|refine bkD ?_|refine bkA ?_ _));exact BK112.out) hb);have n1_:=As0.mk (bdT (by repeat (first|(with_reducible first|exact HB.out|apply bdA|apply bdN|apply bd1|refine bdS ?_ GE112.out)|exact HB.out)) hb);clear BK112;clear HB;have BK112:=n0_;have HB:=n1_;clear n0_ n1_;(try clear hb);(try clear hb2);(try clear hk);(try clear hi)))
         go_ret
         exact ⟨by first|rfl|(simp [errW_none,errW_some] <;> rfl)|(simp [*,errW_none,errW_some] <;> rfl),by repeat (first|(with_reducible first|exact HB.out|apply bdA|apply bdN|apply bd1|refine bdS ?_ GE112.out)|exact HB.out)⟩
        ·rw [if_neg c27] at H
         have c27b0:(a0_1 == 2)=false:=beq_eq_false_iff_ne.mpr c27
         have c27b1:(a0_1 != 2)=true:=bne_iff_ne.mpr c27
         obtain rfl:=Option.some.inj H
         go_enter Try.func70,Try.ntmps70
         go_wp2_with (first|((with_reducible refine gtD (N:=1) rfl ?_);refine bxE ?hg (N:=1) ?hd (cs:=#[.string a0_0,.int .i64 a0_1,.int .i64 a0_2,.int .i64 a0_3,.int .i64 a0_4]) (t:=56) ?hr ?_;(case hd=>rfl);(case hg=>rfl);(case hr=>first|(go_simp;done)|(go_simp;rfl));intro gb112 hg w32 hbox hb;have n0_:=As0.mk (bdT (by repeat (first|(with_reducible first|exact HB.out|apply bdA|apply bdN|apply bd1)|exact HB.out)) hb);have n1_:=As0.mk (hbox);have n2_:=As0.mk ((by rw [hg];exact (bdZ (by repeat (first|(with_reducible first|exact HB.out|apply bdA|apply bdN|apply bd1)|exact HB.out))):w.heap.size≤gb112));have n3_:=As0.mk ((by rw [hg];exact (bdZ (by repeat (first|(with_reducible first|exact HB.out|apply bdA|apply bdN|apply bd1)|exact HB.out))):w.heap.size≤gb112));clear HB;have HB:=n0_;have BK112:=n1_;have GW112:=n2_;have GE112:=n3_;clear n0_ n1_ n2_ n3_;clear hb hbox hg;have hcz33_0:w32.cell? ⟨gb112,0,none⟩=some (.string a0_0):=(bkC BK112.out 0).trans rfl;have hcz33_1:w32.cell? ⟨gb112,1,none⟩=some (.int .i64 a0_1):=(bkC BK112.out 1).trans rfl;have hcz33_2:w32.cell? ⟨gb112,2,none⟩=some (.int .i64 a0_2):=(bkC BK112.out 2).trans rfl;have hcz33_3:w32.cell? ⟨gb112,3,none⟩=some (.int .i64 a0_3):=(bkC BK112.out 3).trans rfl;have hcz33_4:w32.cell? ⟨gb112,4,none⟩=some (.int .i64 a0_4):=(bkC BK112.out 4).trans rfl;have hfz33_0:=bkF BK112.out 0;have hfz33_1:=bkF BK112.out 1;have hfz33_2:=bkF BK112.out 2;have hfz33_3:=bkF BK112.out 3;have hfz33_4:=bkF BK112.out 4))
         go_ret
         exact ⟨by first|rfl|(simp [errW_none,errW_some] <;> rfl)|(simp [*,errW_none,errW_some] <;> rfl),by repeat (first|(with_reducible first|exact HB.out|apply bdA|apply bdN|apply bd1|refine bdS ?_ GE112.out)|exact HB.out)⟩
       ·rw [if_neg c26] at H
        have c26b0:decide (a0_4≤65536)=false:=decide_eq_false c26
        clear c26
        obtain rfl:=Option.some.inj H
        go_enter Try.func70,Try.ntmps70
        go_wp2_with (first|((with_reducible refine gtD (N:=1) rfl ?_);refine bxE ?hg (N:=1) ?hd (cs:=#[.string a0_0,.int .i64 a0_1,.int .i64 a0_2,.int .i64 a0_3,.int .i64 a0_4]) (t:=56) ?hr ?_;(case hd=>rfl);(case hg=>rfl);(case hr=>first|(go_simp;done)|(go_simp;rfl));intro gb112 hg w34 hbox hb;have n0_:=As0.mk (bdT (by repeat (first|(with_reducible first|exact HB.out|apply bdA|apply bdN|apply bd1)|exact HB.out)) hb);have n1_:=As0.mk (hbox);have n2_:=As0.mk ((by rw [hg];exact (bdZ (by repeat (first|(with_reducible first|exact HB.out|apply bdA|apply bdN|apply bd1)|exact HB.out))):w.heap.size≤gb112));have n3_:=As0.mk ((by rw [hg];exact (bdZ (by repeat (first|(with_reducible first|exact HB.out|apply bdA|apply bdN|apply bd1)|exact HB.out))):w.heap.size≤gb112));clear HB;have HB:=n0_;have BK112:=n1_;have GW112:=n2_;have GE112:=n3_;clear n0_ n1_ n2_ n3_;clear hb hbox hg;have hcz35_0:w34.cell? ⟨gb112,0,none⟩=some (.string a0_0):=(bkC BK112.out 0).trans rfl;have hcz35_1:w34.cell? ⟨gb112,1,none⟩=some (.int .i64 a0_1):=(bkC BK112.out 1).trans rfl;have hcz35_2:w34.cell? ⟨gb112,2,none⟩=some (.int .i64 a0_2):=(bkC BK112.out 2).trans rfl;have hcz35_3:w34.cell? ⟨gb112,3,none⟩=some (.int .i64 a0_3):=(bkC BK112.out 3).trans rfl;have hcz35_4:w34.cell? ⟨gb112,4,none⟩=some (.int .i64 a0_4):=(bkC BK112.out 4).trans rfl;have hfz35_0:=bkF BK112.out 0;have hfz35_1:=bkF BK112.out 1;have hfz35_2:=bkF BK112.out 2;have hfz35_3:=bkF BK112.out 3;have hfz35_4:=bkF BK112.out 4))
        go_ret
        exact ⟨by first|rfl|(simp [errW_none,errW_some] <;> rfl)|(simp [*,errW_none,errW_some] <;> rfl),by repeat (first|(with_reducible first|exact HB.out|apply bdA|apply bdN|apply bd1|refine bdS ?_ GE112.out)|exact HB.out)⟩
     ·rw [if_neg c6] at H
      have c6b0:decide (1≤a0_4)=false:=decide_eq_false c6
      clear c6
      by_cases c36:a0_1=1
      ·rw [if_pos c36] at H
       have c36b0:(a0_1 == 1)=true:=beq_iff_eq.mpr c36
       have c36b1:(a0_1 != 1)=false:=bne_eq_false_iff_eq.mpr c36
       clear c36
       by_cases c37:a0_2=4
       ·rw [if_pos c37] at H
        have c37b0:(a0_2 == 4)=true:=beq_iff_eq.mpr c37
        have c37b1:(a0_2 != 4)=false:=bne_eq_false_iff_eq.mpr c37
        clear c37
        obtain rfl:=Option.some.inj H
        go_enter Try.func70,Try.ntmps70
        go_wp2_with (first|((with_reducible refine gtD (N:=1) rfl ?_);refine bxE ?hg (N:=1) ?hd (cs:=#[.string a0_0,.int .i64 a0_1,.int .i64 a0_2,.int .i64 a0_3,.int .i64 a0_4]) (t:=56) ?hr ?_;(case hd=>rfl);(case hg=>rfl);(case hr=>first|(go_simp;done)|(go_simp;rfl));intro gb112 hg w38 hbox hb;have n0_:=As0.mk (bdT (by repeat (first|(with_reducible first|exact HB.out|apply bdA|apply bdN|apply bd1)|exact HB.out)) hb);have n1_:=As0.mk (hbox);have n2_:=As0.mk ((by rw [hg];exact (bdZ (by repeat (first|(with_reducible first|exact HB.out|apply bdA|apply bdN|apply bd1)|exact HB.out))):w.heap.size≤gb112));have n3_:=As0.mk ((by rw [hg];exact (bdZ (by repeat (first|(with_reducible first|exact HB.out|apply bdA|apply bdN|apply bd1)|exact HB.out))):w.heap.size≤gb112));clear HB;have HB:=n0_;have BK112:=n1_;have GW112:=n2_;have GE112:=n3_;clear n0_ n1_ n2_ n3_;clear hb hbox hg;have hcz39_0:w38.cell? ⟨gb112,0,none⟩=some (.string a0_0):=(bkC BK112.out 0).trans rfl;have hcz39_1:w38.cell? ⟨gb112,1,none⟩=some (.int .i64 a0_1):=(bkC BK112.out 1).trans rfl;have hcz39_2:w38.cell? ⟨gb112,2,none⟩=some (.int .i64 a0_2):=(bkC BK112.out 2).trans rfl;have hcz39_3:w38.cell? ⟨gb112,3,none⟩=some (.int .i64 a0_3):=(bkC BK112.out 3).trans rfl;have hcz39_4:w38.cell? ⟨gb112,4,none⟩=some (.int .i64 a0_4):=(bkC BK112.out 4).trans rfl;have hfz39_0:=bkF BK112.out 0;have hfz39_1:=bkF BK112.out 1;have hfz39_2:=bkF BK112.out 2;have hfz39_3:=bkF BK112.out 3;have hfz39_4:=bkF BK112.out 4))
        go_ret
        exact ⟨by first|rfl|(simp [errW_none,errW_some] <;> rfl)|(simp [*,errW_none,errW_some] <;> rfl),by repeat (first|(with_reducible first|exact HB.out|apply bdA|apply bdN|apply bd1|refine bdS ?_ GE112.out)|exact HB.out)⟩
       ·rw [if_neg c37] at H
        have c37b0:(a0_2 == 4)=false:=beq_eq_false_iff_ne.mpr c37
        have c37b1:(a0_2 != 4)=true:=bne_iff_ne.mpr c37
        obtain rfl:=Option.some.inj H
        go_enter Try.func70,Try.ntmps70
        go_wp2_with (first|((with_reducible refine gtD (N:=1) rfl ?_);refine bxE ?hg (N:=1) ?hd (cs:=#[.string a0_0,.int .i64 a0_1,.int .i64 a0_2,.int .i64 a0_3,.int .i64 a0_4]) (t:=56) ?hr ?_;(case hd=>rfl);(case hg=>rfl);(case hr=>first|(go_simp;done)|(go_simp;rfl));intro gb112 hg w40 hbox hb;have n0_:=As0.mk (bdT (by repeat (first|(with_reducible first|exact HB.out|apply bdA|apply bdN|apply bd1)|exact HB.out)) hb);have n1_:=As0.mk (hbox);have n2_:=As0.mk ((by rw [hg];exact (bdZ (by repeat (first|(with_reducible first|exact HB.out|apply bdA|apply bdN|apply bd1)|exact HB.out))):w.heap.size≤gb112));have n3_:=As0.mk ((by rw [hg];exact (bdZ (by repeat (first|(with_reducible first|exact HB.out|apply bdA|apply bdN|apply bd1)|exact HB.out))):w.heap.size≤gb112));clear HB;have HB:=n0_;have BK112:=n1_;have GW112:=n2_;have GE112:=n3_;clear n0_ n1_ n2_ n3_;clear hb hbox hg;have hcz41_0:w40.cell? ⟨gb112,0,none⟩=some (.string a0_0):=(bkC BK112.out 0).trans rfl;have hcz41_1:w40.cell? ⟨gb112,1,none⟩=some (.int .i64 a0_1):=(bkC BK112.out 1).trans rfl;have hcz41_2:w40.cell? ⟨gb112,2,none⟩=some (.int .i64 a0_2):=(bkC BK112.out 2).trans rfl;have hcz41_3:w40.cell? ⟨gb112,3,none⟩=some (.int .i64 a0_3):=(bkC BK112.out 3).trans rfl;have hcz41_4:w40.cell? ⟨gb112,4,none⟩=some (.int .i64 a0_4):=(bkC BK112.out 4).trans rfl;have hfz41_0:=bkF BK112.out 0;have hfz41_1:=bkF BK112.out 1;have hfz41_2:=bkF BK112.out 2;have hfz41_3:=bkF BK112.out 3;have hfz41_4:=bkF BK112.out 4))
        go_ret
        exact ⟨by first|rfl|(simp [errW_none,errW_some] <;> rfl)|(simp [*,errW_none,errW_some] <;> rfl),by repeat (first|(with_reducible first|exact HB.out|apply bdA|apply bdN|apply bd1|refine bdS ?_ GE112.out)|exact HB.out)⟩
      ·rw [if_neg c36] at H
       have c36b0:(a0_1 == 1)=false:=beq_eq_false_iff_ne.mpr c36
       have c36b1:(a0_1 != 1)=true:=bne_iff_ne.mpr c36
       obtain rfl:=Option.some.inj H
       go_enter Try.func70,Try.ntmps70
       go_wp2_with (first|((with_reducible refine gtD (N:=1) rfl ?_);refine bxE ?hg (N:=1) ?hd (cs:=#[.string a0_0,.int .i64 a0_1,.int .i64 a0_2,.int .i64 a0_3,.int .i64 a0_4]) (t:=56) ?hr ?_;(case hd=>rfl);(case hg=>rfl);(case hr=>first|(go_simp;done)|(go_simp;rfl));intro gb112 hg w42 hbox hb;have n0_:=As0.mk (bdT (by repeat (first|(with_reducible first|exact HB.out|apply bdA|apply bdN|apply bd1)|exact HB.out)) hb);have n1_:=As0.mk (hbox);have n2_:=As0.mk ((by rw [hg];exact (bdZ (by repeat (first|(with_reducible first|exact HB.out|apply bdA|apply bdN|apply bd1)|exact HB.out))):w.heap.size≤gb112));have n3_:=As0.mk ((by rw [hg];exact (bdZ (by repeat (first|(with_reducible first|exact HB.out|apply bdA|apply bdN|apply bd1)|exact HB.out))):w.heap.size≤gb112));clear HB;have HB:=n0_;have BK112:=n1_;have GW112:=n2_;have GE112:=n3_;clear n0_ n1_ n2_ n3_;clear hb hbox hg;have hcz43_0:w42.cell? ⟨gb112,0,none⟩=some (.string a0_0):=(bkC BK112.out 0).trans rfl;have hcz43_1:w42.cell? ⟨gb112,1,none⟩=some (.int .i64 a0_1):=(bkC BK112.out 1).trans rfl;have hcz43_2:w42.cell? ⟨gb112,2,none⟩=some (.int .i64 a0_2):=(bkC BK112.out 2).trans rfl;have hcz43_3:w42.cell? ⟨gb112,3,none⟩=some (.int .i64 a0_3):=(bkC BK112.out 3).trans rfl;have hcz43_4:w42.cell? ⟨gb112,4,none⟩=some (.int .i64 a0_4):=(bkC BK112.out 4).trans rfl;have hfz43_0:=bkF BK112.out 0;have hfz43_1:=bkF BK112.out 1;have hfz43_2:=bkF BK112.out 2;have hfz43_3:=bkF BK112.out 3;have hfz43_4:=bkF BK112.out 4))
       go_ret
       exact ⟨by first|rfl|(simp [errW_none,errW_some] <;> rfl)|(simp [*,errW_none,errW_some] <;> rfl),by repeat (first|(with_reducible first|exact HB.out|apply bdA|apply bdN|apply bd1|refine bdS ?_ GE112.out)|exact HB.out)⟩
    ·rw [if_neg c5] at H
     have c5b0:decide (a0_3≤4096)=false:=decide_eq_false c5
     clear c5
     by_cases c44:a0_1=1
     ·rw [if_pos c44] at H
      have c44b0:(a0_1 == 1)=true:=beq_iff_eq.mpr c44
      have c44b1:(a0_1 != 1)=false:=bne_eq_false_iff_eq.mpr c44
      clear c44
      by_cases c45:a0_2=4
      ·rw [if_pos c45] at H
       have c45b0:(a0_2 == 4)=true:=beq_iff_eq.mpr c45
       have c45b1:(a0_2 != 4)=false:=bne_eq_false_iff_eq.mpr c45
       clear c45
       obtain rfl:=Option.some.inj H
       go_enter Try.func70,Try.ntmps70
       go_wp2_with (first|((with_reducible refine gtD (N:=1) rfl ?_);refine bxE ?hg (N:=1) ?hd (cs:=#[.string a0_0,.int .i64 a0_1,.int .i64 a0_2,.int .i64 a0_3,.int .i64 a0_4]) (t:=56) ?hr ?_;(case hd=>rfl);(case hg=>rfl);(case hr=>first|(go_simp;done)|(go_simp;rfl));intro gb112 hg w46 hbox hb;have n0_:=As0.mk (bdT (by repeat (first|(with_reducible first|exact HB.out|apply bdA|apply bdN|apply bd1)|exact HB.out)) hb);have n1_:=As0.mk (hbox);have n2_:=As0.mk ((by rw [hg];exact (bdZ (by repeat (first|(with_reducible first|exact HB.out|apply bdA|apply bdN|apply bd1)|exact HB.out))):w.heap.size≤gb112));have n3_:=As0.mk ((by rw [hg];exact (bdZ (by repeat (first|(with_reducible first|exact HB.out|apply bdA|apply bdN|apply bd1)|exact HB.out))):w.heap.size≤gb112));clear HB;have HB:=n0_;have BK112:=n1_;have GW112:=n2_;have GE112:=n3_;clear n0_ n1_ n2_ n3_;clear hb hbox hg;have hcz47_0:w46.cell? ⟨gb112,0,none⟩=some (.string a0_0):=(bkC BK112.out 0).trans rfl;have hcz47_1:w46.cell? ⟨gb112,1,none⟩=some (.int .i64 a0_1):=(bkC BK112.out 1).trans rfl;have hcz47_2:w46.cell? ⟨gb112,2,none⟩=some (.int .i64 a0_2):=(bkC BK112.out 2).trans rfl;have hcz47_3:w46.cell? ⟨gb112,3,none⟩=some (.int .i64 a0_3):=(bkC BK112.out 3).trans rfl;have hcz47_4:w46.cell? ⟨gb112,4,none⟩=some (.int .i64 a0_4):=(bkC BK112.out 4).trans rfl;have hfz47_0:=bkF BK112.out 0;have hfz47_1:=bkF BK112.out 1;have hfz47_2:=bkF BK112.out 2;have hfz47_3:=bkF BK112.out 3;have hfz47_4:=bkF BK112.out 4))
       go_ret
       exact ⟨by first|rfl|(simp [errW_none,errW_some] <;> rfl)|(simp [*,errW_none,errW_some] <;> rfl),by repeat (first|(with_reducible first|exact HB.out|apply bdA|apply bdN|apply bd1|refine bdS ?_ GE112.out)|exact HB.out)⟩
      ·rw [if_neg c45] at H
       have c45b0:(a0_2 == 4)=false:=beq_eq_false_iff_ne.mpr c45
       have c45b1:(a0_2 != 4)=true:=bne_iff_ne.mpr c45
       obtain rfl:=Option.some.inj H
       go_enter Try.func70,Try.ntmps70
       go_wp2_with (first|((with_reducible refine gtD (N:=1) rfl ?_);refine bxE ?hg (N:=1) ?hd (cs:=#[.string a0_0,.int .i64 a0_1,.int .i64 a0_2,.int .i64 a0_3,.int .i64 a0_4]) (t:=56) ?hr ?_;(case hd=>rfl);(case hg=>rfl);(case hr=>first|(go_simp;done)|(go_simp;rfl));intro gb112 hg w48 hbox hb;have n0_:=As0.mk (bdT (by repeat (first|(with_reducible first|exact HB.out|apply bdA|apply bdN|apply bd1)|exact HB.out)) hb);have n1_:=As0.mk (hbox);have n2_:=As0.mk ((by rw [hg];exact (bdZ (by repeat (first|(with_reducible first|exact HB.out|apply bdA|apply bdN|apply bd1)|exact HB.out))):w.heap.size≤gb112));have n3_:=As0.mk ((by rw [hg];exact (bdZ (by repeat (first|(with_reducible first|exact HB.out|apply bdA|apply bdN|apply bd1)|exact HB.out))):w.heap.size≤gb112));clear HB;have HB:=n0_;have BK112:=n1_;have GW112:=n2_;have GE112:=n3_;clear n0_ n1_ n2_ n3_;clear hb hbox hg;have hcz49_0:w48.cell? ⟨gb112,0,none⟩=some (.string a0_0):=(bkC BK112.out 0).trans rfl;have hcz49_1:w48.cell? ⟨gb112,1,none⟩=some (.int .i64 a0_1):=(bkC BK112.out 1).trans rfl;have hcz49_2:w48.cell? ⟨gb112,2,none⟩=some (.int .i64 a0_2):=(bkC BK112.out 2).trans rfl;have hcz49_3:w48.cell? ⟨gb112,3,none⟩=some (.int .i64 a0_3):=(bkC BK112.out 3).trans rfl;have hcz49_4:w48.cell? ⟨gb112,4,none⟩=some (.int .i64 a0_4):=(bkC BK112.out 4).trans rfl;have hfz49_0:=bkF BK112.out 0;have hfz49_1:=bkF BK112.out 1;have hfz49_2:=bkF BK112.out 2;have hfz49_3:=bkF BK112.out 3;have hfz49_4:=bkF BK112.out 4))
       go_ret
       exact ⟨by first|rfl|(simp [errW_none,errW_some] <;> rfl)|(simp [*,errW_none,errW_some] <;> rfl),by repeat (first|(with_reducible first|exact HB.out|apply bdA|apply bdN|apply bd1|refine bdS ?_ GE112.out)|exact HB.out)⟩
     ·rw [if_neg c44] at H
      have c44b0:(a0_1 == 1)=false:=beq_eq_false_iff_ne.mpr c44
      have c44b1:(a0_1 != 1)=true:=bne_iff_ne.mpr c44
      obtain rfl:=Option.some.inj H
      go_enter Try.func70,Try.ntmps70
      go_wp2_with (first|((with_reducible refine gtD (N:=1) rfl ?_);refine bxE ?hg (N:=1) ?hd (cs:=#[.string a0_0,.int .i64 a0_1,.int .i64 a0_2,.int .i64 a0_3,.int .i64 a0_4]) (t:=56) ?hr ?_;(case hd=>rfl);(case hg=>rfl);(case hr=>first|(go_simp;done)|(go_simp;rfl));intro gb112 hg w50 hbox hb;have n0_:=As0.mk (bdT (by repeat (first|(with_reducible first|exact HB.out|apply bdA|apply bdN|apply bd1)|exact HB.out)) hb);have n1_:=As0.mk (hbox);have n2_:=As0.mk ((by rw [hg];exact (bdZ (by repeat (first|(with_reducible first|exact HB.out|apply bdA|apply bdN|apply bd1)|exact HB.out))):w.heap.size≤gb112));have n3_:=As0.mk ((by rw [hg];exact (bdZ (by repeat (first|(with_reducible first|exact HB.out|apply bdA|apply bdN|apply bd1)|exact HB.out))):w.heap.size≤gb112));clear HB;have HB:=n0_;have BK112:=n1_;have GW112:=n2_;have GE112:=n3_;clear n0_ n1_ n2_ n3_;clear hb hbox hg;have hcz51_0:w50.cell? ⟨gb112,0,none⟩=some (.string a0_0):=(bkC BK112.out 0).trans rfl;have hcz51_1:w50.cell? ⟨gb112,1,none⟩=some (.int .i64 a0_1):=(bkC BK112.out 1).trans rfl;have hcz51_2:w50.cell? ⟨gb112,2,none⟩=some (.int .i64 a0_2):=(bkC BK112.out 2).trans rfl;have hcz51_3:w50.cell? ⟨gb112,3,none⟩=some (.int .i64 a0_3):=(bkC BK112.out 3).trans rfl;have hcz51_4:w50.cell? ⟨gb112,4,none⟩=some (.int .i64 a0_4):=(bkC BK112.out 4).trans rfl;have hfz51_0:=bkF BK112.out 0;have hfz51_1:=bkF BK112.out 1;have hfz51_2:=bkF BK112.out 2;have hfz51_3:=bkF BK112.out 3;have hfz51_4:=bkF BK112.out 4))
      go_ret
      exact ⟨by first|rfl|(simp [errW_none,errW_some] <;> rfl)|(simp [*,errW_none,errW_some] <;> rfl),by repeat (first|(with_reducible first|exact HB.out|apply bdA|apply bdN|apply bd1|refine bdS ?_ GE112.out)|exact HB.out)⟩
   ·rw [if_neg c4] at H
    have c4b0:decide (1≤a0_3)=false:=decide_eq_false c4
    clear c4
    by_cases c52:a0_1=1
    ·rw [if_pos c52] at H
     have c52b0:(a0_1 == 1)=true:=beq_iff_eq.mpr c52
     have c52b1:(a0_1 != 1)=false:=bne_eq_false_iff_eq.mpr c52
     clear c52
     by_cases c53:a0_2=4
     ·rw [if_pos c53] at H
      have c53b0:(a0_2 == 4)=true:=beq_iff_eq.mpr c53
      have c53b1:(a0_2 != 4)=false:=bne_eq_false_iff_eq.mpr c53
      clear c53
      obtain rfl:=Option.some.inj H
      go_enter Try.func70,Try.ntmps70
      go_wp2_with (first|((with_reducible refine gtD (N:=1) rfl ?_);refine bxE ?hg (N:=1) ?hd (cs:=#[.string a0_0,.int .i64 a0_1,.int .i64 a0_2,.int .i64 a0_3,.int .i64 a0_4]) (t:=56) ?hr ?_;(case hd=>rfl);(case hg=>rfl);(case hr=>first|(go_simp;done)|(go_simp;rfl));intro gb112 hg w54 hbox hb;have n0_:=As0.mk (bdT (by repeat (first|(with_reducible first|exact HB.out|apply bdA|apply bdN|apply bd1)|exact HB.out)) hb);have n1_:=As0.mk (hbox);have n2_:=As0.mk ((by rw [hg];exact (bdZ (by repeat (first|(with_reducible first|exact HB.out|apply bdA|apply bdN|apply bd1)|exact HB.out))):w.heap.size≤gb112));have n3_:=As0.mk ((by rw [hg];exact (bdZ (by repeat (first|(with_reducible first|exact HB.out|apply bdA|apply bdN|apply bd1)|exact HB.out))):w.heap.size≤gb112));clear HB;have HB:=n0_;have BK112:=n1_;have GW112:=n2_;have GE112:=n3_;clear n0_ n1_ n2_ n3_;clear hb hbox hg;have hcz55_0:w54.cell? ⟨gb112,0,none⟩=some (.string a0_0):=(bkC BK112.out 0).trans rfl;have hcz55_1:w54.cell? ⟨gb112,1,none⟩=some (.int .i64 a0_1):=(bkC BK112.out 1).trans rfl;have hcz55_2:w54.cell? ⟨gb112,2,none⟩=some (.int .i64 a0_2):=(bkC BK112.out 2).trans rfl;have hcz55_3:w54.cell? ⟨gb112,3,none⟩=some (.int .i64 a0_3):=(bkC BK112.out 3).trans rfl;have hcz55_4:w54.cell? ⟨gb112,4,none⟩=some (.int .i64 a0_4):=(bkC BK112.out 4).trans rfl;have hfz55_0:=bkF BK112.out 0;have hfz55_1:=bkF BK112.out 1;have hfz55_2:=bkF BK112.out 2;have hfz55_3:=bkF BK112.out 3;have hfz55_4:=bkF BK112.out 4))
      go_ret
      exact ⟨by first|rfl|(simp [errW_none,errW_some] <;> rfl)|(simp [*,errW_none,errW_some] <;> rfl),by repeat (first|(with_reducible first|exact HB.out|apply bdA|apply bdN|apply bd1|refine bdS ?_ GE112.out)|exact HB.out)⟩
     ·rw [if_neg c53] at H
      have c53b0:(a0_2 == 4)=false:=beq_eq_false_iff_ne.mpr c53
      have c53b1:(a0_2 != 4)=true:=bne_iff_ne.mpr c53
      obtain rfl:=Option.some.inj H
      go_enter Try.func70,Try.ntmps70
      go_wp2_with (first|((with_reducible refine gtD (N:=1) rfl ?_);refine bxE ?hg (N:=1) ?hd (cs:=#[.string a0_0,.int .i64 a0_1,.int .i64 a0_2,.int .i64 a0_3,.int .i64 a0_4]) (t:=56) ?hr ?_;(case hd=>rfl);(case hg=>rfl);(case hr=>first|(go_simp;done)|(go_simp;rfl));intro gb112 hg w56 hbox hb;have n0_:=As0.mk (bdT (by repeat (first|(with_reducible first|exact HB.out|apply bdA|apply bdN|apply bd1)|exact HB.out)) hb);have n1_:=As0.mk (hbox);have n2_:=As0.mk ((by rw [hg];exact (bdZ (by repeat (first|(with_reducible first|exact HB.out|apply bdA|apply bdN|apply bd1)|exact HB.out))):w.heap.size≤gb112));have n3_:=As0.mk ((by rw [hg];exact (bdZ (by repeat (first|(with_reducible first|exact HB.out|apply bdA|apply bdN|apply bd1)|exact HB.out))):w.heap.size≤gb112));clear HB;have HB:=n0_;have BK112:=n1_;have GW112:=n2_;have GE112:=n3_;clear n0_ n1_ n2_ n3_;clear hb hbox hg;have hcz57_0:w56.cell? ⟨gb112,0,none⟩=some (.string a0_0):=(bkC BK112.out 0).trans rfl;have hcz57_1:w56.cell? ⟨gb112,1,none⟩=some (.int .i64 a0_1):=(bkC BK112.out 1).trans rfl;have hcz57_2:w56.cell? ⟨gb112,2,none⟩=some (.int .i64 a0_2):=(bkC BK112.out 2).trans rfl;have hcz57_3:w56.cell? ⟨gb112,3,none⟩=some (.int .i64 a0_3):=(bkC BK112.out 3).trans rfl;have hcz57_4:w56.cell? ⟨gb112,4,none⟩=some (.int .i64 a0_4):=(bkC BK112.out 4).trans rfl;have hfz57_0:=bkF BK112.out 0;have hfz57_1:=bkF BK112.out 1;have hfz57_2:=bkF BK112.out 2;have hfz57_3:=bkF BK112.out 3;have hfz57_4:=bkF BK112.out 4))
      go_ret
      exact ⟨by first|rfl|(simp [errW_none,errW_some] <;> rfl)|(simp [*,errW_none,errW_some] <;> rfl),by repeat (first|(with_reducible first|exact HB.out|apply bdA|apply bdN|apply bd1|refine bdS ?_ GE112.out)|exact HB.out)⟩
    ·rw [if_neg c52] at H
     have c52b0:(a0_1 == 1)=false:=beq_eq_false_iff_ne.mpr c52
     have c52b1:(a0_1 != 1)=true:=bne_iff_ne.mpr c52
     obtain rfl:=Option.some.inj H
     go_enter Try.func70,Try.ntmps70
     go_wp2_with (first|((with_reducible refine gtD (N:=1) rfl ?_);refine bxE ?hg (N:=1) ?hd (cs:=#[.string a0_0,.int .i64 a0_1,.int .i64 a0_2,.int .i64 a0_3,.int .i64 a0_4]) (t:=56) ?hr ?_;(case hd=>rfl);(case hg=>rfl);(case hr=>first|(go_simp;done)|(go_simp;rfl));intro gb112 hg w58 hbox hb;have n0_:=As0.mk (bdT (by repeat (first|(with_reducible first|exact HB.out|apply bdA|apply bdN|apply bd1)|exact HB.out)) hb);have n1_:=As0.mk (hbox);have n2_:=As0.mk ((by rw [hg];exact (bdZ (by repeat (first|(with_reducible first|exact HB.out|apply bdA|apply bdN|apply bd1)|exact HB.out))):w.heap.size≤gb112));have n3_:=As0.mk ((by rw [hg];exact (bdZ (by repeat (first|(with_reducible first|exact HB.out|apply bdA|apply bdN|apply bd1)|exact HB.out))):w.heap.size≤gb112));clear HB;have HB:=n0_;have BK112:=n1_;have GW112:=n2_;have GE112:=n3_;clear n0_ n1_ n2_ n3_;clear hb hbox hg;have hcz59_0:w58.cell? ⟨gb112,0,none⟩=some (.string a0_0):=(bkC BK112.out 0).trans rfl;have hcz59_1:w58.cell? ⟨gb112,1,none⟩=some (.int .i64 a0_1):=(bkC BK112.out 1).trans rfl;have hcz59_2:w58.cell? ⟨gb112,2,none⟩=some (.int .i64 a0_2):=(bkC BK112.out 2).trans rfl;have hcz59_3:w58.cell? ⟨gb112,3,none⟩=some (.int .i64 a0_3):=(bkC BK112.out 3).trans rfl;have hcz59_4:w58.cell? ⟨gb112,4,none⟩=some (.int .i64 a0_4):=(bkC BK112.out 4).trans rfl;have hfz59_0:=bkF BK112.out 0;have hfz59_1:=bkF BK112.out 1;have hfz59_2:=bkF BK112.out 2;have hfz59_3:=bkF BK112.out 3;have hfz59_4:=bkF BK112.out 4))
     go_ret
     exact ⟨by first|rfl|(simp [errW_none,errW_some] <;> rfl)|(simp [*,errW_none,errW_some] <;> rfl),by repeat (first|(with_reducible first|exact HB.out|apply bdA|apply bdN|apply bd1|refine bdS ?_ GE112.out)|exact HB.out)⟩
  ·rw [if_neg c3] at H
   have c3b0:decide (a0_2≤64)=false:=decide_eq_false c3
   clear c3
   by_cases c60:a0_1=1
   ·rw [if_pos c60] at H
    have c60b0:(a0_1 == 1)=true:=beq_iff_eq.mpr c60
    have c60b1:(a0_1 != 1)=false:=bne_eq_false_iff_eq.mpr c60
    clear c60
    by_cases c61:a0_2=4
    ·rw [if_pos c61] at H
     have c61b0:(a0_2 == 4)=true:=beq_iff_eq.mpr c61
     have c61b1:(a0_2 != 4)=false:=bne_eq_false_iff_eq.mpr c61
     clear c61
     obtain rfl:=Option.some.inj H
     go_enter Try.func70,Try.ntmps70
     go_wp2_with (first|((with_reducible refine gtD (N:=1) rfl ?_);refine bxE ?hg (N:=1) ?hd (cs:=#[.string a0_0,.int .i64 a0_1,.int .i64 a0_2,.int .i64 a0_3,.int .i64 a0_4]) (t:=56) ?hr ?_;(case hd=>rfl);(case hg=>rfl);(case hr=>first|(go_simp;done)|(go_simp;rfl));intro gb112 hg w62 hbox hb;have n0_:=As0.mk (bdT (by repeat (first|(with_reducible first|exact HB.out|apply bdA|apply bdN|apply bd1)|exact HB.out)) hb);have n1_:=As0.mk (hbox);have n2_:=As0.mk ((by rw [hg];exact (bdZ (by repeat (first|(with_reducible first|exact HB.out|apply bdA|apply bdN|apply bd1)|exact HB.out))):w.heap.size≤gb112));have n3_:=As0.mk ((by rw [hg];exact (bdZ (by repeat (first|(with_reducible first|exact HB.out|apply bdA|apply bdN|apply bd1)|exact HB.out))):w.heap.size≤gb112));clear HB;have HB:=n0_;have BK112:=n1_;have GW112:=n2_;have GE112:=n3_;clear n0_ n1_ n2_ n3_;clear hb hbox hg;have hcz63_0:w62.cell? ⟨gb112,0,none⟩=some (.string a0_0):=(bkC BK112.out 0).trans rfl;have hcz63_1:w62.cell? ⟨gb112,1,none⟩=some (.int .i64 a0_1):=(bkC BK112.out 1).trans rfl;have hcz63_2:w62.cell? ⟨gb112,2,none⟩=some (.int .i64 a0_2):=(bkC BK112.out 2).trans rfl;have hcz63_3:w62.cell? ⟨gb112,3,none⟩=some (.int .i64 a0_3):=(bkC BK112.out 3).trans rfl;have hcz63_4:w62.cell? ⟨gb112,4,none⟩=some (.int .i64 a0_4):=(bkC BK112.out 4).trans rfl;have hfz63_0:=bkF BK112.out 0;have hfz63_1:=bkF BK112.out 1;have hfz63_2:=bkF BK112.out 2;have hfz63_3:=bkF BK112.out 3;have hfz63_4:=bkF BK112.out 4))
     go_ret
     exact ⟨by first|rfl|(simp [errW_none,errW_some] <;> rfl)|(simp [*,errW_none,errW_some] <;> rfl),by repeat (first|(with_reducible first|exact HB.out|apply bdA|apply bdN|apply bd1|refine bdS ?_ GE112.out)|exact HB.out)⟩
    ·rw [if_neg c61] at H
     have c61b0:(a0_2 == 4)=false:=beq_eq_false_iff_ne.mpr c61
     have c61b1:(a0_2 != 4)=true:=bne_iff_ne.mpr c61
     obtain rfl:=Option.some.inj H
     go_enter Try.func70,Try.ntmps70
     go_wp2_with (first|((with_reducible refine gtD (N:=1) rfl ?_);refine bxE ?hg (N:=1) ?hd (cs:=#[.string a0_0,.int .i64 a0_1,.int .i64 a0_2,.int .i64 a0_3,.int .i64 a0_4]) (t:=56) ?hr ?_;(case hd=>rfl);(case hg=>rfl);(case hr=>first|(go_simp;done)|(go_simp;rfl));intro gb112 hg w64 hbox hb;have n0_:=As0.mk (bdT (by repeat (first|(with_reducible first|exact HB.out|apply bdA|apply bdN|apply bd1)|exact HB.out)) hb);have n1_:=As0.mk (hbox);have n2_:=As0.mk ((by rw [hg];exact (bdZ (by repeat (first|(with_reducible first|exact HB.out|apply bdA|apply bdN|apply bd1)|exact HB.out))):w.heap.size≤gb112));have n3_:=As0.mk ((by rw [hg];exact (bdZ (by repeat (first|(with_reducible first|exact HB.out|apply bdA|apply bdN|apply bd1)|exact HB.out))):w.heap.size≤gb112));clear HB;have HB:=n0_;have BK112:=n1_;have GW112:=n2_;have GE112:=n3_;clear n0_ n1_ n2_ n3_;clear hb hbox hg;have hcz65_0:w64.cell? ⟨gb112,0,none⟩=some (.string a0_0):=(bkC BK112.out 0).trans rfl;have hcz65_1:w64.cell? ⟨gb112,1,none⟩=some (.int .i64 a0_1):=(bkC BK112.out 1).trans rfl;have hcz65_2:w64.cell? ⟨gb112,2,none⟩=some (.int .i64 a0_2):=(bkC BK112.out 2).trans rfl;have hcz65_3:w64.cell? ⟨gb112,3,none⟩=some (.int .i64 a0_3):=(bkC BK112.out 3).trans rfl;have hcz65_4:w64.cell? ⟨gb112,4,none⟩=some (.int .i64 a0_4):=(bkC BK112.out 4).trans rfl;have hfz65_0:=bkF BK112.out 0;have hfz65_1:=bkF BK112.out 1;have hfz65_2:=bkF BK112.out 2;have hfz65_3:=bkF BK112.out 3;have hfz65_4:=bkF BK112.out 4))
     go_ret
     exact ⟨by first|rfl|(simp [errW_none,errW_some] <;> rfl)|(simp [*,errW_none,errW_some] <;> rfl),by repeat (first|(with_reducible first|exact HB.out|apply bdA|apply bdN|apply bd1|refine bdS ?_ GE112.out)|exact HB.out)⟩
   ·rw [if_neg c60] at H
    have c60b0:(a0_1 == 1)=false:=beq_eq_false_iff_ne.mpr c60
    have c60b1:(a0_1 != 1)=true:=bne_iff_ne.mpr c60
    obtain rfl:=Option.some.inj H
    go_enter Try.func70,Try.ntmps70
    go_wp2_with (first|((with_reducible refine gtD (N:=1) rfl ?_);refine bxE ?hg (N:=1) ?hd (cs:=#[.string a0_0,.int .i64 a0_1,.int .i64 a0_2,.int .i64 a0_3,.int .i64 a0_4]) (t:=56) ?hr ?_;(case hd=>rfl);(case hg=>rfl);(case hr=>first|(go_simp;done)|(go_simp;rfl));intro gb112 hg w66 hbox hb;have n0_:=As0.mk (bdT (by repeat (first|(with_reducible first|exact HB.out|apply bdA|apply bdN|apply bd1)|exact HB.out)) hb);have n1_:=As0.mk (hbox);have n2_:=As0.mk ((by rw [hg];exact (bdZ (by repeat (first|(with_reducible first|exact HB.out|apply bdA|apply bdN|apply bd1)|exact HB.out))):w.heap.size≤gb112));have n3_:=As0.mk ((by rw [hg];exact (bdZ (by repeat (first|(with_reducible first|exact HB.out|apply bdA|apply bdN|apply bd1)|exact HB.out))):w.heap.size≤gb112));clear HB;have HB:=n0_;have BK112:=n1_;have GW112:=n2_;have GE112:=n3_;clear n0_ n1_ n2_ n3_;clear hb hbox hg;have hcz67_0:w66.cell? ⟨gb112,0,none⟩=some (.string a0_0):=(bkC BK112.out 0).trans rfl;have hcz67_1:w66.cell? ⟨gb112,1,none⟩=some (.int .i64 a0_1):=(bkC BK112.out 1).trans rfl;have hcz67_2:w66.cell? ⟨gb112,2,none⟩=some (.int .i64 a0_2):=(bkC BK112.out 2).trans rfl;have hcz67_3:w66.cell? ⟨gb112,3,none⟩=some (.int .i64 a0_3):=(bkC BK112.out 3).trans rfl;have hcz67_4:w66.cell? ⟨gb112,4,none⟩=some (.int .i64 a0_4):=(bkC BK112.out 4).trans rfl;have hfz67_0:=bkF BK112.out 0;have hfz67_1:=bkF BK112.out 1;have hfz67_2:=bkF BK112.out 2;have hfz67_3:=bkF BK112.out 3;have hfz67_4:=bkF BK112.out 4))
    go_ret
    exact ⟨by first|rfl|(simp [errW_none,errW_some] <;> rfl)|(simp [*,errW_none,errW_some] <;> rfl),by repeat (first|(with_reducible first|exact HB.out|apply bdA|apply bdN|apply bd1|refine bdS ?_ GE112.out)|exact HB.out)⟩
 ·rw [if_neg c2] at H
  have c2b0:decide (1≤a0_2)=false:=decide_eq_false c2
  clear c2
  by_cases c68:a0_1=1
  ·rw [if_pos c68] at H
   have c68b0:(a0_1 == 1)=true:=beq_iff_eq.mpr c68
   have c68b1:(a0_1 != 1)=false:=bne_eq_false_iff_eq.mpr c68
   clear c68
   by_cases c69:a0_2=4
   ·rw [if_pos c69] at H
    have c69b0:(a0_2 == 4)=true:=beq_iff_eq.mpr c69
    have c69b1:(a0_2 != 4)=false:=bne_eq_false_iff_eq.mpr c69
    clear c69
    obtain rfl:=Option.some.inj H
    go_enter Try.func70,Try.ntmps70
    go_wp2_with (first|((with_reducible refine gtD (N:=1) rfl ?_);refine bxE ?hg (N:=1) ?hd (cs:=#[.string a0_0,.int .i64 a0_1,.int .i64 a0_2,.int .i64 a0_3,.int .i64 a0_4]) (t:=56) ?hr ?_;(case hd=>rfl);(case hg=>rfl);(case hr=>first|(go_simp;done)|(go_simp;rfl));intro gb112 hg w70 hbox hb;have n0_:=As0.mk (bdT (by repeat (first|(with_reducible first|exact HB.out|apply bdA|apply bdN|apply bd1)|exact HB.out)) hb);have n1_:=As0.mk (hbox);have n2_:=As0.mk ((by rw [hg];exact (bdZ (by repeat (first|(with_reducible first|exact HB.out|apply bdA|apply bdN|apply bd1)|exact HB.out))):w.heap.size≤gb112));have n3_:=As0.mk ((by rw [hg];exact (bdZ (by repeat (first|(with_reducible first|exact HB.out|apply bdA|apply bdN|apply bd1)|exact HB.out))):w.heap.size≤gb112));clear HB;have HB:=n0_;have BK112:=n1_;have GW112:=n2_;have GE112:=n3_;clear n0_ n1_ n2_ n3_;clear hb hbox hg;have hcz71_0:w70.cell? ⟨gb112,0,none⟩=some (.string a0_0):=(bkC BK112.out 0).trans rfl;have hcz71_1:w70.cell? ⟨gb112,1,none⟩=some (.int .i64 a0_1):=(bkC BK112.out 1).trans rfl;have hcz71_2:w70.cell? ⟨gb112,2,none⟩=some (.int .i64 a0_2):=(bkC BK112.out 2).trans rfl;have hcz71_3:w70.cell? ⟨gb112,3,none⟩=some (.int .i64 a0_3):=(bkC BK112.out 3).trans rfl;have hcz71_4:w70.cell? ⟨gb112,4,none⟩=some (.int .i64 a0_4):=(bkC BK112.out 4).trans rfl;have hfz71_0:=bkF BK112.out 0;have hfz71_1:=bkF BK112.out 1;have hfz71_2:=bkF BK112.out 2;have hfz71_3:=bkF BK112.out 3;have hfz71_4:=bkF BK112.out 4))
    go_ret
    exact ⟨by first|rfl|(simp [errW_none,errW_some] <;> rfl)|(simp [*,errW_none,errW_some] <;> rfl),by repeat (first|(with_reducible first|exact HB.out|apply bdA|apply bdN|apply bd1|refine bdS ?_ GE112.out)|exact HB.out)⟩
   ·rw [if_neg c69] at H
    have c69b0:(a0_2 == 4)=false:=beq_eq_false_iff_ne.mpr c69
    have c69b1:(a0_2 != 4)=true:=bne_iff_ne.mpr c69
    obtain rfl:=Option.some.inj H
    go_enter Try.func70,Try.ntmps70
    go_wp2_with (first|((with_reducible refine gtD (N:=1) rfl ?_);refine bxE ?hg (N:=1) ?hd (cs:=#[.string a0_0,.int .i64 a0_1,.int .i64 a0_2,.int .i64 a0_3,.int .i64 a0_4]) (t:=56) ?hr ?_;(case hd=>rfl);(case hg=>rfl);(case hr=>first|(go_simp;done)|(go_simp;rfl));intro gb112 hg w72 hbox hb;have n0_:=As0.mk (bdT (by repeat (first|(with_reducible first|exact HB.out|apply bdA|apply bdN|apply bd1)|exact HB.out)) hb);have n1_:=As0.mk (hbox);have n2_:=As0.mk ((by rw [hg];exact (bdZ (by repeat (first|(with_reducible first|exact HB.out|apply bdA|apply bdN|apply bd1)|exact HB.out))):w.heap.size≤gb112));have n3_:=As0.mk ((by rw [hg];exact (bdZ (by repeat (first|(with_reducible first|exact HB.out|apply bdA|apply bdN|apply bd1)|exact HB.out))):w.heap.size≤gb112));clear HB;have HB:=n0_;have BK112:=n1_;have GW112:=n2_;have GE112:=n3_;clear n0_ n1_ n2_ n3_;clear hb hbox hg;have hcz73_0:w72.cell? ⟨gb112,0,none⟩=some (.string a0_0):=(bkC BK112.out 0).trans rfl;have hcz73_1:w72.cell? ⟨gb112,1,none⟩=some (.int .i64 a0_1):=(bkC BK112.out 1).trans rfl;have hcz73_2:w72.cell? ⟨gb112,2,none⟩=some (.int .i64 a0_2):=(bkC BK112.out 2).trans rfl;have hcz73_3:w72.cell? ⟨gb112,3,none⟩=some (.int .i64 a0_3):=(bkC BK112.out 3).trans rfl;have hcz73_4:w72.cell? ⟨gb112,4,none⟩=some (.int .i64 a0_4):=(bkC BK112.out 4).trans rfl;have hfz73_0:=bkF BK112.out 0;have hfz73_1:=bkF BK112.out 1;have hfz73_2:=bkF BK112.out 2;have hfz73_3:=bkF BK112.out 3;have hfz73_4:=bkF BK112.out 4))
    go_ret
    exact ⟨by first|rfl|(simp [errW_none,errW_some] <;> rfl)|(simp [*,errW_none,errW_some] <;> rfl),by repeat (first|(with_reducible first|exact HB.out|apply bdA|apply bdN|apply bd1|refine bdS ?_ GE112.out)|exact HB.out)⟩
  ·rw [if_neg c68] at H
   have c68b0:(a0_1 == 1)=false:=beq_eq_false_iff_ne.mpr c68
   have c68b1:(a0_1 != 1)=true:=bne_iff_ne.mpr c68
   obtain rfl:=Option.some.inj H
   go_enter Try.func70,Try.ntmps70
   go_wp2_with (first|((with_reducible refine gtD (N:=1) rfl ?_);refine bxE ?hg (N:=1) ?hd (cs:=#[.string a0_0,.int .i64 a0_1,.int .i64 a0_2,.int .i64 a0_3,.int .i64 a0_4]) (t:=56) ?hr ?_;(case hd=>rfl);(case hg=>rfl);(case hr=>first|(go_simp;done)|(go_simp;rfl));intro gb112 hg w74 hbox hb;have n0_:=As0.mk (bdT (by repeat (first|(with_reducible first|exact HB.out|apply bdA|apply bdN|apply bd1)|exact HB.out)) hb);have n1_:=As0.mk (hbox);have n2_:=As0.mk ((by rw [hg];exact (bdZ (by repeat (first|(with_reducible first|exact HB.out|apply bdA|apply bdN|apply bd1)|exact HB.out))):w.heap.size≤gb112));have n3_:=As0.mk ((by rw [hg];exact (bdZ (by repeat (first|(with_reducible first|exact HB.out|apply bdA|apply bdN|apply bd1)|exact HB.out))):w.heap.size≤gb112));clear HB;have HB:=n0_;have BK112:=n1_;have GW112:=n2_;have GE112:=n3_;clear n0_ n1_ n2_ n3_;clear hb hbox hg;have hcz75_0:w74.cell? ⟨gb112,0,none⟩=some (.string a0_0):=(bkC BK112.out 0).trans rfl;have hcz75_1:w74.cell? ⟨gb112,1,none⟩=some (.int .i64 a0_1):=(bkC BK112.out 1).trans rfl;have hcz75_2:w74.cell? ⟨gb112,2,none⟩=some (.int .i64 a0_2):=(bkC BK112.out 2).trans rfl;have hcz75_3:w74.cell? ⟨gb112,3,none⟩=some (.int .i64 a0_3):=(bkC BK112.out 3).trans rfl;have hcz75_4:w74.cell? ⟨gb112,4,none⟩=some (.int .i64 a0_4):=(bkC BK112.out 4).trans rfl;have hfz75_0:=bkF BK112.out 0;have hfz75_1:=bkF BK112.out 1;have hfz75_2:=bkF BK112.out 2;have hfz75_3:=bkF BK112.out 3;have hfz75_4:=bkF BK112.out 4))
   go_ret
   exact ⟨by first|rfl|(simp [errW_none,errW_some] <;> rfl)|(simp [*,errW_none,errW_some] <;> rfl),by repeat (first|(with_reducible first|exact HB.out|apply bdA|apply bdN|apply bd1|refine bdS ?_ GE112.out)|exact HB.out)⟩
def imbT.l0:Nat→Int→List (S56)→Int→Int→List (S54)→List (S68)→List (S56)→Int→Option (Int × Bool)
 | 0,_,_,_,_,_,_,_,_=>none
 | k+1,x4,x8,x9,x10,x117000,x117001,x117002,x117003=>if x10<x9 then (if 0≤x10 then (if x10<(x8.length:Int) then ((imFt.f ((rd_T56 x8 x10).f0) ((rd_T56 x8 x10).f1) ((rd_T56 x8 x10).f2) ((rd_T56 x8 x10).f3) ((rd_T56 x8 x10).f4)).bind fun t119=>(if t119=true then ((image_room.f ((rd_T56 x8 x10).f0) ((rd_T56 x8 x10).f1) ((rd_T56 x8 x10).f2) ((rd_T56 x8 x10).f3) ((rd_T56 x8 x10).f4)).bind fun t120=>(imbT.l0 k (wrap64 (x4+t120)) x8 x9 (wrap64 (x10+1)) x117000 x117001 x117002 x117003)) else (some (x10,true)))) else (none)) else (none)) else (some ((x117002.length:Int),decide (x4 > 67108864)))
def imbT.f (k:Nat) (l0_0:List (S54)) (l0_1:List (S68)) (l0_2:List (S56)) (a0_3:Int):Option (Int × Bool):=imbT.l0 k 0 l0_2 (l0_2.length:Int) 0 l0_0 l0_1 l0_2 a0_3
theorem imbT.calls (k:Nat) (A0_0:Option Addr) (c0_0:Nat) (l0_0:List (S54)) (A0_1:Option Addr) (c0_1:Nat) (l0_1:List (S68)) (A0_2:Option Addr) (c0_2:Nat) (l0_2:List (S56)) (a0_3:Int) (r1:Int) (r2:Bool) (w:World) (hr0_0:Kd.C k54 w A0_0 l0_0.length l0_0) (hc0_0:l0_0.length≤c0_0) (hr0_1:Kd.C k68 w A0_1 l0_1.length l0_1) (hc0_1:l0_1.length≤c0_1) (hr0_2:Kd.C k56 w A0_2 l0_2.length l0_2) (hc0_2:l0_2.length≤c0_2) (h:imbT.f k l0_0 l0_1 l0_2 a0_3=some (r1,r2)) :
  Calls Try.prog 32 #[.agg #[.slice A0_0 l0_0.length c0_0,.slice A0_1 l0_1.length c0_1,.slice A0_2 l0_2.length c0_2,.int .i64 a0_3]] w fun e w'=>e=.returned (.tuple #[.int .i64 r1,.bool r2])∧Below w.heap.size w w':=by
 have hu26:=Try.underlying26
 have hu56:=Try.underlying56
 have HR0_0:=As0.mk hr0_0
 have HC0_0:=As0.mk hc0_0
 clear hr0_0 hc0_0
 have HR0_1:=As0.mk hr0_1
 have HC0_1:=As0.mk hc0_1
 clear hr0_1 hc0_1
 have HR0_2:=As0.mk hr0_2
 have HC0_2:=As0.mk hc0_2
 clear hr0_2 hc0_2
 have HB:=As0.mk (Below.refl w.heap.size w)
 have H:(imbT.l0 k 0 l0_2 (l0_2.length:Int) 0 l0_0 l0_1 l0_2 a0_3)=some (r1,r2):=h
 clear h
 have H':=As0.mk H
 clear H
 go_enter Try.func32,Try.ntmps32
 go_wp2_with (first|((with_reducible refine gtD (N:=1) rfl ?_);refine bxE ?hg (N:=1) ?hd (cs:=#[.slice A0_0 l0_0.length c0_0,.slice A0_1 l0_1.length c0_1,.slice A0_2 l0_2.length c0_2,.int .i64 a0_3]) (t:=26) ?hr ?_;(case hd=>rfl);(case hg=>rfl);(case hr=>first|(go_simp;done)|(go_simp;rfl));intro gb116 hg w2 hbox hb;have n0_:=As0.mk (bdT (by repeat (first|(with_reducible first|exact HB.out|apply bdA|apply bdN|apply bd1)|exact HB.out)) hb);have n1_:=As0.mk (hbox);have n2_:=As0.mk ((by rw [hg];exact (bdZ (by repeat (first|(with_reducible first|exact HB.out|apply bdA|apply bdN|apply bd1)|exact HB.out))):w.heap.size≤gb116));have n3_:=As0.mk ((by rw [hg];exact (bdZ (by repeat (first|(with_reducible first|exact HB.out|apply bdA|apply bdN|apply bd1)|exact HB.out))):w.heap.size≤gb116));clear HB;have HB:=n0_;have BK116:=n1_;have GW116:=n2_;have GE116:=n3_;clear n0_ n1_ n2_ n3_;clear hb hbox hg;have hcz3_0:w2.cell? ⟨gb116,0,none⟩=some (.slice A0_0 l0_0.length c0_0):=(bkC BK116.out 0).trans rfl;have hcz3_1:w2.cell? ⟨gb116,1,none⟩=some (.slice A0_1 l0_1.length c0_1):=(bkC BK116.out 1).trans rfl;have hcz3_2:w2.cell? ⟨gb116,2,none⟩=some (.slice A0_2 l0_2.length c0_2):=(bkC BK116.out 2).trans rfl;have hcz3_3:w2.cell? ⟨gb116,3,none⟩=some (.int .i64 a0_3):=(bkC BK116.out 3).trans rfl;have hfz3_0:=bkF BK116.out 0;have hfz3_1:=bkF BK116.out 1;have hfz3_2:=bkF BK116.out 2;have hfz3_3:=bkF BK116.out 3))
 go_loopg [4,10] k (fun kq v4 v10 w'=>∃ (x4_1:Int) (x10_1:Int),v4=.int .i64 x4_1∧v10=.int .i64 x10_1∧As0 (imbT.l0 kq x4_1 l0_2 (l0_2.length:Int) x10_1 l0_0 l0_1 l0_2 a0_3=some (r1,r2))∧As0 (kq≤k)∧As0 (w'.heap[gb116]?=some (.cells #[(.slice A0_0 l0_0.length c0_0),(.slice A0_1 l0_1.length c0_1),(.slice A0_2 l0_2.length c0_2),.int .i64 a0_3] 26 (0,0)))∧As0 (Below w.heap.size w w'))
 case atStart=>exact ⟨(0),(0),(by first|rfl|(simp;done)|(simp [*];done)),(by first|rfl|(simp;done)|(simp [*];done)),H',⟨Nat.le_refl _⟩,⟨by (with_reducible repeat (first|refine bkN ?_ _|refine bkD ?_|refine bkA ?_ _));exact BK116.out⟩,⟨by repeat (first|(with_reducible first|exact HB.out|apply bdA|apply bdN|apply bd1|refine bdS ?_ GE116.out)|exact HB.out)⟩⟩
 case round =>
  clear H'
  try clear p2
  try clear c3
  try clear hcz3_0
  try clear hcz3_1
  try clear hcz3_2
  try clear hcz3_3
  try clear hfz3_0
  try clear hfz3_1
  try clear hfz3_2
  try clear hfz3_3
  obtain ⟨x4_1,x10_1,rfl,rfl,HA,HK1,BK116,HB⟩:=hrel
  cases gk with
  | zero=>exact absurd HA.out (by simp [imbT.l0])
  | succ k1 =>
   have H:=HA.out
   clear HA
   simp only [imbT.l0] at H
   by_cases c4:x10_1<(l0_2.length:Int)
   ·rw [if_pos c4] at H
    have c4b0:decide (x10_1<(l0_2.length:Int))=true:=decide_eq_true c4
    clear c4
    by_cases c5:0≤x10_1
    ·rw [if_pos c5] at H
     have c5b0:decide (0≤x10_1)=true:=decide_eq_true c5
     clear c5
     by_cases c6:x10_1<(l0_2.length:Int)
     ·rw [if_pos c6] at H
      have c6b0:decide (x10_1<(l0_2.length:Int))=true:=decide_eq_true c6
      clear c6
      replace H:=Option.bind_eq_some_iff.mp H
      obtain ⟨t119,A70,H⟩:=H
      replace H:(if t119=true then ((image_room.f ((rd_T56 l0_2 x10_1).f0) ((rd_T56 l0_2 x10_1).f1) ((rd_T56 l0_2 x10_1).f2) ((rd_T56 l0_2 x10_1).f3) ((rd_T56 l0_2 x10_1).f4)).bind fun t120=>(imbT.l0 k1 (wrap64 (x4_1+t120)) l0_2 (l0_2.length:Int) (wrap64 (x10_1+1)) l0_0 l0_1 l0_2 a0_3)) else (some (x10_1,true)))=some (r1,r2):=H
      have A7:=As0.mk A70
      clear A70
      by_cases c8:t119=true
      ·subst c8
       have H1:((image_room.f ((rd_T56 l0_2 x10_1).f0) ((rd_T56 l0_2 x10_1).f1) ((rd_T56 l0_2 x10_1).f2) ((rd_T56 l0_2 x10_1).f3) ((rd_T56 l0_2 x10_1).f4)).bind fun t120=>(imbT.l0 k1 (wrap64 (x4_1+t120)) l0_2 (l0_2.length:Int) (wrap64 (x10_1+1)) l0_0 l0_1 l0_2 a0_3))=some (r1,r2):=by rw [if_pos rfl] at H;exact H
       clear H
       have H:=H1
       clear H1
       replace H:=Option.bind_eq_some_iff.mp H
       obtain ⟨t120,A90,H⟩:=H
       replace H:(imbT.l0 k1 (wrap64 (x4_1+t120)) l0_2 (l0_2.length:Int) (wrap64 (x10_1+1)) l0_0 l0_1 l0_2 a0_3)=some (r1,r2):=H
       have A9:=As0.mk A90
       clear A90
       have H':=As0.mk H
       clear H
       have p117:0≤(x10_1:Int):=of_decide_eq_true (by first|(with_reducible assumption)|assumption)
       have q117:x10_1<(l0_2.length:Int):=of_decide_eq_true (by first|(with_reducible assumption)|assumption)
       obtain ⟨ad117,e117,hx117_0,hx117_1,hx117_2,hx117_3,hx117_4⟩:=at_T56 HR0_2.out x10_1 p117 q117
       cases e117
       replace hx117_0:=(HB.out.cell (World.block_lt_of_cell? w _ hx117_0)).trans hx117_0
       replace hx117_1:=(HB.out.cell (World.block_lt_of_cell? w _ hx117_1)).trans hx117_1
       replace hx117_2:=(HB.out.cell (World.block_lt_of_cell? w _ hx117_2)).trans hx117_2
       replace hx117_3:=(HB.out.cell (World.block_lt_of_cell? w _ hx117_3)).trans hx117_3
       replace hx117_4:=(HB.out.cell (World.block_lt_of_cell? w _ hx117_4)).trans hx117_4
       replace p117:=eq_true p117
       replace q117:=eq_true q117
       go_wp2_with (first|((with_reducible refine gtD (N:=6) rfl ?_);refine bxE ?hg (N:=6) ?hd (cs:=#[.string (⟨#[]⟩:ByteArray),.int .i64 0,.int .i64 0,.int .i64 0,.int .i64 0]) (t:=56) ?hr ?_;(case hd=>rfl);(case hg=>rfl);(case hr=>first|(go_simp;done)|(go_simp;rfl));intro gb118 hg w10 hbox hb;have n0_:=As0.mk (bkB (g:=gb116) (o:=.cells #[.slice A0_0 l0_0.length c0_0,.slice A0_1 l0_1.length c0_1,.slice (some ad117) l0_2.length c0_2,.int .i64 a0_3] 26 (0,0)) (by (with_reducible repeat (first|refine bkN ?_ _|refine bkD ?_|refine bkA ?_ _));exact BK116.out) hb);have n1_:=As0.mk (bdT (by repeat (first|(with_reducible first|exact HB.out|apply bdA|apply bdN|apply bd1|refine bdS ?_ GE116.out)|exact HB.out)) hb);have n2_:=As0.mk (hbox);have n3_:=As0.mk ((by rw [hg];exact (bdZ (by repeat (first|(with_reducible first|exact HB.out|apply bdA|apply bdN|apply bd1|refine bdS ?_ GE116.out)|exact HB.out))):w.heap.size≤gb118));have n4_:=As0.mk ((by rw [hg];exact (bdZ (by repeat (first|(with_reducible first|exact HB.out|apply bdA|apply bdN|apply bd1|refine bdS ?_ GE116.out)|exact HB.out))):w.heap.size≤gb118));have n5_:=As0.mk ((by rw [hg];exact Nat.ne_of_lt (blk_lt (g:=gb116) (o:=.cells #[.slice A0_0 l0_0.length c0_0,.slice A0_1 l0_1.length c0_1,.slice (some ad117) l0_2.length c0_2,.int .i64 a0_3] 26 (0,0)) (by (with_reducible repeat (first|refine bkN ?_ _|refine bkD ?_|refine bkA ?_ _));exact BK116.out)):gb116≠gb118));have n6_:=As0.mk ((by rw [hg];exact Nat.ne_of_gt (blk_lt (g:=gb116) (o:=.cells #[.slice A0_0 l0_0.length c0_0,.slice A0_1 l0_1.length c0_1,.slice (some ad117) l0_2.length c0_2,.int .i64 a0_3] 26 (0,0)) (by (with_reducible repeat (first|refine bkN ?_ _|refine bkD ?_|refine bkA ?_ _));exact BK116.out)):gb118≠gb116));clear BK116;clear HB;have BK116:=n0_;have HB:=n1_;have BK118:=n2_;have GW118:=n3_;have GE118:=n4_;have NB116_118:=n5_;have NB118_116:=n6_;clear n0_ n1_ n2_ n3_ n4_ n5_ n6_;clear hb hbox hg;have hnb11:=NB118_116.out;have hnc11:=NB116_118.out;have hcz12_0:w10.cell? ⟨gb118,0,none⟩=some (.string (⟨#[]⟩:ByteArray)):=(bkC BK118.out 0).trans rfl;have hcz12_1:w10.cell? ⟨gb118,1,none⟩=some (.int .i64 0):=(bkC BK118.out 1).trans rfl;have hcz12_2:w10.cell? ⟨gb118,2,none⟩=some (.int .i64 0):=(bkC BK118.out 2).trans rfl;have hcz12_3:w10.cell? ⟨gb118,3,none⟩=some (.int .i64 0):=(bkC BK118.out 3).trans rfl;have hcz12_4:w10.cell? ⟨gb118,4,none⟩=some (.int .i64 0):=(bkC BK118.out 4).trans rfl;have hfz12_0:=bkF BK118.out 0;have hfz12_1:=bkF BK118.out 1;have hfz12_2:=bkF BK118.out 2;have hfz12_3:=bkF BK118.out 3;have hfz12_4:=bkF BK118.out 4)|((with_reducible refine gate_callee (f:=70) rfl ?_);refine goesL_ (some 16) rfl rfl Try.func70 (by kernel_rfl) rfl #[.agg #[.string ((rd_T56 l0_2 x10_1).f0),.int .i64 ((rd_T56 l0_2 x10_1).f1),.int .i64 ((rd_T56 l0_2 x10_1).f2),.int .i64 ((rd_T56 l0_2 x10_1).f3),.int .i64 ((rd_T56 l0_2 x10_1).f4)]] rfl (by (try simp only [List.map_toArray,List.map_cons,List.map_nil]);first|done|rfl|(simp only [List.length_drop,List.length_take];rfl)) ?_;(with_reducible refine (imFt.calls ((rd_T56 l0_2 x10_1).f0) ((rd_T56 l0_2 x10_1).f1) ((rd_T56 l0_2 x10_1).f2) ((rd_T56 l0_2 x10_1).f3) ((rd_T56 l0_2 x10_1).f4) true _ A7.out).mono ?_);rintro e w13 ⟨rfl,hb⟩;refine ⟨_,rfl,?_⟩;have n0_:=As0.mk (bkB (g:=gb116) (o:=.cells #[.slice A0_0 l0_0.length c0_0,.slice A0_1 l0_1.length c0_1,.slice (some ad117) l0_2.length c0_2,.int .i64 a0_3] 26 (0,0)) (by (with_reducible repeat (first|refine bkN ?_ _|refine bkD ?_|refine bkA ?_ _));refine bkR ?_ NB116_118.out _;(with_reducible repeat (first|refine bkN ?_ _|refine bkD ?_|refine bkA ?_ _));refine bkR ?_ NB116_118.out _;(with_reducible repeat (first|refine bkN ?_ _|refine bkD ?_|refine bkA ?_ _));refine bkR ?_ NB116_118.out _;(with_reducible repeat (first|refine bkN ?_ _|refine bkD ?_|refine bkA ?_ _));refine bkR ?_ NB116_118.out _;(with_reducible repeat (first|refine bkN ?_ _|refine bkD ?_|refine bkA ?_ _));refine bkR ?_ NB116_118.out _;(with_reducible repeat (first|refine bkN ?_ _|refine bkD ?_|refine bkA ?_ _));exact BK116.out) hb);have n1_:=As0.mk (bkB (g:=gb118) (o:=.cells #[.string ((rd_T56 l0_2 x10_1).f0),.int .i64 ((rd_T56 l0_2 x10_1).f1),.int .i64 ((rd_T56 l0_2 x10_1).f2),.int .i64 ((rd_T56 l0_2 x10_1).f3),.int .i64 ((rd_T56 l0_2 x10_1).f4)] 56 (0,0)) (by (with_reducible repeat (first|refine bkN ?_ _|refine bkD ?_|refine bkA ?_ _));refine bkP (cs:=#[.string ((rd_T56 l0_2 x10_1).f0),.int .i64 ((rd_T56 l0_2 x10_1).f1),.int .i64 ((rd_T56 l0_2 x10_1).f2),.int .i64 ((rd_T56 l0_2 x10_1).f3),.int .i64 0]) ?_ 4 _ rfl;(with_reducible repeat (first|refine bkN ?_ _|refine bkD ?_|refine bkA ?_ _));refine bkP (cs:=#[.string ((rd_T56 l0_2 x10_1).f0),.int .i64 ((rd_T56 l0_2 x10_1).f1),.int .i64 ((rd_T56 l0_2 x10_1).f2),.int .i64 0,.int .i64 0]) ?_ 3 _ rfl;(with_reducible repeat (first|refine bkN ?_ _|refine bkD ?_|refine bkA ?_ _));refine bkP (cs:=#[.string ((rd_T56 l0_2 x10_1).f0),.int .i64 ((rd_T56 l0_2 x10_1).f1),.int .i64 0,.int .i64 0,.int .i64 0]) ?_ 2 _ rfl;(with_reducible repeat (first|refine bkN ?_ _|refine bkD ?_|refine bkA ?_ _));refine bkP (cs:=#[.string ((rd_T56 l0_2 x10_1).f0),.int .i64 0,.int .i64 0,.int .i64 0,.int .i64 0]) ?_ 1 _ rfl;(with_reducible repeat (first|refine bkN ?_ _|refine bkD ?_|refine bkA ?_ _));refine bkP (cs:=#[.string (⟨#[]⟩:ByteArray),.int .i64 0,.int .i64 0,.int .i64 0,.int .i64 0]) ?_ 0 _ rfl;(with_reducible repeat (first|refine bkN ?_ _|refine bkD ?_|refine bkA ?_ _));exact BK118.out) hb);have n2_:=As0.mk (bdT (by repeat (first|(with_reducible first|exact HB.out|apply bdA|apply bdN|apply bd1|refine bdS ?_ GE116.out|refine bdS ?_ GE118.out)|exact HB.out)) hb);clear BK116;clear BK118;clear HB;have BK116:=n0_;have BK118:=n1_;have HB:=n2_;clear n0_ n1_ n2_;(try clear hb);(try clear hb2);(try clear hk);(try clear hi);have hcz14_0:w13.cell? ⟨gb118,0,none⟩=some (.string ((rd_T56 l0_2 x10_1).f0)):=(bkC BK118.out 0).trans rfl;have hcz14_1:w13.cell? ⟨gb118,1,none⟩=some (.int .i64 ((rd_T56 l0_2 x10_1).f1)):=(bkC BK118.out 1).trans rfl;have hcz14_2:w13.cell? ⟨gb118,2,none⟩=some (.int .i64 ((rd_T56 l0_2 x10_1).f2)):=(bkC BK118.out 2).trans rfl;have hcz14_3:w13.cell? ⟨gb118,3,none⟩=some (.int .i64 ((rd_T56 l0_2 x10_1).f3)):=(bkC BK118.out 3).trans rfl;have hcz14_4:w13.cell? ⟨gb118,4,none⟩=some (.int .i64 ((rd_T56 l0_2 x10_1).f4)):=(bkC BK118.out 4).trans rfl;have hfz14_0:=bkF BK118.out 0;have hfz14_1:=bkF BK118.out 1;have hfz14_2:=bkF BK118.out 2;have hfz14_3:=bkF BK118.out 3;have hfz14_4:=bkF BK118.out 4)|((with_reducible refine gate_callee (f:=71) rfl ?_);refine goesL_ (some 21) rfl rfl Try.func71 (by kernel_rfl) rfl #[.agg #[.string ((rd_T56 l0_2 x10_1).f0),.int .i64 ((rd_T56 l0_2 x10_1).f1),.int .i64 ((rd_T56 l0_2 x10_1).f2),.int .i64 ((rd_T56 l0_2 x10_1).f3),.int .i64 ((rd_T56 l0_2 x10_1).f4)]] rfl (by (try simp only [List.map_toArray,List.map_cons,List.map_nil]);first|done|rfl|(simp only [List.length_drop,List.length_take];rfl)) ?_;(with_reducible refine (image_room.calls ((rd_T56 l0_2 x10_1).f0) ((rd_T56 l0_2 x10_1).f1) ((rd_T56 l0_2 x10_1).f2) ((rd_T56 l0_2 x10_1).f3) ((rd_T56 l0_2 x10_1).f4) t120 _ A9.out).mono ?_);rintro e w15 ⟨rfl,hb⟩;refine ⟨_,rfl,?_⟩;have n0_:=As0.mk (bkB (g:=gb116) (o:=.cells #[.slice A0_0 l0_0.length c0_0,.slice A0_1 l0_1.length c0_1,.slice (some ad117) l0_2.length c0_2,.int .i64 a0_3] 26 (0,0)) (by (with_reducible repeat (first|refine bkN ?_ _|refine bkD ?_|refine bkA ?_ _));exact BK116.out) hb);have n1_:=As0.mk (bkB (g:=gb118) (o:=.cells #[.string ((rd_T56 l0_2 x10_1).f0),.int .i64 ((rd_T56 l0_2 x10_1).f1),.int .i64 ((rd_T56 l0_2 x10_1).f2),.int .i64 ((rd_T56 l0_2 x10_1).f3),.int .i64 ((rd_T56 l0_2 x10_1).f4)] 56 (0,0)) (by (with_reducible repeat (first|refine bkN ?_ _|refine bkD ?_|refine bkA ?_ _));exact BK118.out) hb);have n2_:=As0.mk (bdT (by repeat (first|(with_reducible first|exact HB.out|apply bdA|apply bdN|apply bd1|refine bdS ?_ GE116.out|refine bdS ?_ GE118.out)|exact HB.out)) hb);clear BK116;clear BK118;clear HB;have BK116:=n0_;have BK118:=n1_;have HB:=n2_;clear n0_ n1_ n2_;(try clear hb);(try clear hb2);(try clear hk);(try clear hi)))
       go_roundg k1
       case measure=>have:=HK1.out;omega
       case rel=>exact ⟨(wrap64 (x4_1+t120)),(wrap64 (x10_1+1)),(by first|rfl|(simp;done)|(simp [*];done)),(by first|rfl|(simp;done)|(simp [*];done)),H',⟨by have:=HK1.out;omega⟩,⟨by (with_reducible repeat (first|refine bkN ?_ _|refine bkD ?_|refine bkA ?_ _));exact BK116.out⟩,⟨by repeat (first|(with_reducible first|exact HB.out|apply bdA|apply bdN|apply bd1|refine bdS ?_ GE116.out|refine bdS ?_ GE118.out)|exact HB.out)⟩⟩
      ·replace c8:=Bool.eq_false_iff.mpr c8
       subst c8
       have H1:(some (x10_1,true))=some (r1,r2):=by rw [if_neg (show ¬ (false=true) by decide)] at H;exact H
       clear H
       have H:=H1
       clear H1
       simp only [Option.some.injEq,Prod.mk.injEq] at H
       obtain ⟨rfl,rfl⟩:=H
       have p117:0≤(x10_1:Int):=of_decide_eq_true (by first|(with_reducible assumption)|assumption)
       have q117:x10_1<(l0_2.length:Int):=of_decide_eq_true (by first|(with_reducible assumption)|assumption)
       obtain ⟨ad117,e117,hx117_0,hx117_1,hx117_2,hx117_3,hx117_4⟩:=at_T56 HR0_2.out x10_1 p117 q117
       cases e117
       replace hx117_0:=(HB.out.cell (World.block_lt_of_cell? w _ hx117_0)).trans hx117_0
       replace hx117_1:=(HB.out.cell (World.block_lt_of_cell? w _ hx117_1)).trans hx117_1
       replace hx117_2:=(HB.out.cell (World.block_lt_of_cell? w _ hx117_2)).trans hx117_2
       replace hx117_3:=(HB.out.cell (World.block_lt_of_cell? w _ hx117_3)).trans hx117_3
       replace hx117_4:=(HB.out.cell (World.block_lt_of_cell? w _ hx117_4)).trans hx117_4
       replace p117:=eq_true p117
       replace q117:=eq_true q117
       go_wp2_with (first|((with_reducible refine gtD (N:=6) rfl ?_);refine bxE ?hg (N:=6) ?hd (cs:=#[.string (⟨#[]⟩:ByteArray),.int .i64 0,.int .i64 0,.int .i64 0,.int .i64 0]) (t:=56) ?hr ?_;(case hd=>rfl);(case hg=>rfl);(case hr=>first|(go_simp;done)|(go_simp;rfl));intro gb118 hg w16 hbox hb;have n0_:=As0.mk (bkB (g:=gb116) (o:=.cells #[.slice A0_0 l0_0.length c0_0,.slice A0_1 l0_1.length c0_1,.slice (some ad117) l0_2.length c0_2,.int .i64 a0_3] 26 (0,0)) (by (with_reducible repeat (first|refine bkN ?_ _|refine bkD ?_|refine bkA ?_ _));exact BK116.out) hb);have n1_:=As0.mk (bdT (by repeat (first|(with_reducible first|exact HB.out|apply bdA|apply bdN|apply bd1|refine bdS ?_ GE116.out)|exact HB.out)) hb);have n2_:=As0.mk (hbox);have n3_:=As0.mk ((by rw [hg];exact (bdZ (by repeat (first|(with_reducible first|exact HB.out|apply bdA|apply bdN|apply bd1|refine bdS ?_ GE116.out)|exact HB.out))):w.heap.size≤gb118));have n4_:=As0.mk ((by rw [hg];exact (bdZ (by repeat (first|(with_reducible first|exact HB.out|apply bdA|apply bdN|apply bd1|refine bdS ?_ GE116.out)|exact HB.out))):w.heap.size≤gb118));have n5_:=As0.mk ((by rw [hg];exact Nat.ne_of_lt (blk_lt (g:=gb116) (o:=.cells #[.slice A0_0 l0_0.length c0_0,.slice A0_1 l0_1.length c0_1,.slice (some ad117) l0_2.length c0_2,.int .i64 a0_3] 26 (0,0)) (by (with_reducible repeat (first|refine bkN ?_ _|refine bkD ?_|refine bkA ?_ _));exact BK116.out)):gb116≠gb118));have n6_:=As0.mk ((by rw [hg];exact Nat.ne_of_gt (blk_lt (g:=gb116) (o:=.cells #[.slice A0_0 l0_0.length c0_0,.slice A0_1 l0_1.length c0_1,.slice (some ad117) l0_2.length c0_2,.int .i64 a0_3] 26 (0,0)) (by (with_reducible repeat (first|refine bkN ?_ _|refine bkD ?_|refine bkA ?_ _));exact BK116.out)):gb118≠gb116));clear BK116;clear HB;have BK116:=n0_;have HB:=n1_;have BK118:=n2_;have GW118:=n3_;have GE118:=n4_;have NB116_118:=n5_;have NB118_116:=n6_;clear n0_ n1_ n2_ n3_ n4_ n5_ n6_;clear hb hbox hg;have hnb17:=NB118_116.out;have hnc17:=NB116_118.out;have hcz18_0:w16.cell? ⟨gb118,0,none⟩=some (.string (⟨#[]⟩:ByteArray)):=(bkC BK118.out 0).trans rfl;have hcz18_1:w16.cell? ⟨gb118,1,none⟩=some (.int .i64 0):=(bkC BK118.out 1).trans rfl;have hcz18_2:w16.cell? ⟨gb118,2,none⟩=some (.int .i64 0):=(bkC BK118.out 2).trans rfl;have hcz18_3:w16.cell? ⟨gb118,3,none⟩=some (.int .i64 0):=(bkC BK118.out 3).trans rfl;have hcz18_4:w16.cell? ⟨gb118,4,none⟩=some (.int .i64 0):=(bkC BK118.out 4).trans rfl;have hfz18_0:=bkF BK118.out 0;have hfz18_1:=bkF BK118.out 1;have hfz18_2:=bkF BK118.out 2;have hfz18_3:=bkF BK118.out 3;have hfz18_4:=bkF BK118.out 4)|((with_reducible refine gate_callee (f:=70) rfl ?_);refine goesL_ (some 16) rfl rfl Try.func70 (by kernel_rfl) rfl #[.agg #[.string ((rd_T56 l0_2 x10_1).f0),.int .i64 ((rd_T56 l0_2 x10_1).f1),.int .i64 ((rd_T56 l0_2 x10_1).f2),.int .i64 ((rd_T56 l0_2 x10_1).f3),.int .i64 ((rd_T56 l0_2 x10_1).f4)]] rfl (by (try simp only [List.map_toArray,List.map_cons,List.map_nil]);first|done|rfl|(simp only [List.length_drop,List.length_take];rfl)) ?_;(with_reducible refine (imFt.calls ((rd_T56 l0_2 x10_1).f0) ((rd_T56 l0_2 x10_1).f1) ((rd_T56 l0_2 x10_1).f2) ((rd_T56 l0_2 x10_1).f3) ((rd_T56 l0_2 x10_1).f4) false _ A7.out).mono ?_);rintro e w19 ⟨rfl,hb⟩;refine ⟨_,rfl,?_⟩;have n0_:=As0.mk (bkB (g:=gb116) (o:=.cells #[.slice A0_0 l0_0.length c0_0,.slice A0_1 l0_1.length c0_1,.slice (some ad117) l0_2.length c0_2,.int .i64 a0_3] 26 (0,0)) (by (with_reducible repeat (first|refine bkN ?_ _|refine bkD ?_|refine bkA ?_ _));refine bkR ?_ NB116_118.out _;(with_reducible repeat (first|refine bkN ?_ _|refine bkD ?_|refine bkA ?_ _));refine bkR ?_ NB116_118.out _;(with_reducible repeat (first|refine bkN ?_ _|refine bkD ?_|refine bkA ?_ _));refine bkR ?_ NB116_118.out _;(with_reducible repeat (first|refine bkN ?_ _|refine bkD ?_|refine bkA ?_ _));refine bkR ?_ NB116_118.out _;(with_reducible repeat (first|refine bkN ?_ _|refine bkD ?_|refine bkA ?_ _));refine bkR ?_ NB116_118.out _;(with_reducible repeat (first|refine bkN ?_ _|refine bkD ?_|refine bkA ?_ _));exact BK116.out) hb);have n1_:=As0.mk (bkB (g:=gb118) (o:=.cells #[.string ((rd_T56 l0_2 x10_1).f0),.int .i64 ((rd_T56 l0_2 x10_1).f1),.int .i64 ((rd_T56 l0_2 x10_1).f2),.int .i64 ((rd_T56 l0_2 x10_1).f3),.int .i64 ((rd_T56 l0_2 x10_1).f4)] 56 (0,0)) (by (with_reducible repeat (first|refine bkN ?_ _|refine bkD ?_|refine bkA ?_ _));refine bkP (cs:=#[.string ((rd_T56 l0_2 x10_1).f0),.int .i64 ((rd_T56 l0_2 x10_1).f1),.int .i64 ((rd_T56 l0_2 x10_1).f2),.int .i64 ((rd_T56 l0_2 x10_1).f3),.int .i64 0]) ?_ 4 _ rfl;(with_reducible repeat (first|refine bkN ?_ _|refine bkD ?_|refine bkA ?_ _));refine bkP (cs:=#[.string ((rd_T56 l0_2 x10_1).f0),.int .i64 ((rd_T56 l0_2 x10_1).f1),.int .i64 ((rd_T56 l0_2 x10_1).f2),.int .i64 0,.int .i64 0]) ?_ 3 _ rfl;(with_reducible repeat (first|refine bkN ?_ _|refine bkD ?_|refine bkA ?_ _));refine bkP (cs:=#[.string ((rd_T56 l0_2 x10_1).f0),.int .i64 ((rd_T56 l0_2 x10_1).f1),.int .i64 0,.int .i64 0,.int .i64 0]) ?_ 2 _ rfl;(with_reducible repeat (first|refine bkN ?_ _|refine bkD ?_|refine bkA ?_ _));refine bkP (cs:=#[.string ((rd_T56 l0_2 x10_1).f0),.int .i64 0,.int .i64 0,.int .i64 0,.int .i64 0]) ?_ 1 _ rfl;(with_reducible repeat (first|refine bkN ?_ _|refine bkD ?_|refine bkA ?_ _));refine bkP (cs:=#[.string (⟨#[]⟩:ByteArray),.int .i64 0,.int .i64 0,.int .i64 0,.int .i64 0]) ?_ 0 _ rfl;(with_reducible repeat (first|refine bkN ?_ _|refine bkD ?_|refine bkA ?_ _));exact BK118.out) hb);have n2_:=As0.mk (bdT (by repeat (first|(with_reducible first|exact HB.out|apply bdA|apply bdN|apply bd1|refine bdS ?_ GE116.out|refine bdS ?_ GE118.out)|exact HB.out)) hb);clear BK116;clear BK118;clear HB;have BK116:=n0_;have BK118:=n1_;have HB:=n2_;clear n0_ n1_ n2_;(try clear hb);(try clear hb2);(try clear hk);(try clear hi)))
       go_ret2
       exact ⟨by first|rfl|(simp [errW_none,errW_some] <;> rfl)|(simp [*,errW_none,errW_some] <;> rfl),by repeat (first|(with_reducible first|exact HB.out|apply bdA|apply bdN|apply bd1|refine bdS ?_ GE116.out|refine bdS ?_ GE118.out)|exact HB.out)⟩
     ·rw [if_neg c6] at H
      exact absurd H (by simp)
    ·rw [if_neg c5] at H
     exact absurd H (by simp)
   ·rw [if_neg c4] at H
    have c4b0:decide (x10_1<(l0_2.length:Int))=false:=decide_eq_false c4
    clear c4
    simp only [Option.some.injEq,Prod.mk.injEq] at H
    obtain ⟨rfl,rfl⟩:=H
    have hcz20_0:wr.cell? ⟨gb116,0,none⟩=some (.slice A0_0 l0_0.length c0_0):=(bkC BK116.out 0).trans rfl
    have hcz20_1:wr.cell? ⟨gb116,1,none⟩=some (.slice A0_1 l0_1.length c0_1):=(bkC BK116.out 1).trans rfl
    have hcz20_2:wr.cell? ⟨gb116,2,none⟩=some (.slice A0_2 l0_2.length c0_2):=(bkC BK116.out 2).trans rfl
    have hcz20_3:wr.cell? ⟨gb116,3,none⟩=some (.int .i64 a0_3):=(bkC BK116.out 3).trans rfl
    have hfz20_0:=bkF BK116.out 0
    have hfz20_1:=bkF BK116.out 1
    have hfz20_2:=bkF BK116.out 2
    have hfz20_3:=bkF BK116.out 3
    go_wp2
    go_ret2
    exact ⟨by first|rfl|(simp [errW_none,errW_some] <;> rfl)|(simp [*,errW_none,errW_some] <;> rfl),by repeat (first|(with_reducible first|exact HB.out|apply bdA|apply bdN|apply bd1|refine bdS ?_ GE116.out)|exact HB.out)⟩
def image_badEntry.f (l0_0:List (S54)) (l0_1:List (S68)) (l0_2:List (S56)) (a0_3:Int):Option (Int × Bool):=if a0_3<0 then (some (0,true)) else (some (0,decide (a0_3≥(l0_1.length:Int))))
theorem image_badEntry.calls (A0_0:Option Addr) (c0_0:Nat) (l0_0:List (S54)) (A0_1:Option Addr) (c0_1:Nat) (l0_1:List (S68)) (A0_2:Option Addr) (c0_2:Nat) (l0_2:List (S56)) (a0_3:Int) (r1:Int) (r2:Bool) (w:World) (hr0_0:Kd.C k54 w A0_0 l0_0.length l0_0) (hc0_0:l0_0.length≤c0_0) (hr0_1:Kd.C k68 w A0_1 l0_1.length l0_1) (hc0_1:l0_1.length≤c0_1) (hr0_2:Kd.C k56 w A0_2 l0_2.length l0_2) (hc0_2:l0_2.length≤c0_2) (h:image_badEntry.f l0_0 l0_1 l0_2 a0_3=some (r1,r2)) :
  Calls Try.prog 33 #[.agg #[.slice A0_0 l0_0.length c0_0,.slice A0_1 l0_1.length c0_1,.slice A0_2 l0_2.length c0_2,.int .i64 a0_3]] w fun e w'=>e=.returned (.tuple #[.int .i64 r1,.bool r2])∧Below w.heap.size w w':=by
 have hu26:=Try.underlying26
 have HR0_0:=As0.mk hr0_0
 have HC0_0:=As0.mk hc0_0
 clear hr0_0 hc0_0
 have HR0_1:=As0.mk hr0_1
 have HC0_1:=As0.mk hc0_1
 clear hr0_1 hc0_1
 have HR0_2:=As0.mk hr0_2
 have HC0_2:=As0.mk hc0_2
 clear hr0_2 hc0_2
 have HB:=As0.mk (Below.refl w.heap.size w)
 have H:(if a0_3<0 then (some (0,true)) else (some (0,decide (a0_3≥(l0_1.length:Int)))))=some (r1,r2):=h
 clear h
 by_cases c2:a0_3<0
 ·rw [if_pos c2] at H
  have c2b0:decide (a0_3<0)=true:=decide_eq_true c2
  clear c2
  simp only [Option.some.injEq,Prod.mk.injEq] at H
  obtain ⟨rfl,rfl⟩:=H
  go_enter Try.func33,Try.ntmps33
  go_wp2_with (first|((with_reducible refine gtD (N:=1) rfl ?_);(try (refine gate_guard (by rfl) ?_;dsimp only));refine bxE ?hg (N:=1) ?hd (cs:=#[.slice A0_0 l0_0.length c0_0,.slice A0_1 l0_1.length c0_1,.slice A0_2 l0_2.length c0_2,.int .i64 a0_3]) (t:=26) ?hr ?_;(case hd=>rfl);(case hg=>rfl);(case hr=>first|(go_simp;done)|(go_simp;rfl));intro gb121 hg w3 hbox hb;have n0_:=As0.mk (bdT (by repeat (first|(with_reducible first|exact HB.out|apply bdA|apply bdN|apply bd1)|exact HB.out)) hb);have n1_:=As0.mk (hbox);have n2_:=As0.mk ((by rw [hg];exact (bdZ (by repeat (first|(with_reducible first|exact HB.out|apply bdA|apply bdN|apply bd1)|exact HB.out))):w.heap.size≤gb121));have n3_:=As0.mk ((by rw [hg];exact (bdZ (by repeat (first|(with_reducible first|exact HB.out|apply bdA|apply bdN|apply bd1)|exact HB.out))):w.heap.size≤gb121));clear HB;have HB:=n0_;have BK121:=n1_;have GW121:=n2_;have GE121:=n3_;clear n0_ n1_ n2_ n3_;clear hb hbox hg;have hcz4_0:w3.cell? ⟨gb121,0,none⟩=some (.slice A0_0 l0_0.length c0_0):=(bkC BK121.out 0).trans rfl;have hcz4_1:w3.cell? ⟨gb121,1,none⟩=some (.slice A0_1 l0_1.length c0_1):=(bkC BK121.out 1).trans rfl;have hcz4_2:w3.cell? ⟨gb121,2,none⟩=some (.slice A0_2 l0_2.length c0_2):=(bkC BK121.out 2).trans rfl;have hcz4_3:w3.cell? ⟨gb121,3,none⟩=some (.int .i64 a0_3):=(bkC BK121.out 3).trans rfl;have hfz4_0:=bkF BK121.out 0;have hfz4_1:=bkF BK121.out 1;have hfz4_2:=bkF BK121.out 2;have hfz4_3:=bkF BK121.out 3))
  repeat (go_quiet (first|((with_reducible refine gtD (N:=1) rfl ?_);(try (refine gate_guard (by rfl) ?_;dsimp only));refine bxE ?hg (N:=1) ?hd (cs:=#[.slice A0_0 l0_0.length c0_0,.slice A0_1 l0_1.length c0_1,.slice A0_2 l0_2.length c0_2,.int .i64 a0_3]) (t:=26) ?hr ?_;(case hd=>rfl);(case hg=>rfl);(case hr=>first|(go_simp;done)|(go_simp;rfl));intro gb121 hg w3 hbox hb;have n0_:=As0.mk (bdT (by repeat (first|(with_reducible first|exact HB.out|apply bdA|apply bdN|apply bd1)|exact HB.out)) hb);have n1_:=As0.mk (hbox);have n2_:=As0.mk ((by rw [hg];exact (bdZ (by repeat (first|(with_reducible first|exact HB.out|apply bdA|apply bdN|apply bd1)|exact HB.out))):w.heap.size≤gb121));have n3_:=As0.mk ((by rw [hg];exact (bdZ (by repeat (first|(with_reducible first|exact HB.out|apply bdA|apply bdN|apply bd1)|exact HB.out))):w.heap.size≤gb121));clear HB;have HB:=n0_;have BK121:=n1_;have GW121:=n2_;have GE121:=n3_;clear n0_ n1_ n2_ n3_;clear hb hbox hg;have hcz4_0:w3.cell? ⟨gb121,0,none⟩=some (.slice A0_0 l0_0.length c0_0):=(bkC BK121.out 0).trans rfl;have hcz4_1:w3.cell? ⟨gb121,1,none⟩=some (.slice A0_1 l0_1.length c0_1):=(bkC BK121.out 1).trans rfl;have hcz4_2:w3.cell? ⟨gb121,2,none⟩=some (.slice A0_2 l0_2.length c0_2):=(bkC BK121.out 2).trans rfl;have hcz4_3:w3.cell? ⟨gb121,3,none⟩=some (.int .i64 a0_3):=(bkC BK121.out 3).trans rfl;have hfz4_0:=bkF BK121.out 0;have hfz4_1:=bkF BK121.out 1;have hfz4_2:=bkF BK121.out 2;have hfz4_3:=bkF BK121.out 3));try go_wp2_with (first|((with_reducible refine gtD (N:=1) rfl ?_);(try (refine gate_guard (by rfl) ?_;dsimp only));refine bxE ?hg (N:=1) ?hd (cs:=#[.slice A0_0 l0_0.length c0_0,.slice A0_1 l0_1.length c0_1,.slice A0_2 l0_2.length c0_2,.int .i64 a0_3]) (t:=26) ?hr ?_;(case hd=>rfl);(case hg=>rfl);(case hr=>first|(go_simp;done)|(go_simp;rfl));intro gb121 hg w3 hbox hb;have n0_:=As0.mk (bdT (by repeat (first|(with_reducible first|exact HB.out|apply bdA|apply bdN|apply bd1)|exact HB.out)) hb);have n1_:=As0.mk (hbox);have n2_:=As0.mk ((by rw [hg];exact (bdZ (by repeat (first|(with_reducible first|exact HB.out|apply bdA|apply bdN|apply bd1)|exact HB.out))):w.heap.size≤gb121));have n3_:=As0.mk ((by rw [hg];exact (bdZ (by repeat (first|(with_reducible first|exact HB.out|apply bdA|apply bdN|apply bd1)|exact HB.out))):w.heap.size≤gb121));clear HB;have HB:=n0_;have BK121:=n1_;have GW121:=n2_;have GE121:=n3_;clear n0_ n1_ n2_ n3_;clear hb hbox hg;have hcz4_0:w3.cell? ⟨gb121,0,none⟩=some (.slice A0_0 l0_0.length c0_0):=(bkC BK121.out 0).trans rfl;have hcz4_1:w3.cell? ⟨gb121,1,none⟩=some (.slice A0_1 l0_1.length c0_1):=(bkC BK121.out 1).trans rfl;have hcz4_2:w3.cell? ⟨gb121,2,none⟩=some (.slice A0_2 l0_2.length c0_2):=(bkC BK121.out 2).trans rfl;have hcz4_3:w3.cell? ⟨gb121,3,none⟩=some (.int .i64 a0_3):=(bkC BK121.out 3).trans rfl;have hfz4_0:=bkF BK121.out 0;have hfz4_1:=bkF BK121.out 1;have hfz4_2:=bkF BK121.out 2;have hfz4_3:=bkF BK121.out 3)))
  go_ret2
  exact ⟨by first|rfl|(simp [errW_none,errW_some] <;> rfl)|(simp [*,errW_none,errW_some] <;> rfl),by repeat (first|(with_reducible first|exact HB.out|apply bdA|apply bdN|apply bd1|refine bdS ?_ GE121.out)|exact HB.out)⟩
 ·rw [if_neg c2] at H
  have c2b0:decide (a0_3<0)=false:=decide_eq_false c2
  clear c2
  simp only [Option.some.injEq,Prod.mk.injEq] at H
  obtain ⟨rfl,rfl⟩:=H
  go_enter Try.func33,Try.ntmps33
  go_wp2_with (first|((with_reducible refine gtD (N:=1) rfl ?_);(try (refine gate_guard (by rfl) ?_;dsimp only));refine bxE ?hg (N:=1) ?hd (cs:=#[.slice A0_0 l0_0.length c0_0,.slice A0_1 l0_1.length c0_1,.slice A0_2 l0_2.length c0_2,.int .i64 a0_3]) (t:=26) ?hr ?_;(case hd=>rfl);(case hg=>rfl);(case hr=>first|(go_simp;done)|(go_simp;rfl));intro gb121 hg w5 hbox hb;have n0_:=As0.mk (bdT (by repeat (first|(with_reducible first|exact HB.out|apply bdA|apply bdN|apply bd1)|exact HB.out)) hb);have n1_:=As0.mk (hbox);have n2_:=As0.mk ((by rw [hg];exact (bdZ (by repeat (first|(with_reducible first|exact HB.out|apply bdA|apply bdN|apply bd1)|exact HB.out))):w.heap.size≤gb121));have n3_:=As0.mk ((by rw [hg];exact (bdZ (by repeat (first|(with_reducible first|exact HB.out|apply bdA|apply bdN|apply bd1)|exact HB.out))):w.heap.size≤gb121));clear HB;have HB:=n0_;have BK121:=n1_;have GW121:=n2_;have GE121:=n3_;clear n0_ n1_ n2_ n3_;clear hb hbox hg;have hcz6_0:w5.cell? ⟨gb121,0,none⟩=some (.slice A0_0 l0_0.length c0_0):=(bkC BK121.out 0).trans rfl;have hcz6_1:w5.cell? ⟨gb121,1,none⟩=some (.slice A0_1 l0_1.length c0_1):=(bkC BK121.out 1).trans rfl;have hcz6_2:w5.cell? ⟨gb121,2,none⟩=some (.slice A0_2 l0_2.length c0_2):=(bkC BK121.out 2).trans rfl;have hcz6_3:w5.cell? ⟨gb121,3,none⟩=some (.int .i64 a0_3):=(bkC BK121.out 3).trans rfl;have hfz6_0:=bkF BK121.out 0;have hfz6_1:=bkF BK121.out 1;have hfz6_2:=bkF BK121.out 2;have hfz6_3:=bkF BK121.out 3))
  repeat (go_quiet (first|((with_reducible refine gtD (N:=1) rfl ?_);(try (refine gate_guard (by rfl) ?_;dsimp only));refine bxE ?hg (N:=1) ?hd (cs:=#[.slice A0_0 l0_0.length c0_0,.slice A0_1 l0_1.length c0_1,.slice A0_2 l0_2.length c0_2,.int .i64 a0_3]) (t:=26) ?hr ?_;(case hd=>rfl);(case hg=>rfl);(case hr=>first|(go_simp;done)|(go_simp;rfl));intro gb121 hg w5 hbox hb;have n0_:=As0.mk (bdT (by repeat (first|(with_reducible first|exact HB.out|apply bdA|apply bdN|apply bd1)|exact HB.out)) hb);have n1_:=As0.mk (hbox);have n2_:=As0.mk ((by rw [hg];exact (bdZ (by repeat (first|(with_reducible first|exact HB.out|apply bdA|apply bdN|apply bd1)|exact HB.out))):w.heap.size≤gb121));have n3_:=As0.mk ((by rw [hg];exact (bdZ (by repeat (first|(with_reducible first|exact HB.out|apply bdA|apply bdN|apply bd1)|exact HB.out))):w.heap.size≤gb121));clear HB;have HB:=n0_;have BK121:=n1_;have GW121:=n2_;have GE121:=n3_;clear n0_ n1_ n2_ n3_;clear hb hbox hg;have hcz6_0:w5.cell? ⟨gb121,0,none⟩=some (.slice A0_0 l0_0.length c0_0):=(bkC BK121.out 0).trans rfl;have hcz6_1:w5.cell? ⟨gb121,1,none⟩=some (.slice A0_1 l0_1.length c0_1):=(bkC BK121.out 1).trans rfl;have hcz6_2:w5.cell? ⟨gb121,2,none⟩=some (.slice A0_2 l0_2.length c0_2):=(bkC BK121.out 2).trans rfl;have hcz6_3:w5.cell? ⟨gb121,3,none⟩=some (.int .i64 a0_3):=(bkC BK121.out 3).trans rfl;have hfz6_0:=bkF BK121.out 0;have hfz6_1:=bkF BK121.out 1;have hfz6_2:=bkF BK121.out 2;have hfz6_3:=bkF BK121.out 3));try go_wp2_with (first|((with_reducible refine gtD (N:=1) rfl ?_);(try (refine gate_guard (by rfl) ?_;dsimp only));refine bxE ?hg (N:=1) ?hd (cs:=#[.slice A0_0 l0_0.length c0_0,.slice A0_1 l0_1.length c0_1,.slice A0_2 l0_2.length c0_2,.int .i64 a0_3]) (t:=26) ?hr ?_;(case hd=>rfl);(case hg=>rfl);(case hr=>first|(go_simp;done)|(go_simp;rfl));intro gb121 hg w5 hbox hb;have n0_:=As0.mk (bdT (by repeat (first|(with_reducible first|exact HB.out|apply bdA|apply bdN|apply bd1)|exact HB.out)) hb);have n1_:=As0.mk (hbox);have n2_:=As0.mk ((by rw [hg];exact (bdZ (by repeat (first|(with_reducible first|exact HB.out|apply bdA|apply bdN|apply bd1)|exact HB.out))):w.heap.size≤gb121));have n3_:=As0.mk ((by rw [hg];exact (bdZ (by repeat (first|(with_reducible first|exact HB.out|apply bdA|apply bdN|apply bd1)|exact HB.out))):w.heap.size≤gb121));clear HB;have HB:=n0_;have BK121:=n1_;have GW121:=n2_;have GE121:=n3_;clear n0_ n1_ n2_ n3_;clear hb hbox hg;have hcz6_0:w5.cell? ⟨gb121,0,none⟩=some (.slice A0_0 l0_0.length c0_0):=(bkC BK121.out 0).trans rfl;have hcz6_1:w5.cell? ⟨gb121,1,none⟩=some (.slice A0_1 l0_1.length c0_1):=(bkC BK121.out 1).trans rfl;have hcz6_2:w5.cell? ⟨gb121,2,none⟩=some (.slice A0_2 l0_2.length c0_2):=(bkC BK121.out 2).trans rfl;have hcz6_3:w5.cell? ⟨gb121,3,none⟩=some (.int .i64 a0_3):=(bkC BK121.out 3).trans rfl;have hfz6_0:=bkF BK121.out 0;have hfz6_1:=bkF BK121.out 1;have hfz6_2:=bkF BK121.out 2;have hfz6_3:=bkF BK121.out 3)))
  go_ret2
  exact ⟨by first|rfl|(simp [errW_none,errW_some] <;> rfl)|(simp [*,errW_none,errW_some] <;> rfl),by repeat (first|(with_reducible first|exact HB.out|apply bdA|apply bdN|apply bd1|refine bdS ?_ GE121.out)|exact HB.out)⟩
end Go.Proofs.Ytbeikcckcjadbaa.PI
end
