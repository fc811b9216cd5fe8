/- What MemoryStored states holds for every input: what is stored is loaded, byte by byte and as a whole, and no other byte is changed. The frame is the kit's print; the walks, the contracts of package memory and the plain law are this session's. -/
import Derived.Test.YthmeojeehemlaaaRows
import Derived.Test.YthmeojeehemlaaaMem18
import Derived.Test.YthmeojeehemlaaaOpen
import Derived.WalkKit
import Derived.ProofKit
import Derived.OpenShut
import Derived.ShutString
import Derived.ChangeOld
import Derived.Below
import Derived.SizedLaws
namespace Go.Proofs.Ythmeojeehemlaaa.memoryStored
open Go.ChangeShapes Go.WideShapes Go.ChangeAt Go.RowKit Go.Proofs.YthmeojeehemlaaaW.Open Go.Proofs.Ythmeojeehemlaaa.PM Go.Proofs.YthmeojeehemlaaaW.PrintWords
open Go.ChangeMaps (open_string shut_string)
set_option linter.unusedVariables false
theorem own : ownKnob Try.prog.godebug = none := by kernel_rfl
theorem laidOut : laidOutB Try.prog = true := by kernel_rfl
theorem u64_in {a : Int} (h : (Lit.int .u64 a).wf = true) : 0 ≤ a ∧ a < 18446744073709551616 := by
  have h' : 0 ≤ a ∧ a ≤ 18446744073709551615 := by simpa [Lit.wf, IntKind.min, IntKind.max, IntKind.signed, IntKind.bits] using h
  omega
theorem u8_in {a : Int} (h : (Lit.int .u8 a).wf = true) : 0 ≤ a ∧ a < 256 := by
  have h' : 0 ≤ a ∧ a ≤ 255 := by simpa [Lit.wf, IntKind.min, IntKind.max, IntKind.signed, IntKind.bits] using h
  omega
def okT39 (v : S39) : Prop := (Lit.int .u64 v.f0).wf = true ∧ ((∀ b ∈ v.f1, (Lit.int .u8 b).wf = true) ∧ v.f1.length * Try.prog.bytesOf 5 ≤ reachBytes)
theorem opnT39 : Opn Try.prog 39 k39 okT39 :=
  opn_weaken (opn_struct (ts := [23, 37]) (fun x : S39 => (x.f0, x.f1)) (fun p => ⟨p.1, p.2⟩) (fun _ => rfl) Try.underlying39 (by kernel_rfl) (by kernel_rfl) (by kernel_rfl)
    (fields_cons (opn_int Try.underlying23) (fields_one (opn_slice Try.underlying37 (by kernel_rfl) (opn_int Try.underlying5))))) (fun _ h => h)
theorem b5 : Try.prog.bytesOf 5 = 1 := by kernel_rfl
theorem b39 : Try.prog.bytesOf 39 = 32 := by kernel_rfl
theorem fits_of {v : S39} (h : okT39 v) : Mem.Fits v ∧ v.f1.length ≤ 140737488351232 := by
  obtain ⟨h0, h1, h2⟩ := h
  rw [b5] at h2
  unfold reachBytes at h2
  exact ⟨⟨(u64_in h0).1, (u64_in h0).2, fun b hb => u8_in (h1 b hb), by omega⟩, by omega⟩
set_option maxRecDepth 100000 in
theorem lifted (os : Os) (started : os.Started) (H : Type) (enc : TypeId × Value → H) :
    ReturnsInHanded {} Try.checked os 3 .any (Rows.memoryStoredSpec.pre6 enc Try.prog Try.f3 Rows.memoryStoredRow.domain false) (Rows.memoryStoredSpec.post enc Try.prog Try.f3 false true false false) := by
  refine returnsInHanded_of_change_sized (C := Try.checked) own started (by kernel_rfl) Try.func3
    (ChangeSpec.witness6 (enc := enc) (C := Try.checked) false ⟨#[], #[.slice none 0 0, .int .u64 0, .int .i64 0, .int .u64 0], []⟩ 8 (by kernel_rfl) (by kernel_rfl) (by kernel_rfl) (by kernel_rfl)) ?_
  intro W base args ds gs before hval0 hW hcnd hsz0 _
  have hsz : (DataW.weightsEach Try.prog (Try.f3.params.toList ++ Rows.memoryStoredSpec.plain.varTypes Try.prog) (ds ++ gs)).all (· ≤ reachBytes) = true := hsz0
  have hval : ∀ (j : Nat) t v, Try.f3.params[j]? = some t → args[j]? = some v → Value.okWide Try.prog W .any base t v := hval0
  have hW' := hW
  obtain ⟨p, q, hA0, hV, rfl, hfz, hnd⟩ := hW
  have hA : DataW.TrodAll enc Try.prog W 0 (fun _ => true) true Try.f3.params.toList args.toList ds p := hA0
  rw [Try.params3] at hA hval hsz
  obtain ⟨v0, vs0, d0, ds0, p0, q0, hargs, rfl, rfl, h0, r0⟩ := trodAll_cons hA
  obtain ⟨v1, vs1, d1, ds1, p1, q1, rfl, rfl, rfl, h1, r1⟩ := trodAll_cons r0
  obtain ⟨v2, vs2, d2, ds2, p2, q2, rfl, rfl, rfl, h2, r2⟩ := trodAll_cons r1
  obtain ⟨v3, vs3, d3, ds3, p3, q3, rfl, rfl, rfl, h3, r3⟩ := trodAll_cons r2
  obtain ⟨rfl, rfl, rfl⟩ := trodAll_nil r3
  obtain rfl : args = #[v0, v1, v2, v3] := by cases args; simp_all
  obtain ⟨rfl, rfl⟩ := trodVars_none hV
  have k0 := h0
  have lt0 : ∀ x ∈ p0, x.block < W.heap.size := by obtain ⟨m, hm⟩ := k0; exact DataW.trod_lt m _ _ _ hm
  obtain ⟨a0, len0, cap0, rfl⟩ := okWide_slice Try.underlying22 (hval 0 22 v0 rfl rfl)
  obtain ⟨l0, hK0, ok0⟩ := opn_arg (opn_slice Try.underlying22 (by kernel_rfl) (opnT39)) h0 hsz (j := 0) rfl rfl
  obtain ⟨A0, c0, e0, hc0, hr0⟩ := hK0
  simp only [Value.cells, List.cons.injEq, and_true, Value.slice.injEq] at e0
  obtain ⟨rfl, rfl, rfl⟩ := e0
  obtain ⟨a1, rfl, rfl, rfl, w1⟩ := open_int Try.underlying23 (hval 1 23 v1 rfl rfl) h1
  obtain ⟨a2, rfl, rfl, rfl, w2⟩ := open_int Try.underlying3 (hval 2 3 v2 rfl rfl) h2
  obtain ⟨a3, rfl, rfl, rfl, w3⟩ := open_int Try.underlying23 (hval 3 23 v3 rfl rfl) h3
  clear hA0 hval0 hsz0 hsz
  have hlen : l0.length ≤ 4398046510976 := by
    have := ok0.2
    rw [b39] at this
    unfold reachBytes at this
    omega
  refine (Mem.stored_ W _ _ _ l0 a1 a2 a3 hr0 hc0 (fun x hx => (fits_of (ok0.1 x hx)).1) hlen (fun x hx => (fits_of (ok0.1 x hx)).2) (u64_in w1).1 (u64_in w1).2 (u64_in w3).1 (u64_in w3).2).mono fun e W' hq => ?_
  obtain ⟨rfl, bel⟩ := hq
  exact ⟨_, rfl, _, _, _, [], _, [], hW', trodAll_mk1 (shut_bool Try.underlying4 _), (trodAll_cons_mk (Below.trod laidOut (by kernel_rfl) (of_decide_eq_true (by kernel_rfl)) k0 bel lt0) (trodAll_cons_mk (shut_int Try.underlying23 w1) (trodAll_cons_mk (shut_int Try.underlying3 w2) (trodAll_cons_mk (shut_int Try.underlying23 w3) trodAll_mk0)))), rfl, bel.frame _, fun h => by cases h⟩
theorem over : Rows.memoryStoredRow.holds Try.pinned (OpenSpec.ofChange Rows.memoryStoredSpec) :=
  OpenClaim.holds_of_wide 3 Try.f3 rfl rfl rfl rfl rfl rfl rfl ⟨rfl, rfl, rfl, rfl, rfl⟩ rfl rfl rfl rfl rfl (by kernel_rfl) Try.func3 (by kernel_rfl)
    (of_decide_eq_true (by kernel_rfl)) (by unfold Func.isWrapper; first | (rw [if_pos (by decide +kernel)]; kernel_rfl) | (rw [if_neg (by decide +kernel)]; exact ⟨rfl, rfl⟩))
    (fun os started H enc _ => lifted os started H enc)
theorem proved : Rows.MemoryStoredSaid := over
#print axioms proved
end Go.Proofs.Ythmeojeehemlaaa.memoryStored
namespace Go.Proofs.Ythmeojeehemlaaa
/-- The row, under a short name, for the claim. -/
theorem memoryStored_holds : Rows.MemoryStoredSaid := memoryStored.proved
end Go.Proofs.Ythmeojeehemlaaa
