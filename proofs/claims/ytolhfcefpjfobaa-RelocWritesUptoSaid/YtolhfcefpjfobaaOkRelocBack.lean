-- Printed by this session's own program (wip/tools/myprint.py) over the kit's print; the parts that are marked 'by hand' are this session's.
import Derived.Test.YtolhfcefpjfobaaPRx7
import Derived.Test.YtolhfcefpjfobaaOpen
import Derived.KernelRfl
namespace Go.Proofs.Ytolhfcefpjfobaa.PR
open Go.RowKit Go.Proofs.YtolhfcefpjfobaaW.PrintWords Go.Proofs.YtolhfcefpjfobaaW.PrintLast Go.Proofs.YtolhfcefpjfobaaW.Open
set_option linter.unusedVariables false
def okT27 (v : S27) : Prop := (Lit.int .i64 v.f0).wf = true ∧ (Lit.int .i64 v.f1).wf = true ∧ (Lit.int .i64 v.f2).wf = true
theorem opnT27 : Opn Try.prog 27 k27 okT27 :=
  opn_weaken (opn_struct (ts := [3, 3, 3]) (fun x : S27 => (x.f0, x.f1, x.f2)) (fun p => ⟨p.1, p.2.1, p.2.2⟩) (fun _ => rfl) Try.underlying27 (by kernel_rfl) (by kernel_rfl) (by kernel_rfl)
    (fields_cons (opn_int Try.underlying3) (fields_cons (opn_int Try.underlying3) (fields_one (opn_int Try.underlying3))))) (fun _ h => h)
/-- The one pure statement of spindlelaw11_RelocBack. -/
def spindlelaw11_RelocBack.Pure : Prop := ∀ (l0 : List (S27)) (a1 : Int), ((∀ v ∈ l0, okT27 v) ∧ l0.length * 24 ≤ reachBytes) → (Lit.int .i64 a1).wf = true → ∃ k, spindlelaw11_RelocBack.f k l0 a1 = some true
end Go.Proofs.Ytolhfcefpjfobaa.PR
