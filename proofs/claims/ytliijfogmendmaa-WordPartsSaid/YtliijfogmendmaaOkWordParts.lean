-- Printed by this session's own program (wip/tools/myprint.py) over the kit's print; the parts that are marked 'by hand' are this session's.
import Derived.Test.YtliijfogmendmaaPWx7
import Derived.Test.YtliijfogmendmaaOpen
import Derived.KernelRfl
namespace Go.Proofs.Ytliijfogmendmaa.PW
open Go.RowKit Go.Proofs.YtliijfogmendmaaW.PrintWords Go.Proofs.YtliijfogmendmaaW.PrintLast Go.Proofs.YtliijfogmendmaaW.Open
set_option linter.unusedVariables false
def okT26 (v : S26) : Prop := (Lit.int .u64 v.f0).wf = true ∧ (Lit.int .u64 v.f1).wf = true ∧ (Lit.int .u64 v.f2).wf = true ∧ (Lit.int .i64 v.f3).wf = true
theorem opnT26 : Opn Try.prog 26 k26 okT26 :=
  opn_weaken (opn_struct (ts := [24, 24, 24, 3]) (fun x : S26 => (x.f0, x.f1, x.f2, x.f3)) (fun p => ⟨p.1, p.2.1, p.2.2.1, p.2.2.2⟩) (fun _ => rfl) Try.underlying26 (by kernel_rfl) (by kernel_rfl) (by kernel_rfl)
    (fields_cons (opn_int Try.underlying24) (fields_cons (opn_int Try.underlying24) (fields_cons (opn_int Try.underlying24) (fields_one (opn_int Try.underlying3)))))) (fun _ h => h)
/-- The one pure statement of spindlelaw1_WordParts. -/
def spindlelaw1_WordParts.Pure : Prop := ∀ (l0 : List (S26)), ((∀ v ∈ l0, okT26 v) ∧ l0.length * 32 ≤ reachBytes) → ∃ k, spindlelaw1_WordParts.f k l0 = some true
end Go.Proofs.Ytliijfogmendmaa.PW
