/- Every error, limit, address and kind of the program is the document's: the closed statement over them answers true. No condition. -/
import Derived.Test.YtlodcfcpjcnlbaaPSpindleNamesx3
namespace Go.Proofs.Ytlodcfcpjcnlbaa.Pure
open Go.RowKit Go.Proofs.Ytlodcfcpjcnlbaa.PSpindleNames Go.Proofs.YtlodcfcpjcnlbaaW.PrintWords Go.Proofs.YtlodcfcpjcnlbaaW.PrintLast

theorem SpindleNames : spindlelaw0_SpindleNames.Pure := by
  unfold spindlelaw0_SpindleNames.Pure
  decide +kernel

end Go.Proofs.Ytlodcfcpjcnlbaa.Pure
