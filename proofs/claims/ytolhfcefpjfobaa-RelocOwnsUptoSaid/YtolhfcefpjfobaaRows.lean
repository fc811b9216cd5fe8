/-
  No cell of these rows narrows 'for every input' (looked for: loops, veiled, ifaces, maps, wideKeys, modest, calm, conditions, laid).
  DERIVED. THE GIVEN ROWS OF THIS SEAT. 5 by the template 'for every input the law returns true; each argument reads behind the call as it read before'; 0 by the template 'total and deterministic' (their statements: YtolhfcefpjfobaaTotals.lean).
  GIVEN WITH THE SEED: the statements are not yours to turn. If you find one false, say at which input.
  Laid BY PROGRAM, IN A SANDBOX (cutbox-rows.mjs): the forced cells as the released guide's own fill.sh prints them over the translation 349d0046f7f3d300… (all of the seat's roots in one cut). By AI agents, Wed Nov 11 2026. No macro, syntax, notation, axiom, sorry.
-/
import Derived.Test.YtolhfcefpjfobaaChecked
import GoSem.Claim
import GoSem.ClaimJoined
import GoSem.ClaimMapViews
import Derived.JoinedTies
import Derived.KernelRfl
namespace Go.Proofs.Ytolhfcefpjfobaa
/- THE CELL 'sum', in the pinned program and in every row, IS THE sha256 OF THE DUMP (.gsa) THAT YtolhfcefpjfobaaProg.lean LOADS. Nothing in Lean hashes anything: it is a label: what it is worth is what the hold of that sum in a sandbox is worth. -/
noncomputable def Try.pinned : Pinned := { name := "ytolhfcefpjfobaa", sum := "349d0046f7f3d300f977dd63b3c4c9a4ee06647d79a1f8605edc613dee7d0a58", checked := Try.checked }
namespace Rows
def none {H : Type} : Left H := { results := [], args := [] }

/-- 'spindlelaw11.RelocWrites': WHATEVER THE INPUT: true; the input reads as it did. -/
def relocWritesSpec : ChangeSpec := { name := "relocWrites", fn := fun _ => fun
  | [d] => { results := [.lit (.bool true)], args := [d] }
  | _ => none }
def relocWritesRow : OpenClaim := { program := "ytolhfcefpjfobaa", sum := "349d0046f7f3d300f977dd63b3c4c9a4ee06647d79a1f8605edc613dee7d0a58", func := "spindle/spindlelaw11.RelocWrites", spec := "relocWrites", apart := false }
def RelocWritesSaid : Prop := relocWritesRow.holds Try.pinned (OpenSpec.ofChange relocWritesSpec)

/-- ITS FALSE NEIGHBOUR: 'it returns false'. Refute it at one input. -/
def relocWritesWrong : ChangeSpec := { name := "relocWrites", fn := fun _ => fun
  | [d] => { results := [.lit (.bool false)], args := [d] }
  | _ => none }
def RelocWritesWrongFalsely : Prop := relocWritesRow.holds Try.pinned (OpenSpec.ofChange relocWritesWrong)

/-- 'spindlelaw11.RelocReads': WHATEVER THE INPUT: true; the input reads as it did. -/
def relocReadsSpec : ChangeSpec := { name := "relocReads", fn := fun _ => fun
  | [d] => { results := [.lit (.bool true)], args := [d] }
  | _ => none }
def relocReadsRow : OpenClaim := { program := "ytolhfcefpjfobaa", sum := "349d0046f7f3d300f977dd63b3c4c9a4ee06647d79a1f8605edc613dee7d0a58", func := "spindle/spindlelaw11.RelocReads", spec := "relocReads", apart := false }
def RelocReadsSaid : Prop := relocReadsRow.holds Try.pinned (OpenSpec.ofChange relocReadsSpec)

/-- ITS FALSE NEIGHBOUR: 'it returns false'. Refute it at one input. -/
def relocReadsWrong : ChangeSpec := { name := "relocReads", fn := fun _ => fun
  | [d] => { results := [.lit (.bool false)], args := [d] }
  | _ => none }
def RelocReadsWrongFalsely : Prop := relocReadsRow.holds Try.pinned (OpenSpec.ofChange relocReadsWrong)

/-- 'spindlelaw11.RelocOwns': WHATEVER THE INPUT: true; the input reads as it did. -/
def relocOwnsSpec : ChangeSpec := { name := "relocOwns", fn := fun _ => fun
  | [d1, d2] => { results := [.lit (.bool true)], args := [d1, d2] }
  | _ => none }
def relocOwnsRow : OpenClaim := { program := "ytolhfcefpjfobaa", sum := "349d0046f7f3d300f977dd63b3c4c9a4ee06647d79a1f8605edc613dee7d0a58", func := "spindle/spindlelaw11.RelocOwns", spec := "relocOwns", apart := false }
def RelocOwnsSaid : Prop := relocOwnsRow.holds Try.pinned (OpenSpec.ofChange relocOwnsSpec)

/-- ITS FALSE NEIGHBOUR: 'it returns false'. Refute it at one input. -/
def relocOwnsWrong : ChangeSpec := { name := "relocOwns", fn := fun _ => fun
  | [d1, d2] => { results := [.lit (.bool false)], args := [d1, d2] }
  | _ => none }
def RelocOwnsWrongFalsely : Prop := relocOwnsRow.holds Try.pinned (OpenSpec.ofChange relocOwnsWrong)

/-- 'spindlelaw11.RelocBack': WHATEVER THE INPUT: true; the input reads as it did. -/
def relocBackSpec : ChangeSpec := { name := "relocBack", fn := fun _ => fun
  | [d1, d2] => { results := [.lit (.bool true)], args := [d1, d2] }
  | _ => none }
def relocBackRow : OpenClaim := { program := "ytolhfcefpjfobaa", sum := "349d0046f7f3d300f977dd63b3c4c9a4ee06647d79a1f8605edc613dee7d0a58", func := "spindle/spindlelaw11.RelocBack", spec := "relocBack", apart := false }
def RelocBackSaid : Prop := relocBackRow.holds Try.pinned (OpenSpec.ofChange relocBackSpec)

/-- ITS FALSE NEIGHBOUR: 'it returns false'. Refute it at one input. -/
def relocBackWrong : ChangeSpec := { name := "relocBack", fn := fun _ => fun
  | [d1, d2] => { results := [.lit (.bool false)], args := [d1, d2] }
  | _ => none }
def RelocBackWrongFalsely : Prop := relocBackRow.holds Try.pinned (OpenSpec.ofChange relocBackWrong)

/-- 'spindlelaw11.RelocBytes': WHATEVER THE INPUT: true; the input reads as it did. -/
def relocBytesSpec : ChangeSpec := { name := "relocBytes", fn := fun _ => fun
  | [d] => { results := [.lit (.bool true)], args := [d] }
  | _ => none }
def relocBytesRow : OpenClaim := { program := "ytolhfcefpjfobaa", sum := "349d0046f7f3d300f977dd63b3c4c9a4ee06647d79a1f8605edc613dee7d0a58", func := "spindle/spindlelaw11.RelocBytes", spec := "relocBytes", apart := false }
def RelocBytesSaid : Prop := relocBytesRow.holds Try.pinned (OpenSpec.ofChange relocBytesSpec)

/-- ITS FALSE NEIGHBOUR: 'it returns false'. Refute it at one input. -/
def relocBytesWrong : ChangeSpec := { name := "relocBytes", fn := fun _ => fun
  | [d] => { results := [.lit (.bool false)], args := [d] }
  | _ => none }
def RelocBytesWrongFalsely : Prop := relocBytesRow.holds Try.pinned (OpenSpec.ofChange relocBytesWrong)

/- THE SECOND FORM. 'bulk': how many values and letters a reading holds, each counted each time it is reached (what is shared counts as often as it is met; a slice's spare places count too). A statement '..UptoSaid' is the law's where the arguments, and the package variables that the reading takes, are together of bulk at most 1048576: NARROWER than '..Said'. Prove '..Said' where nothing that the law and all that it calls make is longer than what came in: it says more and counts as full. Else prove '..UptoSaid'. A law counts once. -/
mutual
def uptoBulk {H : Type} : DataW H → Nat
  | .lit (.string bytes) => bytes.length + 1
  | .lit _ => 1
  | .nil => 1
  | .ptr d => uptoBulk d + 1
  | .slice elems spare => uptoBulkAll elems + uptoBulkAll spare + 1
  | .agg parts => uptoBulkAll parts + 1
  | .iface _ d => uptoBulk d + 1
  | .map entries => uptoBulkEntries entries + 1
  | .held _ => 1
def uptoBulkAll {H : Type} : List (DataW H) → Nat
  | [] => 0
  | d :: r => uptoBulk d + uptoBulkAll r
def uptoBulkEntries {H : Type} : List (Lit × DataW H) → Nat
  | [] => 0
  | x :: r => uptoBulkEntry x + uptoBulkEntries r
def uptoBulkEntry {H : Type} : Lit × DataW H → Nat
  | (.string bytes, d) => bytes.length + uptoBulk d + 1
  | (_, d) => uptoBulk d + 1
 end
def uptoSmall : (H : Type) → List (DataW H) → Bool := fun _ ds => decide (uptoBulkAll ds ≤ 1048576)
def OpenSpec.upto (s : _root_.Go.ChangeSpec) : _root_.Go.OpenSpec := { _root_.Go.OpenSpec.ofChange s with cond := some uptoSmall }

/-- 'spindlelaw11.RelocWrites', WHERE WHAT IT READS IS OF BULK AT MOST 1048576: true; the input reads as it did. -/
def relocWritesUptoRow : OpenClaim := { program := "ytolhfcefpjfobaa", sum := "349d0046f7f3d300f977dd63b3c4c9a4ee06647d79a1f8605edc613dee7d0a58", func := "spindle/spindlelaw11.RelocWrites", spec := "relocWrites", apart := false, narrowed := true }
def RelocWritesUptoSaid : Prop := relocWritesUptoRow.holds Try.pinned (OpenSpec.upto relocWritesSpec)

/-- 'spindlelaw11.RelocReads', WHERE WHAT IT READS IS OF BULK AT MOST 1048576: true; the input reads as it did. -/
def relocReadsUptoRow : OpenClaim := { program := "ytolhfcefpjfobaa", sum := "349d0046f7f3d300f977dd63b3c4c9a4ee06647d79a1f8605edc613dee7d0a58", func := "spindle/spindlelaw11.RelocReads", spec := "relocReads", apart := false, narrowed := true }
def RelocReadsUptoSaid : Prop := relocReadsUptoRow.holds Try.pinned (OpenSpec.upto relocReadsSpec)

/-- 'spindlelaw11.RelocOwns', WHERE WHAT IT READS IS OF BULK AT MOST 1048576: true; the input reads as it did. -/
def relocOwnsUptoRow : OpenClaim := { program := "ytolhfcefpjfobaa", sum := "349d0046f7f3d300f977dd63b3c4c9a4ee06647d79a1f8605edc613dee7d0a58", func := "spindle/spindlelaw11.RelocOwns", spec := "relocOwns", apart := false, narrowed := true }
def RelocOwnsUptoSaid : Prop := relocOwnsUptoRow.holds Try.pinned (OpenSpec.upto relocOwnsSpec)

/-- 'spindlelaw11.RelocBack', WHERE WHAT IT READS IS OF BULK AT MOST 1048576: true; the input reads as it did. -/
def relocBackUptoRow : OpenClaim := { program := "ytolhfcefpjfobaa", sum := "349d0046f7f3d300f977dd63b3c4c9a4ee06647d79a1f8605edc613dee7d0a58", func := "spindle/spindlelaw11.RelocBack", spec := "relocBack", apart := false, narrowed := true }
def RelocBackUptoSaid : Prop := relocBackUptoRow.holds Try.pinned (OpenSpec.upto relocBackSpec)

/-- 'spindlelaw11.RelocBytes', WHERE WHAT IT READS IS OF BULK AT MOST 1048576: true; the input reads as it did. -/
def relocBytesUptoRow : OpenClaim := { program := "ytolhfcefpjfobaa", sum := "349d0046f7f3d300f977dd63b3c4c9a4ee06647d79a1f8605edc613dee7d0a58", func := "spindle/spindlelaw11.RelocBytes", spec := "relocBytes", apart := false, narrowed := true }
def RelocBytesUptoSaid : Prop := relocBytesUptoRow.holds Try.pinned (OpenSpec.upto relocBytesSpec)

end Rows
end Go.Proofs.Ytolhfcefpjfobaa
