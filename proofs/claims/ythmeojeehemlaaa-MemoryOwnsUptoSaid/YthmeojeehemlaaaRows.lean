/-
  No cell of these rows narrows 'for every input' (looked for: loops, veiled, ifaces, maps, wideKeys, modest, calm, conditions, laid).
  DERIVED. THE GIVEN ROWS OF THIS SEAT. 4 by the template 'for every input the law returns true; each argument reads behind the call as it read before'; 0 by the template 'total and deterministic' (their statements: YthmeojeehemlaaaTotals.lean).
  GIVEN WITH THE SEED: the statements are not yours to turn. If you find one false, say at which input.
  Laid BY PROGRAM, IN A SANDBOX (cutbox-rows.mjs): the forced cells as the released guide's own fill.sh prints them over the translation 89e4dd4177dc54be… (all of the seat's roots in one cut). By AI agents, Wed Nov 11 2026. No macro, syntax, notation, axiom, sorry.
-/
import Derived.Test.YthmeojeehemlaaaChecked
import GoSem.Claim
import GoSem.ClaimJoined
import GoSem.ClaimMapViews
import Derived.JoinedTies
import Derived.KernelRfl
namespace Go.Proofs.Ythmeojeehemlaaa
/- THE CELL 'sum', in the pinned program and in every row, IS THE sha256 OF THE DUMP (.gsa) THAT YthmeojeehemlaaaProg.lean LOADS. Nothing in Lean hashes anything: it is a label: what it is worth is what the hold of that sum in a sandbox is worth. -/
noncomputable def Try.pinned : Pinned := { name := "ythmeojeehemlaaa", sum := "89e4dd4177dc54bee1fc8d7c29820d0ead076cb09bed1a3ff6fc4e930d76c4f8", checked := Try.checked }
namespace Rows
def none {H : Type} : Left H := { results := [], args := [] }

/-- 'spindlelaw20.MemoryStored': WHATEVER THE INPUT: true; the input reads as it did. -/
def memoryStoredSpec : ChangeSpec := { name := "memoryStored", fn := fun _ => fun
  | [d1, d2, d3, d4] => { results := [.lit (.bool true)], args := [d1, d2, d3, d4] }
  | _ => none }
def memoryStoredRow : OpenClaim := { program := "ythmeojeehemlaaa", sum := "89e4dd4177dc54bee1fc8d7c29820d0ead076cb09bed1a3ff6fc4e930d76c4f8", func := "spindle/spindlelaw20.MemoryStored", spec := "memoryStored", inPlace := ["slices.overlaps[*spindle/memory.region]"], unfollowed := true, recurses := true, apart := false }
def MemoryStoredSaid : Prop := memoryStoredRow.holds Try.pinned (OpenSpec.ofChange memoryStoredSpec)

/-- ITS FALSE NEIGHBOUR: 'it returns false'. Refute it at one input. -/
def memoryStoredWrong : ChangeSpec := { name := "memoryStored", fn := fun _ => fun
  | [d1, d2, d3, d4] => { results := [.lit (.bool false)], args := [d1, d2, d3, d4] }
  | _ => none }
def MemoryStoredWrongFalsely : Prop := memoryStoredRow.holds Try.pinned (OpenSpec.ofChange memoryStoredWrong)

/-- 'spindlelaw20.MemoryAll': WHATEVER THE INPUT: true; the input reads as it did. -/
def memoryAllSpec : ChangeSpec := { name := "memoryAll", fn := fun _ => fun
  | [d1, d2, d3] => { results := [.lit (.bool true)], args := [d1, d2, d3] }
  | _ => none }
def memoryAllRow : OpenClaim := { program := "ythmeojeehemlaaa", sum := "89e4dd4177dc54bee1fc8d7c29820d0ead076cb09bed1a3ff6fc4e930d76c4f8", func := "spindle/spindlelaw20.MemoryAll", spec := "memoryAll", inPlace := ["slices.overlaps[*spindle/memory.region]"], unfollowed := true, recurses := true, apart := false }
def MemoryAllSaid : Prop := memoryAllRow.holds Try.pinned (OpenSpec.ofChange memoryAllSpec)

/-- ITS FALSE NEIGHBOUR: 'it returns false'. Refute it at one input. -/
def memoryAllWrong : ChangeSpec := { name := "memoryAll", fn := fun _ => fun
  | [d1, d2, d3] => { results := [.lit (.bool false)], args := [d1, d2, d3] }
  | _ => none }
def MemoryAllWrongFalsely : Prop := memoryAllRow.holds Try.pinned (OpenSpec.ofChange memoryAllWrong)

/-- 'spindlelaw20.MemoryOpens': WHATEVER THE INPUT: true; the input reads as it did. -/
def memoryOpensSpec : ChangeSpec := { name := "memoryOpens", fn := fun _ => fun
  | [d] => { results := [.lit (.bool true)], args := [d] }
  | _ => none }
def memoryOpensRow : OpenClaim := { program := "ythmeojeehemlaaa", sum := "89e4dd4177dc54bee1fc8d7c29820d0ead076cb09bed1a3ff6fc4e930d76c4f8", func := "spindle/spindlelaw20.MemoryOpens", spec := "memoryOpens", inPlace := ["slices.overlaps[*spindle/memory.region]"], unfollowed := true, recurses := true, apart := false }
def MemoryOpensSaid : Prop := memoryOpensRow.holds Try.pinned (OpenSpec.ofChange memoryOpensSpec)

/-- ITS FALSE NEIGHBOUR: 'it returns false'. Refute it at one input. -/
def memoryOpensWrong : ChangeSpec := { name := "memoryOpens", fn := fun _ => fun
  | [d] => { results := [.lit (.bool false)], args := [d] }
  | _ => none }
def MemoryOpensWrongFalsely : Prop := memoryOpensRow.holds Try.pinned (OpenSpec.ofChange memoryOpensWrong)

/-- 'spindlelaw20.MemoryOwns': WHATEVER THE INPUT: true; the input reads as it did. -/
def memoryOwnsSpec : ChangeSpec := { name := "memoryOwns", fn := fun _ => fun
  | [d1, d2] => { results := [.lit (.bool true)], args := [d1, d2] }
  | _ => none }
def memoryOwnsRow : OpenClaim := { program := "ythmeojeehemlaaa", sum := "89e4dd4177dc54bee1fc8d7c29820d0ead076cb09bed1a3ff6fc4e930d76c4f8", func := "spindle/spindlelaw20.MemoryOwns", spec := "memoryOwns", inPlace := ["slices.overlaps[*spindle/memory.region]"], unfollowed := true, recurses := true, apart := false }
def MemoryOwnsSaid : Prop := memoryOwnsRow.holds Try.pinned (OpenSpec.ofChange memoryOwnsSpec)

/-- ITS FALSE NEIGHBOUR: 'it returns false'. Refute it at one input. -/
def memoryOwnsWrong : ChangeSpec := { name := "memoryOwns", fn := fun _ => fun
  | [d1, d2] => { results := [.lit (.bool false)], args := [d1, d2] }
  | _ => none }
def MemoryOwnsWrongFalsely : Prop := memoryOwnsRow.holds Try.pinned (OpenSpec.ofChange memoryOwnsWrong)

/- THE SECOND FORM. 'bulk': how many values and letters a reading holds, each counted each time it is reached (what is shared counts as often as it is met; a slice's spare places count too). A statement '..UptoSaid' is the law's where the arguments, and the package variables that the reading takes, are together of bulk at most 1048576: NARROWER than '..Said'. Prove '..Said' where nothing that the law and all that it calls make is longer than what came in: it says more and counts as full. Else prove '..UptoSaid'. A law counts once. -/
mutual
def uptoBulk {H : Type} : DataW H → Nat
  | .lit (.string bytes) => bytes.length + 1
  | .lit _ => 1
  | .nil => 1
  | .ptr d => uptoBulk d + 1
  | .slice elems spare => uptoBulkAll elems + uptoBulkAll spare + 1
  | .agg parts => uptoBulkAll parts + 1
  | .iface _ d => uptoBulk d + 1
  | .map entries => uptoBulkEntries entries + 1
  | .held _ => 1
def uptoBulkAll {H : Type} : List (DataW H) → Nat
  | [] => 0
  | d :: r => uptoBulk d + uptoBulkAll r
def uptoBulkEntries {H : Type} : List (Lit × DataW H) → Nat
  | [] => 0
  | x :: r => uptoBulkEntry x + uptoBulkEntries r
def uptoBulkEntry {H : Type} : Lit × DataW H → Nat
  | (.string bytes, d) => bytes.length + uptoBulk d + 1
  | (_, d) => uptoBulk d + 1
 end
def uptoSmall : (H : Type) → List (DataW H) → Bool := fun _ ds => decide (uptoBulkAll ds ≤ 1048576)
def OpenSpec.upto (s : _root_.Go.ChangeSpec) : _root_.Go.OpenSpec := { _root_.Go.OpenSpec.ofChange s with cond := some uptoSmall }

/-- 'spindlelaw20.MemoryStored', WHERE WHAT IT READS IS OF BULK AT MOST 1048576: true; the input reads as it did. -/
def memoryStoredUptoRow : OpenClaim := { program := "ythmeojeehemlaaa", sum := "89e4dd4177dc54bee1fc8d7c29820d0ead076cb09bed1a3ff6fc4e930d76c4f8", func := "spindle/spindlelaw20.MemoryStored", spec := "memoryStored", inPlace := ["slices.overlaps[*spindle/memory.region]"], unfollowed := true, recurses := true, apart := false, narrowed := true }
def MemoryStoredUptoSaid : Prop := memoryStoredUptoRow.holds Try.pinned (OpenSpec.upto memoryStoredSpec)

/-- 'spindlelaw20.MemoryAll', WHERE WHAT IT READS IS OF BULK AT MOST 1048576: true; the input reads as it did. -/
def memoryAllUptoRow : OpenClaim := { program := "ythmeojeehemlaaa", sum := "89e4dd4177dc54bee1fc8d7c29820d0ead076cb09bed1a3ff6fc4e930d76c4f8", func := "spindle/spindlelaw20.MemoryAll", spec := "memoryAll", inPlace := ["slices.overlaps[*spindle/memory.region]"], unfollowed := true, recurses := true, apart := false, narrowed := true }
def MemoryAllUptoSaid : Prop := memoryAllUptoRow.holds Try.pinned (OpenSpec.upto memoryAllSpec)

/-- 'spindlelaw20.MemoryOpens', WHERE WHAT IT READS IS OF BULK AT MOST 1048576: true; the input reads as it did. -/
def memoryOpensUptoRow : OpenClaim := { program := "ythmeojeehemlaaa", sum := "89e4dd4177dc54bee1fc8d7c29820d0ead076cb09bed1a3ff6fc4e930d76c4f8", func := "spindle/spindlelaw20.MemoryOpens", spec := "memoryOpens", inPlace := ["slices.overlaps[*spindle/memory.region]"], unfollowed := true, recurses := true, apart := false, narrowed := true }
def MemoryOpensUptoSaid : Prop := memoryOpensUptoRow.holds Try.pinned (OpenSpec.upto memoryOpensSpec)

/-- 'spindlelaw20.MemoryOwns', WHERE WHAT IT READS IS OF BULK AT MOST 1048576: true; the input reads as it did. -/
def memoryOwnsUptoRow : OpenClaim := { program := "ythmeojeehemlaaa", sum := "89e4dd4177dc54bee1fc8d7c29820d0ead076cb09bed1a3ff6fc4e930d76c4f8", func := "spindle/spindlelaw20.MemoryOwns", spec := "memoryOwns", inPlace := ["slices.overlaps[*spindle/memory.region]"], unfollowed := true, recurses := true, apart := false, narrowed := true }
def MemoryOwnsUptoSaid : Prop := memoryOwnsUptoRow.holds Try.pinned (OpenSpec.upto memoryOwnsSpec)

end Rows
end Go.Proofs.Ythmeojeehemlaaa
