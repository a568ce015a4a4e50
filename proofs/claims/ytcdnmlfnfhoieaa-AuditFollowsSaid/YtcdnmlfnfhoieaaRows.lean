/-
  No cell of these rows narrows 'for every input' (looked for: loops, veiled, ifaces, maps, wideKeys, modest, calm, conditions, laid).
  DERIVED. THE GIVEN ROWS OF THIS SEAT. 13 by the template 'for every input the law returns true; each argument reads behind the call as it read before'; 0 by the template 'total and deterministic' (their statements: YtcdnmlfnfhoieaaTotals.lean).
  GIVEN WITH THE SEED: the statements are not yours to turn. If you find one false, say at which input.
  Laid BY PROGRAM, IN A SANDBOX (cutbox-rows.mjs): the forced cells as the released guide's own fill.sh prints them over the translation 9d59e9c9526ddd2f… (all of the seat's roots in one cut). By AI agents, Wed Nov 11 2026. No macro, syntax, notation, axiom, sorry.
-/
import Derived.Test.YtcdnmlfnfhoieaaChecked
import GoSem.Claim
import GoSem.ClaimJoined
import GoSem.ClaimMapViews
import Derived.JoinedTies
import Derived.KernelRfl
namespace Go.Proofs.Ytcdnmlfnfhoieaa
/- THE CELL 'sum', in the pinned program and in every row, IS THE sha256 OF THE DUMP (.gsa) THAT YtcdnmlfnfhoieaaProg.lean LOADS. Nothing in Lean hashes anything: it is a label: what it is worth is what the hold of that sum in a sandbox is worth. -/
noncomputable def Try.pinned : Pinned := { name := "ytcdnmlfnfhoieaa", sum := "9d59e9c9526ddd2fd5b41bcf9de689b7f03e4b33b50e15403a57ac5fab00da96", checked := Try.checked }
namespace Rows
def none {H : Type} : Left H := { results := [], args := [] }

/-- 'strongroomlaw11.DeltaCodes': WHATEVER THE INPUT: true; the input reads as it did. -/
def deltaCodesSpec : ChangeSpec := { name := "deltaCodes", fn := fun _ => fun
  | [d1, d2] => { results := [.lit (.bool true)], args := [d1, d2] }
  | _ => none }
def deltaCodesRow : OpenClaim := { program := "ytcdnmlfnfhoieaa", sum := "9d59e9c9526ddd2fd5b41bcf9de689b7f03e4b33b50e15403a57ac5fab00da96", func := "strongroom/strongroomlaw11.DeltaCodes", spec := "deltaCodes", inPlace := ["math/bits.Add64"], recurses := true, apart := false }
def DeltaCodesSaid : Prop := deltaCodesRow.holds Try.pinned (OpenSpec.ofChange deltaCodesSpec)

/-- ITS FALSE NEIGHBOUR: 'it returns false'. Refute it at one input. -/
def deltaCodesWrong : ChangeSpec := { name := "deltaCodes", fn := fun _ => fun
  | [d1, d2] => { results := [.lit (.bool false)], args := [d1, d2] }
  | _ => none }
def DeltaCodesWrongFalsely : Prop := deltaCodesRow.holds Try.pinned (OpenSpec.ofChange deltaCodesWrong)

/-- 'strongroomlaw11.DeltaOnce': WHATEVER THE INPUT: true; the input reads as it did. -/
def deltaOnceSpec : ChangeSpec := { name := "deltaOnce", fn := fun _ => fun
  | [d1, d2] => { results := [.lit (.bool true)], args := [d1, d2] }
  | _ => none }
def deltaOnceRow : OpenClaim := { program := "ytcdnmlfnfhoieaa", sum := "9d59e9c9526ddd2fd5b41bcf9de689b7f03e4b33b50e15403a57ac5fab00da96", func := "strongroom/strongroomlaw11.DeltaOnce", spec := "deltaOnce", inPlace := ["math/bits.Add64"], apart := false }
def DeltaOnceSaid : Prop := deltaOnceRow.holds Try.pinned (OpenSpec.ofChange deltaOnceSpec)

/-- ITS FALSE NEIGHBOUR: 'it returns false'. Refute it at one input. -/
def deltaOnceWrong : ChangeSpec := { name := "deltaOnce", fn := fun _ => fun
  | [d1, d2] => { results := [.lit (.bool false)], args := [d1, d2] }
  | _ => none }
def DeltaOnceWrongFalsely : Prop := deltaOnceRow.holds Try.pinned (OpenSpec.ofChange deltaOnceWrong)

/-- 'strongroomlaw02.ShaWhole': WHATEVER THE INPUT: true; the input reads as it did. -/
def shaWholeSpec : ChangeSpec := { name := "shaWhole", fn := fun _ => fun
  | [d] => { results := [.lit (.bool true)], args := [d] }
  | _ => none }
def shaWholeRow : OpenClaim := { program := "ytcdnmlfnfhoieaa", sum := "9d59e9c9526ddd2fd5b41bcf9de689b7f03e4b33b50e15403a57ac5fab00da96", func := "strongroom/strongroomlaw02.ShaWhole", spec := "shaWhole", inPlace := ["math/bits.Add64"], apart := false }
def ShaWholeSaid : Prop := shaWholeRow.holds Try.pinned (OpenSpec.ofChange shaWholeSpec)

/-- ITS FALSE NEIGHBOUR: 'it returns false'. Refute it at one input. -/
def shaWholeWrong : ChangeSpec := { name := "shaWhole", fn := fun _ => fun
  | [d] => { results := [.lit (.bool false)], args := [d] }
  | _ => none }
def ShaWholeWrongFalsely : Prop := shaWholeRow.holds Try.pinned (OpenSpec.ofChange shaWholeWrong)

/-- 'strongroomlaw03.MacBegins': WHATEVER THE INPUT: true; the input reads as it did. -/
def macBeginsSpec : ChangeSpec := { name := "macBegins", fn := fun _ => fun
  | [d1, d2, d3] => { results := [.lit (.bool true)], args := [d1, d2, d3] }
  | _ => none }
def macBeginsRow : OpenClaim := { program := "ytcdnmlfnfhoieaa", sum := "9d59e9c9526ddd2fd5b41bcf9de689b7f03e4b33b50e15403a57ac5fab00da96", func := "strongroom/strongroomlaw03.MacBegins", spec := "macBegins", inPlace := ["math/bits.Add64"], apart := false }
def MacBeginsSaid : Prop := macBeginsRow.holds Try.pinned (OpenSpec.ofChange macBeginsSpec)

/-- ITS FALSE NEIGHBOUR: 'it returns false'. Refute it at one input. -/
def macBeginsWrong : ChangeSpec := { name := "macBegins", fn := fun _ => fun
  | [d1, d2, d3] => { results := [.lit (.bool false)], args := [d1, d2, d3] }
  | _ => none }
def MacBeginsWrongFalsely : Prop := macBeginsRow.holds Try.pinned (OpenSpec.ofChange macBeginsWrong)

/-- 'strongroomlaw13.AuditMays': WHATEVER THE INPUT: true; the input reads as it did. -/
def auditMaysSpec : ChangeSpec := { name := "auditMays", fn := fun _ => fun
  | [d] => { results := [.lit (.bool true)], args := [d] }
  | _ => none }
def auditMaysRow : OpenClaim := { program := "ytcdnmlfnfhoieaa", sum := "9d59e9c9526ddd2fd5b41bcf9de689b7f03e4b33b50e15403a57ac5fab00da96", func := "strongroom/strongroomlaw13.AuditMays", spec := "auditMays", inPlace := ["math/bits.Add64"], recurses := true, apart := false }
def AuditMaysSaid : Prop := auditMaysRow.holds Try.pinned (OpenSpec.ofChange auditMaysSpec)

/-- ITS FALSE NEIGHBOUR: 'it returns false'. Refute it at one input. -/
def auditMaysWrong : ChangeSpec := { name := "auditMays", fn := fun _ => fun
  | [d] => { results := [.lit (.bool false)], args := [d] }
  | _ => none }
def AuditMaysWrongFalsely : Prop := auditMaysRow.holds Try.pinned (OpenSpec.ofChange auditMaysWrong)

/-- 'strongroomlaw13.AuditAdds': WHATEVER THE INPUT: true; the input reads as it did. -/
def auditAddsSpec : ChangeSpec := { name := "auditAdds", fn := fun _ => fun
  | [d1, d2] => { results := [.lit (.bool true)], args := [d1, d2] }
  | _ => none }
def auditAddsRow : OpenClaim := { program := "ytcdnmlfnfhoieaa", sum := "9d59e9c9526ddd2fd5b41bcf9de689b7f03e4b33b50e15403a57ac5fab00da96", func := "strongroom/strongroomlaw13.AuditAdds", spec := "auditAdds", inPlace := ["math/bits.Add64"], recurses := true, apart := false }
def AuditAddsSaid : Prop := auditAddsRow.holds Try.pinned (OpenSpec.ofChange auditAddsSpec)

/-- ITS FALSE NEIGHBOUR: 'it returns false'. Refute it at one input. -/
def auditAddsWrong : ChangeSpec := { name := "auditAdds", fn := fun _ => fun
  | [d1, d2] => { results := [.lit (.bool false)], args := [d1, d2] }
  | _ => none }
def AuditAddsWrongFalsely : Prop := auditAddsRow.holds Try.pinned (OpenSpec.ofChange auditAddsWrong)

/-- 'strongroomlaw13.AuditPlays': WHATEVER THE INPUT: true; the input reads as it did. -/
def auditPlaysSpec : ChangeSpec := { name := "auditPlays", fn := fun _ => fun
  | [d] => { results := [.lit (.bool true)], args := [d] }
  | _ => none }
def auditPlaysRow : OpenClaim := { program := "ytcdnmlfnfhoieaa", sum := "9d59e9c9526ddd2fd5b41bcf9de689b7f03e4b33b50e15403a57ac5fab00da96", func := "strongroom/strongroomlaw13.AuditPlays", spec := "auditPlays", inPlace := ["math/bits.Add64"], recurses := true, apart := false }
def AuditPlaysSaid : Prop := auditPlaysRow.holds Try.pinned (OpenSpec.ofChange auditPlaysSpec)

/-- ITS FALSE NEIGHBOUR: 'it returns false'. Refute it at one input. -/
def auditPlaysWrong : ChangeSpec := { name := "auditPlays", fn := fun _ => fun
  | [d] => { results := [.lit (.bool false)], args := [d] }
  | _ => none }
def AuditPlaysWrongFalsely : Prop := auditPlaysRow.holds Try.pinned (OpenSpec.ofChange auditPlaysWrong)

/-- 'strongroomlaw13.AuditChains': WHATEVER THE INPUT: true; the input reads as it did. -/
def auditChainsSpec : ChangeSpec := { name := "auditChains", fn := fun _ => fun
  | [d1, d2] => { results := [.lit (.bool true)], args := [d1, d2] }
  | _ => none }
def auditChainsRow : OpenClaim := { program := "ytcdnmlfnfhoieaa", sum := "9d59e9c9526ddd2fd5b41bcf9de689b7f03e4b33b50e15403a57ac5fab00da96", func := "strongroom/strongroomlaw13.AuditChains", spec := "auditChains", inPlace := ["math/bits.Add64"], recurses := true, apart := false }
def AuditChainsSaid : Prop := auditChainsRow.holds Try.pinned (OpenSpec.ofChange auditChainsSpec)

/-- ITS FALSE NEIGHBOUR: 'it returns false'. Refute it at one input. -/
def auditChainsWrong : ChangeSpec := { name := "auditChains", fn := fun _ => fun
  | [d1, d2] => { results := [.lit (.bool false)], args := [d1, d2] }
  | _ => none }
def AuditChainsWrongFalsely : Prop := auditChainsRow.holds Try.pinned (OpenSpec.ofChange auditChainsWrong)

/-- 'strongroomlaw13.AuditFollows': WHATEVER THE INPUT: true; the input reads as it did. -/
def auditFollowsSpec : ChangeSpec := { name := "auditFollows", fn := fun _ => fun
  | [d1, d2] => { results := [.lit (.bool true)], args := [d1, d2] }
  | _ => none }
def auditFollowsRow : OpenClaim := { program := "ytcdnmlfnfhoieaa", sum := "9d59e9c9526ddd2fd5b41bcf9de689b7f03e4b33b50e15403a57ac5fab00da96", func := "strongroom/strongroomlaw13.AuditFollows", spec := "auditFollows", inPlace := ["math/bits.Add64"], recurses := true, apart := false }
def AuditFollowsSaid : Prop := auditFollowsRow.holds Try.pinned (OpenSpec.ofChange auditFollowsSpec)

/-- ITS FALSE NEIGHBOUR: 'it returns false'. Refute it at one input. -/
def auditFollowsWrong : ChangeSpec := { name := "auditFollows", fn := fun _ => fun
  | [d1, d2] => { results := [.lit (.bool false)], args := [d1, d2] }
  | _ => none }
def AuditFollowsWrongFalsely : Prop := auditFollowsRow.holds Try.pinned (OpenSpec.ofChange auditFollowsWrong)

/-- 'strongroomlaw11.DeltaSame': WHATEVER THE INPUT: true; the input reads as it did. -/
def deltaSameSpec : ChangeSpec := { name := "deltaSame", fn := fun _ => fun
  | [d1, d2, d3] => { results := [.lit (.bool true)], args := [d1, d2, d3] }
  | _ => none }
def deltaSameRow : OpenClaim := { program := "ytcdnmlfnfhoieaa", sum := "9d59e9c9526ddd2fd5b41bcf9de689b7f03e4b33b50e15403a57ac5fab00da96", func := "strongroom/strongroomlaw11.DeltaSame", spec := "deltaSame", inPlace := ["math/bits.Add64"], apart := false }
def DeltaSameSaid : Prop := deltaSameRow.holds Try.pinned (OpenSpec.ofChange deltaSameSpec)

/-- ITS FALSE NEIGHBOUR: 'it returns false'. Refute it at one input. -/
def deltaSameWrong : ChangeSpec := { name := "deltaSame", fn := fun _ => fun
  | [d1, d2, d3] => { results := [.lit (.bool false)], args := [d1, d2, d3] }
  | _ => none }
def DeltaSameWrongFalsely : Prop := deltaSameRow.holds Try.pinned (OpenSpec.ofChange deltaSameWrong)

/-- 'strongroomlaw13.AuditCodes': WHATEVER THE INPUT: true; the input reads as it did. -/
def auditCodesSpec : ChangeSpec := { name := "auditCodes", fn := fun _ => fun
  | [d1, d2] => { results := [.lit (.bool true)], args := [d1, d2] }
  | _ => none }
def auditCodesRow : OpenClaim := { program := "ytcdnmlfnfhoieaa", sum := "9d59e9c9526ddd2fd5b41bcf9de689b7f03e4b33b50e15403a57ac5fab00da96", func := "strongroom/strongroomlaw13.AuditCodes", spec := "auditCodes", inPlace := ["math/bits.Add64"], recurses := true, apart := false }
def AuditCodesSaid : Prop := auditCodesRow.holds Try.pinned (OpenSpec.ofChange auditCodesSpec)

/-- ITS FALSE NEIGHBOUR: 'it returns false'. Refute it at one input. -/
def auditCodesWrong : ChangeSpec := { name := "auditCodes", fn := fun _ => fun
  | [d1, d2] => { results := [.lit (.bool false)], args := [d1, d2] }
  | _ => none }
def AuditCodesWrongFalsely : Prop := auditCodesRow.holds Try.pinned (OpenSpec.ofChange auditCodesWrong)

/-- 'strongroomlaw11.DeltaPatches': WHATEVER THE INPUT: true; the input reads as it did. -/
def deltaPatchesSpec : ChangeSpec := { name := "deltaPatches", fn := fun _ => fun
  | [d1, d2, d3] => { results := [.lit (.bool true)], args := [d1, d2, d3] }
  | _ => none }
def deltaPatchesRow : OpenClaim := { program := "ytcdnmlfnfhoieaa", sum := "9d59e9c9526ddd2fd5b41bcf9de689b7f03e4b33b50e15403a57ac5fab00da96", func := "strongroom/strongroomlaw11.DeltaPatches", spec := "deltaPatches", inPlace := ["math/bits.Add64"], apart := false }
def DeltaPatchesSaid : Prop := deltaPatchesRow.holds Try.pinned (OpenSpec.ofChange deltaPatchesSpec)

/-- ITS FALSE NEIGHBOUR: 'it returns false'. Refute it at one input. -/
def deltaPatchesWrong : ChangeSpec := { name := "deltaPatches", fn := fun _ => fun
  | [d1, d2, d3] => { results := [.lit (.bool false)], args := [d1, d2, d3] }
  | _ => none }
def DeltaPatchesWrongFalsely : Prop := deltaPatchesRow.holds Try.pinned (OpenSpec.ofChange deltaPatchesWrong)

/-- 'strongroomlaw11.DeltaBack': WHATEVER THE INPUT: true; the input reads as it did. -/
def deltaBackSpec : ChangeSpec := { name := "deltaBack", fn := fun _ => fun
  | [d1, d2, d3] => { results := [.lit (.bool true)], args := [d1, d2, d3] }
  | _ => none }
def deltaBackRow : OpenClaim := { program := "ytcdnmlfnfhoieaa", sum := "9d59e9c9526ddd2fd5b41bcf9de689b7f03e4b33b50e15403a57ac5fab00da96", func := "strongroom/strongroomlaw11.DeltaBack", spec := "deltaBack", inPlace := ["math/bits.Add64"], apart := false }
def DeltaBackSaid : Prop := deltaBackRow.holds Try.pinned (OpenSpec.ofChange deltaBackSpec)

/-- ITS FALSE NEIGHBOUR: 'it returns false'. Refute it at one input. -/
def deltaBackWrong : ChangeSpec := { name := "deltaBack", fn := fun _ => fun
  | [d1, d2, d3] => { results := [.lit (.bool false)], args := [d1, d2, d3] }
  | _ => none }
def DeltaBackWrongFalsely : Prop := deltaBackRow.holds Try.pinned (OpenSpec.ofChange deltaBackWrong)

/- THE SECOND FORM. 'bulk': how many values and letters a reading holds, each counted each time it is reached (what is shared counts as often as it is met; a slice's spare places count too). A statement '..UptoSaid' is the law's where the arguments, and the package variables that the reading takes, are together of bulk at most 1048576: NARROWER than '..Said'. Prove '..Said' where nothing that the law and all that it calls make is longer than what came in: it says more and counts as full. Else prove '..UptoSaid'. A law counts once. -/
mutual
def uptoBulk {H : Type} : DataW H → Nat
  | .lit (.string bytes) => bytes.length + 1
  | .lit _ => 1
  | .nil => 1
  | .ptr d => uptoBulk d + 1
  | .slice elems spare => uptoBulkAll elems + uptoBulkAll spare + 1
  | .agg parts => uptoBulkAll parts + 1
  | .iface _ d => uptoBulk d + 1
  | .map entries => uptoBulkEntries entries + 1
  | .held _ => 1
def uptoBulkAll {H : Type} : List (DataW H) → Nat
  | [] => 0
  | d :: r => uptoBulk d + uptoBulkAll r
def uptoBulkEntries {H : Type} : List (Lit × DataW H) → Nat
  | [] => 0
  | x :: r => uptoBulkEntry x + uptoBulkEntries r
def uptoBulkEntry {H : Type} : Lit × DataW H → Nat
  | (.string bytes, d) => bytes.length + uptoBulk d + 1
  | (_, d) => uptoBulk d + 1
 end
def uptoSmall : (H : Type) → List (DataW H) → Bool := fun _ ds => decide (uptoBulkAll ds ≤ 1048576)
def OpenSpec.upto (s : _root_.Go.ChangeSpec) : _root_.Go.OpenSpec := { _root_.Go.OpenSpec.ofChange s with cond := some uptoSmall }

/-- 'strongroomlaw11.DeltaCodes', WHERE WHAT IT READS IS OF BULK AT MOST 1048576: true; the input reads as it did. -/
def deltaCodesUptoRow : OpenClaim := { program := "ytcdnmlfnfhoieaa", sum := "9d59e9c9526ddd2fd5b41bcf9de689b7f03e4b33b50e15403a57ac5fab00da96", func := "strongroom/strongroomlaw11.DeltaCodes", spec := "deltaCodes", inPlace := ["math/bits.Add64"], recurses := true, apart := false, narrowed := true }
def DeltaCodesUptoSaid : Prop := deltaCodesUptoRow.holds Try.pinned (OpenSpec.upto deltaCodesSpec)

/-- 'strongroomlaw11.DeltaOnce', WHERE WHAT IT READS IS OF BULK AT MOST 1048576: true; the input reads as it did. -/
def deltaOnceUptoRow : OpenClaim := { program := "ytcdnmlfnfhoieaa", sum := "9d59e9c9526ddd2fd5b41bcf9de689b7f03e4b33b50e15403a57ac5fab00da96", func := "strongroom/strongroomlaw11.DeltaOnce", spec := "deltaOnce", inPlace := ["math/bits.Add64"], apart := false, narrowed := true }
def DeltaOnceUptoSaid : Prop := deltaOnceUptoRow.holds Try.pinned (OpenSpec.upto deltaOnceSpec)

/-- 'strongroomlaw02.ShaWhole', WHERE WHAT IT READS IS OF BULK AT MOST 1048576: true; the input reads as it did. -/
def shaWholeUptoRow : OpenClaim := { program := "ytcdnmlfnfhoieaa", sum := "9d59e9c9526ddd2fd5b41bcf9de689b7f03e4b33b50e15403a57ac5fab00da96", func := "strongroom/strongroomlaw02.ShaWhole", spec := "shaWhole", inPlace := ["math/bits.Add64"], apart := false, narrowed := true }
def ShaWholeUptoSaid : Prop := shaWholeUptoRow.holds Try.pinned (OpenSpec.upto shaWholeSpec)

/-- 'strongroomlaw03.MacBegins', WHERE WHAT IT READS IS OF BULK AT MOST 1048576: true; the input reads as it did. -/
def macBeginsUptoRow : OpenClaim := { program := "ytcdnmlfnfhoieaa", sum := "9d59e9c9526ddd2fd5b41bcf9de689b7f03e4b33b50e15403a57ac5fab00da96", func := "strongroom/strongroomlaw03.MacBegins", spec := "macBegins", inPlace := ["math/bits.Add64"], apart := false, narrowed := true }
def MacBeginsUptoSaid : Prop := macBeginsUptoRow.holds Try.pinned (OpenSpec.upto macBeginsSpec)

/-- 'strongroomlaw13.AuditMays', WHERE WHAT IT READS IS OF BULK AT MOST 1048576: true; the input reads as it did. -/
def auditMaysUptoRow : OpenClaim := { program := "ytcdnmlfnfhoieaa", sum := "9d59e9c9526ddd2fd5b41bcf9de689b7f03e4b33b50e15403a57ac5fab00da96", func := "strongroom/strongroomlaw13.AuditMays", spec := "auditMays", inPlace := ["math/bits.Add64"], recurses := true, apart := false, narrowed := true }
def AuditMaysUptoSaid : Prop := auditMaysUptoRow.holds Try.pinned (OpenSpec.upto auditMaysSpec)

/-- 'strongroomlaw13.AuditAdds', WHERE WHAT IT READS IS OF BULK AT MOST 1048576: true; the input reads as it did. -/
def auditAddsUptoRow : OpenClaim := { program := "ytcdnmlfnfhoieaa", sum := "9d59e9c9526ddd2fd5b41bcf9de689b7f03e4b33b50e15403a57ac5fab00da96", func := "strongroom/strongroomlaw13.AuditAdds", spec := "auditAdds", inPlace := ["math/bits.Add64"], recurses := true, apart := false, narrowed := true }
def AuditAddsUptoSaid : Prop := auditAddsUptoRow.holds Try.pinned (OpenSpec.upto auditAddsSpec)

/-- 'strongroomlaw13.AuditPlays', WHERE WHAT IT READS IS OF BULK AT MOST 1048576: true; the input reads as it did. -/
def auditPlaysUptoRow : OpenClaim := { program := "ytcdnmlfnfhoieaa", sum := "9d59e9c9526ddd2fd5b41bcf9de689b7f03e4b33b50e15403a57ac5fab00da96", func := "strongroom/strongroomlaw13.AuditPlays", spec := "auditPlays", inPlace := ["math/bits.Add64"], recurses := true, apart := false, narrowed := true }
def AuditPlaysUptoSaid : Prop := auditPlaysUptoRow.holds Try.pinned (OpenSpec.upto auditPlaysSpec)

/-- 'strongroomlaw13.AuditChains', WHERE WHAT IT READS IS OF BULK AT MOST 1048576: true; the input reads as it did. -/
def auditChainsUptoRow : OpenClaim := { program := "ytcdnmlfnfhoieaa", sum := "9d59e9c9526ddd2fd5b41bcf9de689b7f03e4b33b50e15403a57ac5fab00da96", func := "strongroom/strongroomlaw13.AuditChains", spec := "auditChains", inPlace := ["math/bits.Add64"], recurses := true, apart := false, narrowed := true }
def AuditChainsUptoSaid : Prop := auditChainsUptoRow.holds Try.pinned (OpenSpec.upto auditChainsSpec)

/-- 'strongroomlaw13.AuditFollows', WHERE WHAT IT READS IS OF BULK AT MOST 1048576: true; the input reads as it did. -/
def auditFollowsUptoRow : OpenClaim := { program := "ytcdnmlfnfhoieaa", sum := "9d59e9c9526ddd2fd5b41bcf9de689b7f03e4b33b50e15403a57ac5fab00da96", func := "strongroom/strongroomlaw13.AuditFollows", spec := "auditFollows", inPlace := ["math/bits.Add64"], recurses := true, apart := false, narrowed := true }
def AuditFollowsUptoSaid : Prop := auditFollowsUptoRow.holds Try.pinned (OpenSpec.upto auditFollowsSpec)

/-- 'strongroomlaw11.DeltaSame', WHERE WHAT IT READS IS OF BULK AT MOST 1048576: true; the input reads as it did. -/
def deltaSameUptoRow : OpenClaim := { program := "ytcdnmlfnfhoieaa", sum := "9d59e9c9526ddd2fd5b41bcf9de689b7f03e4b33b50e15403a57ac5fab00da96", func := "strongroom/strongroomlaw11.DeltaSame", spec := "deltaSame", inPlace := ["math/bits.Add64"], apart := false, narrowed := true }
def DeltaSameUptoSaid : Prop := deltaSameUptoRow.holds Try.pinned (OpenSpec.upto deltaSameSpec)

/-- 'strongroomlaw13.AuditCodes', WHERE WHAT IT READS IS OF BULK AT MOST 1048576: true; the input reads as it did. -/
def auditCodesUptoRow : OpenClaim := { program := "ytcdnmlfnfhoieaa", sum := "9d59e9c9526ddd2fd5b41bcf9de689b7f03e4b33b50e15403a57ac5fab00da96", func := "strongroom/strongroomlaw13.AuditCodes", spec := "auditCodes", inPlace := ["math/bits.Add64"], recurses := true, apart := false, narrowed := true }
def AuditCodesUptoSaid : Prop := auditCodesUptoRow.holds Try.pinned (OpenSpec.upto auditCodesSpec)

/-- 'strongroomlaw11.DeltaPatches', WHERE WHAT IT READS IS OF BULK AT MOST 1048576: true; the input reads as it did. -/
def deltaPatchesUptoRow : OpenClaim := { program := "ytcdnmlfnfhoieaa", sum := "9d59e9c9526ddd2fd5b41bcf9de689b7f03e4b33b50e15403a57ac5fab00da96", func := "strongroom/strongroomlaw11.DeltaPatches", spec := "deltaPatches", inPlace := ["math/bits.Add64"], apart := false, narrowed := true }
def DeltaPatchesUptoSaid : Prop := deltaPatchesUptoRow.holds Try.pinned (OpenSpec.upto deltaPatchesSpec)

/-- 'strongroomlaw11.DeltaBack', WHERE WHAT IT READS IS OF BULK AT MOST 1048576: true; the input reads as it did. -/
def deltaBackUptoRow : OpenClaim := { program := "ytcdnmlfnfhoieaa", sum := "9d59e9c9526ddd2fd5b41bcf9de689b7f03e4b33b50e15403a57ac5fab00da96", func := "strongroom/strongroomlaw11.DeltaBack", spec := "deltaBack", inPlace := ["math/bits.Add64"], apart := false, narrowed := true }
def DeltaBackUptoSaid : Prop := deltaBackUptoRow.holds Try.pinned (OpenSpec.upto deltaBackSpec)

end Rows
end Go.Proofs.Ytcdnmlfnfhoieaa
