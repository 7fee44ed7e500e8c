/-
  No cell of these rows narrows 'for every input' (looked for: loops, veiled, ifaces, maps, wideKeys, modest, calm, conditions, laid).
  DERIVED. THE GIVEN ROWS OF THIS SEAT. 8 by the template 'for every input the law returns true; each argument reads behind the call as it read before'; 0 by the template 'total and deterministic' (their statements: YtipgdalebkhgpaaTotals.lean).
  GIVEN WITH THE SEED: the statements are not yours to turn. If you find one false, say at which input.
  Laid BY PROGRAM, IN A SANDBOX (cutbox-rows.mjs): the forced cells as the released guide's own fill.sh prints them over the translation 867abd76e846f13e… (all of the seat's roots in one cut). By AI agents, Wed Nov 11 2026. No macro, syntax, notation, axiom, sorry.
-/
import Derived.Test.YtipgdalebkhgpaaChecked
import GoSem.Claim
import GoSem.ClaimJoined
import GoSem.ClaimMapViews
import Derived.JoinedTies
import Derived.KernelRfl
namespace Go.Proofs.Ytipgdalebkhgpaa
/- THE CELL 'sum', in the pinned program and in every row, IS THE sha256 OF THE DUMP (.gsa) THAT YtipgdalebkhgpaaProg.lean LOADS. Nothing in Lean hashes anything: it is a label: what it is worth is what the hold of that sum in a sandbox is worth. -/
noncomputable def Try.pinned : Pinned := { name := "ytipgdalebkhgpaa", sum := "867abd76e846f13e6d9b40ea9960b45e7d8942e532af294c1ccf969d1822f225", checked := Try.checked }
namespace Rows
def none {H : Type} : Left H := { results := [], args := [] }

/-- 'damperlaw34.TapeBars': WHATEVER THE INPUT: true; the input reads as it did. -/
def tapeBarsSpec : ChangeSpec := { name := "tapeBars", fn := fun _ => fun
  | [d1, d2, d3] => { results := [.lit (.bool true)], args := [d1, d2, d3] }
  | _ => none }
def tapeBarsRow : OpenClaim := { program := "ytipgdalebkhgpaa", sum := "867abd76e846f13e6d9b40ea9960b45e7d8942e532af294c1ccf969d1822f225", func := "damper/damperlaw34.TapeBars", spec := "tapeBars", unfollowed := true, recurses := true, apart := false }
def TapeBarsSaid : Prop := tapeBarsRow.holds Try.pinned (OpenSpec.ofChange tapeBarsSpec)

/-- ITS FALSE NEIGHBOUR: 'it returns false'. Refute it at one input. -/
def tapeBarsWrong : ChangeSpec := { name := "tapeBars", fn := fun _ => fun
  | [d1, d2, d3] => { results := [.lit (.bool false)], args := [d1, d2, d3] }
  | _ => none }
def TapeBarsWrongFalsely : Prop := tapeBarsRow.holds Try.pinned (OpenSpec.ofChange tapeBarsWrong)

/-- 'damperlaw34.TapeSums': WHATEVER THE INPUT: true; the input reads as it did. -/
def tapeSumsSpec : ChangeSpec := { name := "tapeSums", fn := fun _ => fun
  | [d1, d2, d3] => { results := [.lit (.bool true)], args := [d1, d2, d3] }
  | _ => none }
def tapeSumsRow : OpenClaim := { program := "ytipgdalebkhgpaa", sum := "867abd76e846f13e6d9b40ea9960b45e7d8942e532af294c1ccf969d1822f225", func := "damper/damperlaw34.TapeSums", spec := "tapeSums", unfollowed := true, recurses := true, apart := false }
def TapeSumsSaid : Prop := tapeSumsRow.holds Try.pinned (OpenSpec.ofChange tapeSumsSpec)

/-- ITS FALSE NEIGHBOUR: 'it returns false'. Refute it at one input. -/
def tapeSumsWrong : ChangeSpec := { name := "tapeSums", fn := fun _ => fun
  | [d1, d2, d3] => { results := [.lit (.bool false)], args := [d1, d2, d3] }
  | _ => none }
def TapeSumsWrongFalsely : Prop := tapeSumsRow.holds Try.pinned (OpenSpec.ofChange tapeSumsWrong)

/-- 'damperlaw34.TapeWholes': WHATEVER THE INPUT: true; the input reads as it did. -/
def tapeWholesSpec : ChangeSpec := { name := "tapeWholes", fn := fun _ => fun
  | [d1, d2, d3] => { results := [.lit (.bool true)], args := [d1, d2, d3] }
  | _ => none }
def tapeWholesRow : OpenClaim := { program := "ytipgdalebkhgpaa", sum := "867abd76e846f13e6d9b40ea9960b45e7d8942e532af294c1ccf969d1822f225", func := "damper/damperlaw34.TapeWholes", spec := "tapeWholes", unfollowed := true, recurses := true, apart := false }
def TapeWholesSaid : Prop := tapeWholesRow.holds Try.pinned (OpenSpec.ofChange tapeWholesSpec)

/-- ITS FALSE NEIGHBOUR: 'it returns false'. Refute it at one input. -/
def tapeWholesWrong : ChangeSpec := { name := "tapeWholes", fn := fun _ => fun
  | [d1, d2, d3] => { results := [.lit (.bool false)], args := [d1, d2, d3] }
  | _ => none }
def TapeWholesWrongFalsely : Prop := tapeWholesRow.holds Try.pinned (OpenSpec.ofChange tapeWholesWrong)

/-- 'damperlaw37.DrillOrders': WHATEVER THE INPUT: true; the input reads as it did. -/
def drillOrdersSpec : ChangeSpec := { name := "drillOrders", fn := fun _ => fun
  | [d1, d2, d3, d4] => { results := [.lit (.bool true)], args := [d1, d2, d3, d4] }
  | _ => none }
def drillOrdersRow : OpenClaim := { program := "ytipgdalebkhgpaa", sum := "867abd76e846f13e6d9b40ea9960b45e7d8942e532af294c1ccf969d1822f225", func := "damper/damperlaw37.DrillOrders", spec := "drillOrders", unfollowed := true, recurses := true, apart := false }
def DrillOrdersSaid : Prop := drillOrdersRow.holds Try.pinned (OpenSpec.ofChange drillOrdersSpec)

/-- ITS FALSE NEIGHBOUR: 'it returns false'. Refute it at one input. -/
def drillOrdersWrong : ChangeSpec := { name := "drillOrders", fn := fun _ => fun
  | [d1, d2, d3, d4] => { results := [.lit (.bool false)], args := [d1, d2, d3, d4] }
  | _ => none }
def DrillOrdersWrongFalsely : Prop := drillOrdersRow.holds Try.pinned (OpenSpec.ofChange drillOrdersWrong)

/-- 'damperlaw37.DrillSteps': WHATEVER THE INPUT: true; the input reads as it did. -/
def drillStepsSpec : ChangeSpec := { name := "drillSteps", fn := fun _ => fun
  | [d1, d2, d3, d4] => { results := [.lit (.bool true)], args := [d1, d2, d3, d4] }
  | _ => none }
def drillStepsRow : OpenClaim := { program := "ytipgdalebkhgpaa", sum := "867abd76e846f13e6d9b40ea9960b45e7d8942e532af294c1ccf969d1822f225", func := "damper/damperlaw37.DrillSteps", spec := "drillSteps", unfollowed := true, recurses := true, apart := false }
def DrillStepsSaid : Prop := drillStepsRow.holds Try.pinned (OpenSpec.ofChange drillStepsSpec)

/-- ITS FALSE NEIGHBOUR: 'it returns false'. Refute it at one input. -/
def drillStepsWrong : ChangeSpec := { name := "drillSteps", fn := fun _ => fun
  | [d1, d2, d3, d4] => { results := [.lit (.bool false)], args := [d1, d2, d3, d4] }
  | _ => none }
def DrillStepsWrongFalsely : Prop := drillStepsRow.holds Try.pinned (OpenSpec.ofChange drillStepsWrong)

/-- 'damperlaw32.WatchPlays': WHATEVER THE INPUT: true; the input reads as it did. -/
def watchPlaysSpec : ChangeSpec := { name := "watchPlays", fn := fun _ => fun
  | [d1, d2] => { results := [.lit (.bool true)], args := [d1, d2] }
  | _ => none }
def watchPlaysRow : OpenClaim := { program := "ytipgdalebkhgpaa", sum := "867abd76e846f13e6d9b40ea9960b45e7d8942e532af294c1ccf969d1822f225", func := "damper/damperlaw32.WatchPlays", spec := "watchPlays", unfollowed := true, recurses := true, apart := false }
def WatchPlaysSaid : Prop := watchPlaysRow.holds Try.pinned (OpenSpec.ofChange watchPlaysSpec)

/-- ITS FALSE NEIGHBOUR: 'it returns false'. Refute it at one input. -/
def watchPlaysWrong : ChangeSpec := { name := "watchPlays", fn := fun _ => fun
  | [d1, d2] => { results := [.lit (.bool false)], args := [d1, d2] }
  | _ => none }
def WatchPlaysWrongFalsely : Prop := watchPlaysRow.holds Try.pinned (OpenSpec.ofChange watchPlaysWrong)

/-- 'damperlaw32.WatchNils': WHATEVER THE INPUT: true; the input reads as it did. -/
def watchNilsSpec : ChangeSpec := { name := "watchNils", fn := fun _ => fun
  | [d] => { results := [.lit (.bool true)], args := [d] }
  | _ => none }
def watchNilsRow : OpenClaim := { program := "ytipgdalebkhgpaa", sum := "867abd76e846f13e6d9b40ea9960b45e7d8942e532af294c1ccf969d1822f225", func := "damper/damperlaw32.WatchNils", spec := "watchNils", unfollowed := true, recurses := true, apart := false }
def WatchNilsSaid : Prop := watchNilsRow.holds Try.pinned (OpenSpec.ofChange watchNilsSpec)

/-- ITS FALSE NEIGHBOUR: 'it returns false'. Refute it at one input. -/
def watchNilsWrong : ChangeSpec := { name := "watchNils", fn := fun _ => fun
  | [d] => { results := [.lit (.bool false)], args := [d] }
  | _ => none }
def WatchNilsWrongFalsely : Prop := watchNilsRow.holds Try.pinned (OpenSpec.ofChange watchNilsWrong)

/-- 'damperlaw32.WatchAlls': WHATEVER THE INPUT: true; the input reads as it did. -/
def watchAllsSpec : ChangeSpec := { name := "watchAlls", fn := fun _ => fun
  | [d1, d2] => { results := [.lit (.bool true)], args := [d1, d2] }
  | _ => none }
def watchAllsRow : OpenClaim := { program := "ytipgdalebkhgpaa", sum := "867abd76e846f13e6d9b40ea9960b45e7d8942e532af294c1ccf969d1822f225", func := "damper/damperlaw32.WatchAlls", spec := "watchAlls", unfollowed := true, recurses := true, apart := false }
def WatchAllsSaid : Prop := watchAllsRow.holds Try.pinned (OpenSpec.ofChange watchAllsSpec)

/-- ITS FALSE NEIGHBOUR: 'it returns false'. Refute it at one input. -/
def watchAllsWrong : ChangeSpec := { name := "watchAlls", fn := fun _ => fun
  | [d1, d2] => { results := [.lit (.bool false)], args := [d1, d2] }
  | _ => none }
def WatchAllsWrongFalsely : Prop := watchAllsRow.holds Try.pinned (OpenSpec.ofChange watchAllsWrong)

/- THE SECOND FORM. 'bulk': how many values and letters a reading holds, each counted each time it is reached (what is shared counts as often as it is met; a slice's spare places count too). A statement '..UptoSaid' is the law's where the arguments, and the package variables that the reading takes, are together of bulk at most 1048576: NARROWER than '..Said'. Prove '..Said' where nothing that the law and all that it calls make is longer than what came in: it says more and counts as full. Else prove '..UptoSaid'. A law counts once. -/
mutual
def uptoBulk {H : Type} : DataW H → Nat
  | .lit (.string bytes) => bytes.length + 1
  | .lit _ => 1
  | .nil => 1
  | .ptr d => uptoBulk d + 1
  | .slice elems spare => uptoBulkAll elems + uptoBulkAll spare + 1
  | .agg parts => uptoBulkAll parts + 1
  | .iface _ d => uptoBulk d + 1
  | .map entries => uptoBulkEntries entries + 1
  | .held _ => 1
def uptoBulkAll {H : Type} : List (DataW H) → Nat
  | [] => 0
  | d :: r => uptoBulk d + uptoBulkAll r
def uptoBulkEntries {H : Type} : List (Lit × DataW H) → Nat
  | [] => 0
  | x :: r => uptoBulkEntry x + uptoBulkEntries r
def uptoBulkEntry {H : Type} : Lit × DataW H → Nat
  | (.string bytes, d) => bytes.length + uptoBulk d + 1
  | (_, d) => uptoBulk d + 1
 end
def uptoSmall : (H : Type) → List (DataW H) → Bool := fun _ ds => decide (uptoBulkAll ds ≤ 1048576)
def OpenSpec.upto (s : _root_.Go.ChangeSpec) : _root_.Go.OpenSpec := { _root_.Go.OpenSpec.ofChange s with cond := some uptoSmall }

/-- 'damperlaw34.TapeBars', WHERE WHAT IT READS IS OF BULK AT MOST 1048576: true; the input reads as it did. -/
def tapeBarsUptoRow : OpenClaim := { program := "ytipgdalebkhgpaa", sum := "867abd76e846f13e6d9b40ea9960b45e7d8942e532af294c1ccf969d1822f225", func := "damper/damperlaw34.TapeBars", spec := "tapeBars", unfollowed := true, recurses := true, apart := false, narrowed := true }
def TapeBarsUptoSaid : Prop := tapeBarsUptoRow.holds Try.pinned (OpenSpec.upto tapeBarsSpec)

/-- 'damperlaw34.TapeSums', WHERE WHAT IT READS IS OF BULK AT MOST 1048576: true; the input reads as it did. -/
def tapeSumsUptoRow : OpenClaim := { program := "ytipgdalebkhgpaa", sum := "867abd76e846f13e6d9b40ea9960b45e7d8942e532af294c1ccf969d1822f225", func := "damper/damperlaw34.TapeSums", spec := "tapeSums", unfollowed := true, recurses := true, apart := false, narrowed := true }
def TapeSumsUptoSaid : Prop := tapeSumsUptoRow.holds Try.pinned (OpenSpec.upto tapeSumsSpec)

/-- 'damperlaw34.TapeWholes', WHERE WHAT IT READS IS OF BULK AT MOST 1048576: true; the input reads as it did. -/
def tapeWholesUptoRow : OpenClaim := { program := "ytipgdalebkhgpaa", sum := "867abd76e846f13e6d9b40ea9960b45e7d8942e532af294c1ccf969d1822f225", func := "damper/damperlaw34.TapeWholes", spec := "tapeWholes", unfollowed := true, recurses := true, apart := false, narrowed := true }
def TapeWholesUptoSaid : Prop := tapeWholesUptoRow.holds Try.pinned (OpenSpec.upto tapeWholesSpec)

/-- 'damperlaw37.DrillOrders', WHERE WHAT IT READS IS OF BULK AT MOST 1048576: true; the input reads as it did. -/
def drillOrdersUptoRow : OpenClaim := { program := "ytipgdalebkhgpaa", sum := "867abd76e846f13e6d9b40ea9960b45e7d8942e532af294c1ccf969d1822f225", func := "damper/damperlaw37.DrillOrders", spec := "drillOrders", unfollowed := true, recurses := true, apart := false, narrowed := true }
def DrillOrdersUptoSaid : Prop := drillOrdersUptoRow.holds Try.pinned (OpenSpec.upto drillOrdersSpec)

/-- 'damperlaw37.DrillSteps', WHERE WHAT IT READS IS OF BULK AT MOST 1048576: true; the input reads as it did. -/
def drillStepsUptoRow : OpenClaim := { program := "ytipgdalebkhgpaa", sum := "867abd76e846f13e6d9b40ea9960b45e7d8942e532af294c1ccf969d1822f225", func := "damper/damperlaw37.DrillSteps", spec := "drillSteps", unfollowed := true, recurses := true, apart := false, narrowed := true }
def DrillStepsUptoSaid : Prop := drillStepsUptoRow.holds Try.pinned (OpenSpec.upto drillStepsSpec)

/-- 'damperlaw32.WatchPlays', WHERE WHAT IT READS IS OF BULK AT MOST 1048576: true; the input reads as it did. -/
def watchPlaysUptoRow : OpenClaim := { program := "ytipgdalebkhgpaa", sum := "867abd76e846f13e6d9b40ea9960b45e7d8942e532af294c1ccf969d1822f225", func := "damper/damperlaw32.WatchPlays", spec := "watchPlays", unfollowed := true, recurses := true, apart := false, narrowed := true }
def WatchPlaysUptoSaid : Prop := watchPlaysUptoRow.holds Try.pinned (OpenSpec.upto watchPlaysSpec)

/-- 'damperlaw32.WatchNils', WHERE WHAT IT READS IS OF BULK AT MOST 1048576: true; the input reads as it did. -/
def watchNilsUptoRow : OpenClaim := { program := "ytipgdalebkhgpaa", sum := "867abd76e846f13e6d9b40ea9960b45e7d8942e532af294c1ccf969d1822f225", func := "damper/damperlaw32.WatchNils", spec := "watchNils", unfollowed := true, recurses := true, apart := false, narrowed := true }
def WatchNilsUptoSaid : Prop := watchNilsUptoRow.holds Try.pinned (OpenSpec.upto watchNilsSpec)

/-- 'damperlaw32.WatchAlls', WHERE WHAT IT READS IS OF BULK AT MOST 1048576: true; the input reads as it did. -/
def watchAllsUptoRow : OpenClaim := { program := "ytipgdalebkhgpaa", sum := "867abd76e846f13e6d9b40ea9960b45e7d8942e532af294c1ccf969d1822f225", func := "damper/damperlaw32.WatchAlls", spec := "watchAlls", unfollowed := true, recurses := true, apart := false, narrowed := true }
def WatchAllsUptoSaid : Prop := watchAllsUptoRow.holds Try.pinned (OpenSpec.upto watchAllsSpec)

end Rows
end Go.Proofs.Ytipgdalebkhgpaa
