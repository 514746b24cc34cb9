/-
  No cell of these rows narrows 'for every input' (looked for: loops, veiled, ifaces, maps, wideKeys, modest, calm, conditions, laid).
  DERIVED. THE GIVEN ROWS OF THIS SEAT. 5 by the template 'for every input the law returns true; each argument reads behind the call as it read before'; 0 by the template 'total and deterministic' (their statements: YtaggidjijekpbaaTotals.lean).
  GIVEN WITH THE SEED: the statements are not yours to turn. If you find one false, say at which input.
  Laid BY PROGRAM, IN A SANDBOX (cutbox-rows.mjs): the forced cells as the released guide's own fill.sh prints them over the translation 4477ac9880f5ebc2… (all of the seat's roots in one cut). By AI agents, Wed Nov 11 2026. No macro, syntax, notation, axiom, sorry.
-/
import Derived.Test.YtaggidjijekpbaaChecked
import GoSem.Claim
import GoSem.ClaimJoined
import GoSem.ClaimMapViews
import Derived.JoinedTies
import Derived.KernelRfl
namespace Go.Proofs.Ytaggidjijekpbaa
/- THE CELL 'sum', in the pinned program and in every row, IS THE sha256 OF THE DUMP (.gsa) THAT YtaggidjijekpbaaProg.lean LOADS. Nothing in Lean hashes anything: it is a label: what it is worth is what the hold of that sum in a sandbox is worth. -/
noncomputable def Try.pinned : Pinned := { name := "ytaggidjijekpbaa", sum := "4477ac9880f5ebc2bf0cd534052291f267922fd8144a944c7a258859549036b0", checked := Try.checked }
namespace Rows
def none {H : Type} : Left H := { results := [], args := [] }

/-- 'reparteelaw08.RxTogether': WHATEVER THE INPUT: true; the input reads as it did. -/
def rxTogetherSpec : ChangeSpec := { name := "rxTogether", fn := fun _ => fun
  | [d1, d2, d3] => { results := [.lit (.bool true)], args := [d1, d2, d3] }
  | _ => none }
def rxTogetherRow : OpenClaim := { program := "ytaggidjijekpbaa", sum := "4477ac9880f5ebc2bf0cd534052291f267922fd8144a944c7a258859549036b0", func := "repartee/reparteelaw08.RxTogether", spec := "rxTogether", unfollowed := true, recurses := true, apart := false }
def RxTogetherSaid : Prop := rxTogetherRow.holds Try.pinned (OpenSpec.ofChange rxTogetherSpec)

/-- ITS FALSE NEIGHBOUR: 'it returns false'. Refute it at one input. -/
def rxTogetherWrong : ChangeSpec := { name := "rxTogether", fn := fun _ => fun
  | [d1, d2, d3] => { results := [.lit (.bool false)], args := [d1, d2, d3] }
  | _ => none }
def RxTogetherWrongFalsely : Prop := rxTogetherRow.holds Try.pinned (OpenSpec.ofChange rxTogetherWrong)

/-- 'reparteelaw08.RxTimes': WHATEVER THE INPUT: true; the input reads as it did. -/
def rxTimesSpec : ChangeSpec := { name := "rxTimes", fn := fun _ => fun
  | [d1, d2, d3] => { results := [.lit (.bool true)], args := [d1, d2, d3] }
  | _ => none }
def rxTimesRow : OpenClaim := { program := "ytaggidjijekpbaa", sum := "4477ac9880f5ebc2bf0cd534052291f267922fd8144a944c7a258859549036b0", func := "repartee/reparteelaw08.RxTimes", spec := "rxTimes", unfollowed := true, recurses := true, apart := false }
def RxTimesSaid : Prop := rxTimesRow.holds Try.pinned (OpenSpec.ofChange rxTimesSpec)

/-- ITS FALSE NEIGHBOUR: 'it returns false'. Refute it at one input. -/
def rxTimesWrong : ChangeSpec := { name := "rxTimes", fn := fun _ => fun
  | [d1, d2, d3] => { results := [.lit (.bool false)], args := [d1, d2, d3] }
  | _ => none }
def RxTimesWrongFalsely : Prop := rxTimesRow.holds Try.pinned (OpenSpec.ofChange rxTimesWrong)

/-- 'reparteelaw08.RxWrong': WHATEVER THE INPUT: true; the input reads as it did. -/
def rxWrongSpec : ChangeSpec := { name := "rxWrong", fn := fun _ => fun
  | [d1, d2, d3] => { results := [.lit (.bool true)], args := [d1, d2, d3] }
  | _ => none }
def rxWrongRow : OpenClaim := { program := "ytaggidjijekpbaa", sum := "4477ac9880f5ebc2bf0cd534052291f267922fd8144a944c7a258859549036b0", func := "repartee/reparteelaw08.RxWrong", spec := "rxWrong", unfollowed := true, recurses := true, apart := false }
def RxWrongSaid : Prop := rxWrongRow.holds Try.pinned (OpenSpec.ofChange rxWrongSpec)

/-- ITS FALSE NEIGHBOUR: 'it returns false'. Refute it at one input. -/
def rxWrongWrong : ChangeSpec := { name := "rxWrong", fn := fun _ => fun
  | [d1, d2, d3] => { results := [.lit (.bool false)], args := [d1, d2, d3] }
  | _ => none }
def RxWrongWrongFalsely : Prop := rxWrongRow.holds Try.pinned (OpenSpec.ofChange rxWrongWrong)

/-- 'reparteelaw08.RxParts': WHATEVER THE INPUT: true; the input reads as it did. -/
def rxPartsSpec : ChangeSpec := { name := "rxParts", fn := fun _ => fun
  | [d1, d2] => { results := [.lit (.bool true)], args := [d1, d2] }
  | _ => none }
def rxPartsRow : OpenClaim := { program := "ytaggidjijekpbaa", sum := "4477ac9880f5ebc2bf0cd534052291f267922fd8144a944c7a258859549036b0", func := "repartee/reparteelaw08.RxParts", spec := "rxParts", unfollowed := true, recurses := true, apart := false }
def RxPartsSaid : Prop := rxPartsRow.holds Try.pinned (OpenSpec.ofChange rxPartsSpec)

/-- ITS FALSE NEIGHBOUR: 'it returns false'. Refute it at one input. -/
def rxPartsWrong : ChangeSpec := { name := "rxParts", fn := fun _ => fun
  | [d1, d2] => { results := [.lit (.bool false)], args := [d1, d2] }
  | _ => none }
def RxPartsWrongFalsely : Prop := rxPartsRow.holds Try.pinned (OpenSpec.ofChange rxPartsWrong)

/-- 'reparteelaw08.RxOrder': WHATEVER THE INPUT: true; the input reads as it did. -/
def rxOrderSpec : ChangeSpec := { name := "rxOrder", fn := fun _ => fun
  | [d1, d2, d3] => { results := [.lit (.bool true)], args := [d1, d2, d3] }
  | _ => none }
def rxOrderRow : OpenClaim := { program := "ytaggidjijekpbaa", sum := "4477ac9880f5ebc2bf0cd534052291f267922fd8144a944c7a258859549036b0", func := "repartee/reparteelaw08.RxOrder", spec := "rxOrder", unfollowed := true, recurses := true, apart := false }
def RxOrderSaid : Prop := rxOrderRow.holds Try.pinned (OpenSpec.ofChange rxOrderSpec)

/-- ITS FALSE NEIGHBOUR: 'it returns false'. Refute it at one input. -/
def rxOrderWrong : ChangeSpec := { name := "rxOrder", fn := fun _ => fun
  | [d1, d2, d3] => { results := [.lit (.bool false)], args := [d1, d2, d3] }
  | _ => none }
def RxOrderWrongFalsely : Prop := rxOrderRow.holds Try.pinned (OpenSpec.ofChange rxOrderWrong)

/- THE SECOND FORM. 'bulk': how many values and letters a reading holds, each counted each time it is reached (what is shared counts as often as it is met; a slice's spare places count too). A statement '..UptoSaid' is the law's where the arguments, and the package variables that the reading takes, are together of bulk at most 1048576: NARROWER than '..Said'. Prove '..Said' where nothing that the law and all that it calls make is longer than what came in: it says more and counts as full. Else prove '..UptoSaid'. A law counts once. -/
mutual
def uptoBulk {H : Type} : DataW H → Nat
  | .lit (.string bytes) => bytes.length + 1
  | .lit _ => 1
  | .nil => 1
  | .ptr d => uptoBulk d + 1
  | .slice elems spare => uptoBulkAll elems + uptoBulkAll spare + 1
  | .agg parts => uptoBulkAll parts + 1
  | .iface _ d => uptoBulk d + 1
  | .map entries => uptoBulkEntries entries + 1
  | .held _ => 1
def uptoBulkAll {H : Type} : List (DataW H) → Nat
  | [] => 0
  | d :: r => uptoBulk d + uptoBulkAll r
def uptoBulkEntries {H : Type} : List (Lit × DataW H) → Nat
  | [] => 0
  | x :: r => uptoBulkEntry x + uptoBulkEntries r
def uptoBulkEntry {H : Type} : Lit × DataW H → Nat
  | (.string bytes, d) => bytes.length + uptoBulk d + 1
  | (_, d) => uptoBulk d + 1
 end
def uptoSmall : (H : Type) → List (DataW H) → Bool := fun _ ds => decide (uptoBulkAll ds ≤ 1048576)
def OpenSpec.upto (s : _root_.Go.ChangeSpec) : _root_.Go.OpenSpec := { _root_.Go.OpenSpec.ofChange s with cond := some uptoSmall }

/-- 'reparteelaw08.RxTogether', WHERE WHAT IT READS IS OF BULK AT MOST 1048576: true; the input reads as it did. -/
def rxTogetherUptoRow : OpenClaim := { program := "ytaggidjijekpbaa", sum := "4477ac9880f5ebc2bf0cd534052291f267922fd8144a944c7a258859549036b0", func := "repartee/reparteelaw08.RxTogether", spec := "rxTogether", unfollowed := true, recurses := true, apart := false, narrowed := true }
def RxTogetherUptoSaid : Prop := rxTogetherUptoRow.holds Try.pinned (OpenSpec.upto rxTogetherSpec)

/-- 'reparteelaw08.RxTimes', WHERE WHAT IT READS IS OF BULK AT MOST 1048576: true; the input reads as it did. -/
def rxTimesUptoRow : OpenClaim := { program := "ytaggidjijekpbaa", sum := "4477ac9880f5ebc2bf0cd534052291f267922fd8144a944c7a258859549036b0", func := "repartee/reparteelaw08.RxTimes", spec := "rxTimes", unfollowed := true, recurses := true, apart := false, narrowed := true }
def RxTimesUptoSaid : Prop := rxTimesUptoRow.holds Try.pinned (OpenSpec.upto rxTimesSpec)

/-- 'reparteelaw08.RxWrong', WHERE WHAT IT READS IS OF BULK AT MOST 1048576: true; the input reads as it did. -/
def rxWrongUptoRow : OpenClaim := { program := "ytaggidjijekpbaa", sum := "4477ac9880f5ebc2bf0cd534052291f267922fd8144a944c7a258859549036b0", func := "repartee/reparteelaw08.RxWrong", spec := "rxWrong", unfollowed := true, recurses := true, apart := false, narrowed := true }
def RxWrongUptoSaid : Prop := rxWrongUptoRow.holds Try.pinned (OpenSpec.upto rxWrongSpec)

/-- 'reparteelaw08.RxParts', WHERE WHAT IT READS IS OF BULK AT MOST 1048576: true; the input reads as it did. -/
def rxPartsUptoRow : OpenClaim := { program := "ytaggidjijekpbaa", sum := "4477ac9880f5ebc2bf0cd534052291f267922fd8144a944c7a258859549036b0", func := "repartee/reparteelaw08.RxParts", spec := "rxParts", unfollowed := true, recurses := true, apart := false, narrowed := true }
def RxPartsUptoSaid : Prop := rxPartsUptoRow.holds Try.pinned (OpenSpec.upto rxPartsSpec)

/-- 'reparteelaw08.RxOrder', WHERE WHAT IT READS IS OF BULK AT MOST 1048576: true; the input reads as it did. -/
def rxOrderUptoRow : OpenClaim := { program := "ytaggidjijekpbaa", sum := "4477ac9880f5ebc2bf0cd534052291f267922fd8144a944c7a258859549036b0", func := "repartee/reparteelaw08.RxOrder", spec := "rxOrder", unfollowed := true, recurses := true, apart := false, narrowed := true }
def RxOrderUptoSaid : Prop := rxOrderUptoRow.holds Try.pinned (OpenSpec.upto rxOrderSpec)

end Rows
end Go.Proofs.Ytaggidjijekpbaa
