/-
  No cell of these rows narrows 'for every input' (looked for: loops, veiled, ifaces, maps, wideKeys, modest, calm, conditions, laid).
  DERIVED. THE GIVEN ROWS OF THIS SEAT. 11 by the template 'for every input the law returns true; each argument reads behind the call as it read before'; 0 by the template 'total and deterministic' (their statements: YtpaiipbomihocaaTotals.lean).
  GIVEN WITH THE SEED: the statements are not yours to turn. If you find one false, say at which input.
  Laid BY PROGRAM, IN A SANDBOX (cutbox-rows.mjs): the forced cells as the released guide's own fill.sh prints them over the translation 899cb482757cc6cf… (all of the seat's roots in one cut). By AI agents, Wed Nov 11 2026. No macro, syntax, notation, axiom, sorry.
-/
import Derived.Test.YtpaiipbomihocaaChecked
import GoSem.Claim
import GoSem.ClaimJoined
import GoSem.ClaimMapViews
import Derived.JoinedTies
import Derived.KernelRfl
namespace Go.Proofs.Ytpaiipbomihocaa
/- THE CELL 'sum', in the pinned program and in every row, IS THE sha256 OF THE DUMP (.gsa) THAT YtpaiipbomihocaaProg.lean LOADS. Nothing in Lean hashes anything: it is a label: what it is worth is what the hold of that sum in a sandbox is worth. -/
noncomputable def Try.pinned : Pinned := { name := "ytpaiipbomihocaa", sum := "899cb482757cc6cf30ab9d2fcab8b815cfe7437ac62c8324231043cfa6f04129", checked := Try.checked }
namespace Rows
def none {H : Type} : Left H := { results := [], args := [] }

/-- 'laws.FnExactFormTensor': WHATEVER THE INPUT: true; the input reads as it did. -/
def fnExactFormTensorSpec : ChangeSpec := { name := "fnExactFormTensor", fn := fun _ => fun
  | [d] => { results := [.lit (.bool true)], args := [d] }
  | _ => none }
def fnExactFormTensorRow : OpenClaim := { program := "ytpaiipbomihocaa", sum := "899cb482757cc6cf30ab9d2fcab8b815cfe7437ac62c8324231043cfa6f04129", func := "loop.example/g01267/laws.FnExactFormTensor", spec := "fnExactFormTensor", unfollowed := true, recurses := true, apart := false }
def FnExactFormTensorSaid : Prop := fnExactFormTensorRow.holds Try.pinned (OpenSpec.ofChange fnExactFormTensorSpec)

/-- ITS FALSE NEIGHBOUR: 'it returns false'. Refute it at one input. -/
def fnExactFormTensorWrong : ChangeSpec := { name := "fnExactFormTensor", fn := fun _ => fun
  | [d] => { results := [.lit (.bool false)], args := [d] }
  | _ => none }
def FnExactFormTensorWrongFalsely : Prop := fnExactFormTensorRow.holds Try.pinned (OpenSpec.ofChange fnExactFormTensorWrong)

/-- 'laws.FnExactProductTensor': WHATEVER THE INPUT: true; the input reads as it did. -/
def fnExactProductTensorSpec : ChangeSpec := { name := "fnExactProductTensor", fn := fun _ => fun
  | [d] => { results := [.lit (.bool true)], args := [d] }
  | _ => none }
def fnExactProductTensorRow : OpenClaim := { program := "ytpaiipbomihocaa", sum := "899cb482757cc6cf30ab9d2fcab8b815cfe7437ac62c8324231043cfa6f04129", func := "loop.example/g01267/laws.FnExactProductTensor", spec := "fnExactProductTensor", unfollowed := true, recurses := true, apart := false }
def FnExactProductTensorSaid : Prop := fnExactProductTensorRow.holds Try.pinned (OpenSpec.ofChange fnExactProductTensorSpec)

/-- ITS FALSE NEIGHBOUR: 'it returns false'. Refute it at one input. -/
def fnExactProductTensorWrong : ChangeSpec := { name := "fnExactProductTensor", fn := fun _ => fun
  | [d] => { results := [.lit (.bool false)], args := [d] }
  | _ => none }
def FnExactProductTensorWrongFalsely : Prop := fnExactProductTensorRow.holds Try.pinned (OpenSpec.ofChange fnExactProductTensorWrong)

/-- 'laws.FnExactUnitTensor': WHATEVER THE INPUT: true; the input reads as it did. -/
def fnExactUnitTensorSpec : ChangeSpec := { name := "fnExactUnitTensor", fn := fun _ => fun
  | [d] => { results := [.lit (.bool true)], args := [d] }
  | _ => none }
def fnExactUnitTensorRow : OpenClaim := { program := "ytpaiipbomihocaa", sum := "899cb482757cc6cf30ab9d2fcab8b815cfe7437ac62c8324231043cfa6f04129", func := "loop.example/g01267/laws.FnExactUnitTensor", spec := "fnExactUnitTensor", unfollowed := true, recurses := true, apart := false }
def FnExactUnitTensorSaid : Prop := fnExactUnitTensorRow.holds Try.pinned (OpenSpec.ofChange fnExactUnitTensorSpec)

/-- ITS FALSE NEIGHBOUR: 'it returns false'. Refute it at one input. -/
def fnExactUnitTensorWrong : ChangeSpec := { name := "fnExactUnitTensor", fn := fun _ => fun
  | [d] => { results := [.lit (.bool false)], args := [d] }
  | _ => none }
def FnExactUnitTensorWrongFalsely : Prop := fnExactUnitTensorRow.holds Try.pinned (OpenSpec.ofChange fnExactUnitTensorWrong)

/-- 'laws.FnExactCoproductTensor': WHATEVER THE INPUT: true; the input reads as it did. -/
def fnExactCoproductTensorSpec : ChangeSpec := { name := "fnExactCoproductTensor", fn := fun _ => fun
  | [d] => { results := [.lit (.bool true)], args := [d] }
  | _ => none }
def fnExactCoproductTensorRow : OpenClaim := { program := "ytpaiipbomihocaa", sum := "899cb482757cc6cf30ab9d2fcab8b815cfe7437ac62c8324231043cfa6f04129", func := "loop.example/g01267/laws.FnExactCoproductTensor", spec := "fnExactCoproductTensor", unfollowed := true, recurses := true, apart := false }
def FnExactCoproductTensorSaid : Prop := fnExactCoproductTensorRow.holds Try.pinned (OpenSpec.ofChange fnExactCoproductTensorSpec)

/-- ITS FALSE NEIGHBOUR: 'it returns false'. Refute it at one input. -/
def fnExactCoproductTensorWrong : ChangeSpec := { name := "fnExactCoproductTensor", fn := fun _ => fun
  | [d] => { results := [.lit (.bool false)], args := [d] }
  | _ => none }
def FnExactCoproductTensorWrongFalsely : Prop := fnExactCoproductTensorRow.holds Try.pinned (OpenSpec.ofChange fnExactCoproductTensorWrong)

/-- 'laws.FnExactGenusNumber': WHATEVER THE INPUT: true; the input reads as it did. -/
def fnExactGenusNumberSpec : ChangeSpec := { name := "fnExactGenusNumber", fn := fun _ => fun
  | [d1, d2] => { results := [.lit (.bool true)], args := [d1, d2] }
  | _ => none }
def fnExactGenusNumberRow : OpenClaim := { program := "ytpaiipbomihocaa", sum := "899cb482757cc6cf30ab9d2fcab8b815cfe7437ac62c8324231043cfa6f04129", func := "loop.example/g01267/laws.FnExactGenusNumber", spec := "fnExactGenusNumber", unfollowed := true, recurses := true, apart := false }
def FnExactGenusNumberSaid : Prop := fnExactGenusNumberRow.holds Try.pinned (OpenSpec.ofChange fnExactGenusNumberSpec)

/-- ITS FALSE NEIGHBOUR: 'it returns false'. Refute it at one input. -/
def fnExactGenusNumberWrong : ChangeSpec := { name := "fnExactGenusNumber", fn := fun _ => fun
  | [d1, d2] => { results := [.lit (.bool false)], args := [d1, d2] }
  | _ => none }
def FnExactGenusNumberWrongFalsely : Prop := fnExactGenusNumberRow.holds Try.pinned (OpenSpec.ofChange fnExactGenusNumberWrong)

/-- 'laws.FnExactLegNumber': WHATEVER THE INPUT: true; the input reads as it did. -/
def fnExactLegNumberSpec : ChangeSpec := { name := "fnExactLegNumber", fn := fun _ => fun
  | [d1, d2, d3] => { results := [.lit (.bool true)], args := [d1, d2, d3] }
  | _ => none }
def fnExactLegNumberRow : OpenClaim := { program := "ytpaiipbomihocaa", sum := "899cb482757cc6cf30ab9d2fcab8b815cfe7437ac62c8324231043cfa6f04129", func := "loop.example/g01267/laws.FnExactLegNumber", spec := "fnExactLegNumber", unfollowed := true, recurses := true, apart := false }
def FnExactLegNumberSaid : Prop := fnExactLegNumberRow.holds Try.pinned (OpenSpec.ofChange fnExactLegNumberSpec)

/-- ITS FALSE NEIGHBOUR: 'it returns false'. Refute it at one input. -/
def fnExactLegNumberWrong : ChangeSpec := { name := "fnExactLegNumber", fn := fun _ => fun
  | [d1, d2, d3] => { results := [.lit (.bool false)], args := [d1, d2, d3] }
  | _ => none }
def FnExactLegNumberWrongFalsely : Prop := fnExactLegNumberRow.holds Try.pinned (OpenSpec.ofChange fnExactLegNumberWrong)

/-- 'laws.FnExactIsPair': WHATEVER THE INPUT: true; the input reads as it did. -/
def fnExactIsPairSpec : ChangeSpec := { name := "fnExactIsPair", fn := fun _ => fun
  | [d] => { results := [.lit (.bool true)], args := [d] }
  | _ => none }
def fnExactIsPairRow : OpenClaim := { program := "ytpaiipbomihocaa", sum := "899cb482757cc6cf30ab9d2fcab8b815cfe7437ac62c8324231043cfa6f04129", func := "loop.example/g01267/laws.FnExactIsPair", spec := "fnExactIsPair", unfollowed := true, recurses := true, apart := false }
def FnExactIsPairSaid : Prop := fnExactIsPairRow.holds Try.pinned (OpenSpec.ofChange fnExactIsPairSpec)

/-- ITS FALSE NEIGHBOUR: 'it returns false'. Refute it at one input. -/
def fnExactIsPairWrong : ChangeSpec := { name := "fnExactIsPair", fn := fun _ => fun
  | [d] => { results := [.lit (.bool false)], args := [d] }
  | _ => none }
def FnExactIsPairWrongFalsely : Prop := fnExactIsPairRow.holds Try.pinned (OpenSpec.ofChange fnExactIsPairWrong)

/-- 'laws.FnExactZipVector': WHATEVER THE INPUT: true; the input reads as it did. -/
def fnExactZipVectorSpec : ChangeSpec := { name := "fnExactZipVector", fn := fun _ => fun
  | [d1, d2] => { results := [.lit (.bool true)], args := [d1, d2] }
  | _ => none }
def fnExactZipVectorRow : OpenClaim := { program := "ytpaiipbomihocaa", sum := "899cb482757cc6cf30ab9d2fcab8b815cfe7437ac62c8324231043cfa6f04129", func := "loop.example/g01267/laws.FnExactZipVector", spec := "fnExactZipVector", unfollowed := true, recurses := true, apart := false }
def FnExactZipVectorSaid : Prop := fnExactZipVectorRow.holds Try.pinned (OpenSpec.ofChange fnExactZipVectorSpec)

/-- ITS FALSE NEIGHBOUR: 'it returns false'. Refute it at one input. -/
def fnExactZipVectorWrong : ChangeSpec := { name := "fnExactZipVector", fn := fun _ => fun
  | [d1, d2] => { results := [.lit (.bool false)], args := [d1, d2] }
  | _ => none }
def FnExactZipVectorWrongFalsely : Prop := fnExactZipVectorRow.holds Try.pinned (OpenSpec.ofChange fnExactZipVectorWrong)

/-- 'laws.FnExactBoundaryElement': WHATEVER THE INPUT: true; the input reads as it did. -/
def fnExactBoundaryElementSpec : ChangeSpec := { name := "fnExactBoundaryElement", fn := fun _ => fun
  | [d] => { results := [.lit (.bool true)], args := [d] }
  | _ => none }
def fnExactBoundaryElementRow : OpenClaim := { program := "ytpaiipbomihocaa", sum := "899cb482757cc6cf30ab9d2fcab8b815cfe7437ac62c8324231043cfa6f04129", func := "loop.example/g01267/laws.FnExactBoundaryElement", spec := "fnExactBoundaryElement", unfollowed := true, recurses := true, apart := false }
def FnExactBoundaryElementSaid : Prop := fnExactBoundaryElementRow.holds Try.pinned (OpenSpec.ofChange fnExactBoundaryElementSpec)

/-- ITS FALSE NEIGHBOUR: 'it returns false'. Refute it at one input. -/
def fnExactBoundaryElementWrong : ChangeSpec := { name := "fnExactBoundaryElement", fn := fun _ => fun
  | [d] => { results := [.lit (.bool false)], args := [d] }
  | _ => none }
def FnExactBoundaryElementWrongFalsely : Prop := fnExactBoundaryElementRow.holds Try.pinned (OpenSpec.ofChange fnExactBoundaryElementWrong)

/-- 'laws.FnExactAnnulusNumber': WHATEVER THE INPUT: true; the input reads as it did. -/
def fnExactAnnulusNumberSpec : ChangeSpec := { name := "fnExactAnnulusNumber", fn := fun _ => fun
  | [d1, d2, d3] => { results := [.lit (.bool true)], args := [d1, d2, d3] }
  | _ => none }
def fnExactAnnulusNumberRow : OpenClaim := { program := "ytpaiipbomihocaa", sum := "899cb482757cc6cf30ab9d2fcab8b815cfe7437ac62c8324231043cfa6f04129", func := "loop.example/g01267/laws.FnExactAnnulusNumber", spec := "fnExactAnnulusNumber", unfollowed := true, recurses := true, apart := false }
def FnExactAnnulusNumberSaid : Prop := fnExactAnnulusNumberRow.holds Try.pinned (OpenSpec.ofChange fnExactAnnulusNumberSpec)

/-- ITS FALSE NEIGHBOUR: 'it returns false'. Refute it at one input. -/
def fnExactAnnulusNumberWrong : ChangeSpec := { name := "fnExactAnnulusNumber", fn := fun _ => fun
  | [d1, d2, d3] => { results := [.lit (.bool false)], args := [d1, d2, d3] }
  | _ => none }
def FnExactAnnulusNumberWrongFalsely : Prop := fnExactAnnulusNumberRow.holds Try.pinned (OpenSpec.ofChange fnExactAnnulusNumberWrong)

/-- 'laws.FnExactKleinOf': WHATEVER THE INPUT: true; the input reads as it did. -/
def fnExactKleinOfSpec : ChangeSpec := { name := "fnExactKleinOf", fn := fun _ => fun
  | [d1, d2] => { results := [.lit (.bool true)], args := [d1, d2] }
  | _ => none }
def fnExactKleinOfRow : OpenClaim := { program := "ytpaiipbomihocaa", sum := "899cb482757cc6cf30ab9d2fcab8b815cfe7437ac62c8324231043cfa6f04129", func := "loop.example/g01267/laws.FnExactKleinOf", spec := "fnExactKleinOf", unfollowed := true, recurses := true, apart := false }
def FnExactKleinOfSaid : Prop := fnExactKleinOfRow.holds Try.pinned (OpenSpec.ofChange fnExactKleinOfSpec)

/-- ITS FALSE NEIGHBOUR: 'it returns false'. Refute it at one input. -/
def fnExactKleinOfWrong : ChangeSpec := { name := "fnExactKleinOf", fn := fun _ => fun
  | [d1, d2] => { results := [.lit (.bool false)], args := [d1, d2] }
  | _ => none }
def FnExactKleinOfWrongFalsely : Prop := fnExactKleinOfRow.holds Try.pinned (OpenSpec.ofChange fnExactKleinOfWrong)

/- THE SECOND FORM. 'bulk': how many values and letters a reading holds, each counted each time it is reached (what is shared counts as often as it is met; a slice's spare places count too). A statement '..UptoSaid' is the law's where the arguments, and the package variables that the reading takes, are together of bulk at most 1048576: NARROWER than '..Said'. Prove '..Said' where nothing that the law and all that it calls make is longer than what came in: it says more and counts as full. Else prove '..UptoSaid'. A law counts once. -/
mutual
def uptoBulk {H : Type} : DataW H → Nat
  | .lit (.string bytes) => bytes.length + 1
  | .lit _ => 1
  | .nil => 1
  | .ptr d => uptoBulk d + 1
  | .slice elems spare => uptoBulkAll elems + uptoBulkAll spare + 1
  | .agg parts => uptoBulkAll parts + 1
  | .iface _ d => uptoBulk d + 1
  | .map entries => uptoBulkEntries entries + 1
  | .held _ => 1
def uptoBulkAll {H : Type} : List (DataW H) → Nat
  | [] => 0
  | d :: r => uptoBulk d + uptoBulkAll r
def uptoBulkEntries {H : Type} : List (Lit × DataW H) → Nat
  | [] => 0
  | x :: r => uptoBulkEntry x + uptoBulkEntries r
def uptoBulkEntry {H : Type} : Lit × DataW H → Nat
  | (.string bytes, d) => bytes.length + uptoBulk d + 1
  | (_, d) => uptoBulk d + 1
 end
def uptoSmall : (H : Type) → List (DataW H) → Bool := fun _ ds => decide (uptoBulkAll ds ≤ 1048576)
def OpenSpec.upto (s : _root_.Go.ChangeSpec) : _root_.Go.OpenSpec := { _root_.Go.OpenSpec.ofChange s with cond := some uptoSmall }

/-- 'laws.FnExactFormTensor', WHERE WHAT IT READS IS OF BULK AT MOST 1048576: true; the input reads as it did. -/
def fnExactFormTensorUptoRow : OpenClaim := { program := "ytpaiipbomihocaa", sum := "899cb482757cc6cf30ab9d2fcab8b815cfe7437ac62c8324231043cfa6f04129", func := "loop.example/g01267/laws.FnExactFormTensor", spec := "fnExactFormTensor", unfollowed := true, recurses := true, apart := false, narrowed := true }
def FnExactFormTensorUptoSaid : Prop := fnExactFormTensorUptoRow.holds Try.pinned (OpenSpec.upto fnExactFormTensorSpec)

/-- 'laws.FnExactProductTensor', WHERE WHAT IT READS IS OF BULK AT MOST 1048576: true; the input reads as it did. -/
def fnExactProductTensorUptoRow : OpenClaim := { program := "ytpaiipbomihocaa", sum := "899cb482757cc6cf30ab9d2fcab8b815cfe7437ac62c8324231043cfa6f04129", func := "loop.example/g01267/laws.FnExactProductTensor", spec := "fnExactProductTensor", unfollowed := true, recurses := true, apart := false, narrowed := true }
def FnExactProductTensorUptoSaid : Prop := fnExactProductTensorUptoRow.holds Try.pinned (OpenSpec.upto fnExactProductTensorSpec)

/-- 'laws.FnExactUnitTensor', WHERE WHAT IT READS IS OF BULK AT MOST 1048576: true; the input reads as it did. -/
def fnExactUnitTensorUptoRow : OpenClaim := { program := "ytpaiipbomihocaa", sum := "899cb482757cc6cf30ab9d2fcab8b815cfe7437ac62c8324231043cfa6f04129", func := "loop.example/g01267/laws.FnExactUnitTensor", spec := "fnExactUnitTensor", unfollowed := true, recurses := true, apart := false, narrowed := true }
def FnExactUnitTensorUptoSaid : Prop := fnExactUnitTensorUptoRow.holds Try.pinned (OpenSpec.upto fnExactUnitTensorSpec)

/-- 'laws.FnExactCoproductTensor', WHERE WHAT IT READS IS OF BULK AT MOST 1048576: true; the input reads as it did. -/
def fnExactCoproductTensorUptoRow : OpenClaim := { program := "ytpaiipbomihocaa", sum := "899cb482757cc6cf30ab9d2fcab8b815cfe7437ac62c8324231043cfa6f04129", func := "loop.example/g01267/laws.FnExactCoproductTensor", spec := "fnExactCoproductTensor", unfollowed := true, recurses := true, apart := false, narrowed := true }
def FnExactCoproductTensorUptoSaid : Prop := fnExactCoproductTensorUptoRow.holds Try.pinned (OpenSpec.upto fnExactCoproductTensorSpec)

/-- 'laws.FnExactGenusNumber', WHERE WHAT IT READS IS OF BULK AT MOST 1048576: true; the input reads as it did. -/
def fnExactGenusNumberUptoRow : OpenClaim := { program := "ytpaiipbomihocaa", sum := "899cb482757cc6cf30ab9d2fcab8b815cfe7437ac62c8324231043cfa6f04129", func := "loop.example/g01267/laws.FnExactGenusNumber", spec := "fnExactGenusNumber", unfollowed := true, recurses := true, apart := false, narrowed := true }
def FnExactGenusNumberUptoSaid : Prop := fnExactGenusNumberUptoRow.holds Try.pinned (OpenSpec.upto fnExactGenusNumberSpec)

/-- 'laws.FnExactLegNumber', WHERE WHAT IT READS IS OF BULK AT MOST 1048576: true; the input reads as it did. -/
def fnExactLegNumberUptoRow : OpenClaim := { program := "ytpaiipbomihocaa", sum := "899cb482757cc6cf30ab9d2fcab8b815cfe7437ac62c8324231043cfa6f04129", func := "loop.example/g01267/laws.FnExactLegNumber", spec := "fnExactLegNumber", unfollowed := true, recurses := true, apart := false, narrowed := true }
def FnExactLegNumberUptoSaid : Prop := fnExactLegNumberUptoRow.holds Try.pinned (OpenSpec.upto fnExactLegNumberSpec)

/-- 'laws.FnExactIsPair', WHERE WHAT IT READS IS OF BULK AT MOST 1048576: true; the input reads as it did. -/
def fnExactIsPairUptoRow : OpenClaim := { program := "ytpaiipbomihocaa", sum := "899cb482757cc6cf30ab9d2fcab8b815cfe7437ac62c8324231043cfa6f04129", func := "loop.example/g01267/laws.FnExactIsPair", spec := "fnExactIsPair", unfollowed := true, recurses := true, apart := false, narrowed := true }
def FnExactIsPairUptoSaid : Prop := fnExactIsPairUptoRow.holds Try.pinned (OpenSpec.upto fnExactIsPairSpec)

/-- 'laws.FnExactZipVector', WHERE WHAT IT READS IS OF BULK AT MOST 1048576: true; the input reads as it did. -/
def fnExactZipVectorUptoRow : OpenClaim := { program := "ytpaiipbomihocaa", sum := "899cb482757cc6cf30ab9d2fcab8b815cfe7437ac62c8324231043cfa6f04129", func := "loop.example/g01267/laws.FnExactZipVector", spec := "fnExactZipVector", unfollowed := true, recurses := true, apart := false, narrowed := true }
def FnExactZipVectorUptoSaid : Prop := fnExactZipVectorUptoRow.holds Try.pinned (OpenSpec.upto fnExactZipVectorSpec)

/-- 'laws.FnExactBoundaryElement', WHERE WHAT IT READS IS OF BULK AT MOST 1048576: true; the input reads as it did. -/
def fnExactBoundaryElementUptoRow : OpenClaim := { program := "ytpaiipbomihocaa", sum := "899cb482757cc6cf30ab9d2fcab8b815cfe7437ac62c8324231043cfa6f04129", func := "loop.example/g01267/laws.FnExactBoundaryElement", spec := "fnExactBoundaryElement", unfollowed := true, recurses := true, apart := false, narrowed := true }
def FnExactBoundaryElementUptoSaid : Prop := fnExactBoundaryElementUptoRow.holds Try.pinned (OpenSpec.upto fnExactBoundaryElementSpec)

/-- 'laws.FnExactAnnulusNumber', WHERE WHAT IT READS IS OF BULK AT MOST 1048576: true; the input reads as it did. -/
def fnExactAnnulusNumberUptoRow : OpenClaim := { program := "ytpaiipbomihocaa", sum := "899cb482757cc6cf30ab9d2fcab8b815cfe7437ac62c8324231043cfa6f04129", func := "loop.example/g01267/laws.FnExactAnnulusNumber", spec := "fnExactAnnulusNumber", unfollowed := true, recurses := true, apart := false, narrowed := true }
def FnExactAnnulusNumberUptoSaid : Prop := fnExactAnnulusNumberUptoRow.holds Try.pinned (OpenSpec.upto fnExactAnnulusNumberSpec)

/-- 'laws.FnExactKleinOf', WHERE WHAT IT READS IS OF BULK AT MOST 1048576: true; the input reads as it did. -/
def fnExactKleinOfUptoRow : OpenClaim := { program := "ytpaiipbomihocaa", sum := "899cb482757cc6cf30ab9d2fcab8b815cfe7437ac62c8324231043cfa6f04129", func := "loop.example/g01267/laws.FnExactKleinOf", spec := "fnExactKleinOf", unfollowed := true, recurses := true, apart := false, narrowed := true }
def FnExactKleinOfUptoSaid : Prop := fnExactKleinOfUptoRow.holds Try.pinned (OpenSpec.upto fnExactKleinOfSpec)

end Rows
end Go.Proofs.Ytpaiipbomihocaa
