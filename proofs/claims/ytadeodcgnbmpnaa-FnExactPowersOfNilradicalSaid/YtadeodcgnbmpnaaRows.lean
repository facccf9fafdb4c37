/-
  No cell of these rows narrows 'for every input' (looked for: loops, veiled, ifaces, maps, wideKeys, modest, calm, conditions, laid).
  DERIVED. THE GIVEN ROWS OF THIS SEAT. 12 by the template 'for every input the law returns true; each argument reads behind the call as it read before'; 0 by the template 'total and deterministic' (their statements: YtadeodcgnbmpnaaTotals.lean).
  GIVEN WITH THE SEED: the statements are not yours to turn. If you find one false, say at which input.
  Laid BY PROGRAM, IN A SANDBOX (cutbox-rows.mjs): the forced cells as the released guide's own fill.sh prints them over the translation 3b9d86904616e731… (all of the seat's roots in one cut). By AI agents, Wed Nov 11 2026. No macro, syntax, notation, axiom, sorry.
-/
import Derived.Test.YtadeodcgnbmpnaaChecked
import GoSem.Claim
import GoSem.ClaimJoined
import GoSem.ClaimMapViews
import Derived.JoinedTies
import Derived.KernelRfl
namespace Go.Proofs.Ytadeodcgnbmpnaa
/- THE CELL 'sum', in the pinned program and in every row, IS THE sha256 OF THE DUMP (.gsa) THAT YtadeodcgnbmpnaaProg.lean LOADS. Nothing in Lean hashes anything: it is a label: what it is worth is what the hold of that sum in a sandbox is worth. -/
noncomputable def Try.pinned : Pinned := { name := "ytadeodcgnbmpnaa", sum := "3b9d86904616e73135718114a533bcf5af94cbdd16b492d5523c7d75693eb061", checked := Try.checked }
namespace Rows
def none {H : Type} : Left H := { results := [], args := [] }

/-- 'laws.FnExactCentreOf': WHATEVER THE INPUT: true; the input reads as it did. -/
def fnExactCentreOfSpec : ChangeSpec := { name := "fnExactCentreOf", fn := fun _ => fun
  | [d] => { results := [.lit (.bool true)], args := [d] }
  | _ => none }
def fnExactCentreOfRow : OpenClaim := { program := "ytadeodcgnbmpnaa", sum := "3b9d86904616e73135718114a533bcf5af94cbdd16b492d5523c7d75693eb061", func := "loop.example/g01267/laws.FnExactCentreOf", spec := "fnExactCentreOf", unfollowed := true, recurses := true, apart := false }
def FnExactCentreOfSaid : Prop := fnExactCentreOfRow.holds Try.pinned (OpenSpec.ofChange fnExactCentreOfSpec)

/-- ITS FALSE NEIGHBOUR: 'it returns false'. Refute it at one input. -/
def fnExactCentreOfWrong : ChangeSpec := { name := "fnExactCentreOf", fn := fun _ => fun
  | [d] => { results := [.lit (.bool false)], args := [d] }
  | _ => none }
def FnExactCentreOfWrongFalsely : Prop := fnExactCentreOfRow.holds Try.pinned (OpenSpec.ofChange fnExactCentreOfWrong)

/-- 'laws.FnExactChangeForm': WHATEVER THE INPUT: true; the input reads as it did. -/
def fnExactChangeFormSpec : ChangeSpec := { name := "fnExactChangeForm", fn := fun _ => fun
  | [d1, d2] => { results := [.lit (.bool true)], args := [d1, d2] }
  | _ => none }
def fnExactChangeFormRow : OpenClaim := { program := "ytadeodcgnbmpnaa", sum := "3b9d86904616e73135718114a533bcf5af94cbdd16b492d5523c7d75693eb061", func := "loop.example/g01267/laws.FnExactChangeForm", spec := "fnExactChangeForm", unfollowed := true, recurses := true, apart := false }
def FnExactChangeFormSaid : Prop := fnExactChangeFormRow.holds Try.pinned (OpenSpec.ofChange fnExactChangeFormSpec)

/-- ITS FALSE NEIGHBOUR: 'it returns false'. Refute it at one input. -/
def fnExactChangeFormWrong : ChangeSpec := { name := "fnExactChangeForm", fn := fun _ => fun
  | [d1, d2] => { results := [.lit (.bool false)], args := [d1, d2] }
  | _ => none }
def FnExactChangeFormWrongFalsely : Prop := fnExactChangeFormRow.holds Try.pinned (OpenSpec.ofChange fnExactChangeFormWrong)

/-- 'laws.FnExactHandleOf': WHATEVER THE INPUT: true; the input reads as it did. -/
def fnExactHandleOfSpec : ChangeSpec := { name := "fnExactHandleOf", fn := fun _ => fun
  | [d] => { results := [.lit (.bool true)], args := [d] }
  | _ => none }
def fnExactHandleOfRow : OpenClaim := { program := "ytadeodcgnbmpnaa", sum := "3b9d86904616e73135718114a533bcf5af94cbdd16b492d5523c7d75693eb061", func := "loop.example/g01267/laws.FnExactHandleOf", spec := "fnExactHandleOf", unfollowed := true, recurses := true, apart := false }
def FnExactHandleOfSaid : Prop := fnExactHandleOfRow.holds Try.pinned (OpenSpec.ofChange fnExactHandleOfSpec)

/-- ITS FALSE NEIGHBOUR: 'it returns false'. Refute it at one input. -/
def fnExactHandleOfWrong : ChangeSpec := { name := "fnExactHandleOf", fn := fun _ => fun
  | [d] => { results := [.lit (.bool false)], args := [d] }
  | _ => none }
def FnExactHandleOfWrongFalsely : Prop := fnExactHandleOfRow.holds Try.pinned (OpenSpec.ofChange fnExactHandleOfWrong)

/-- 'laws.FnExactNakayamaOf': WHATEVER THE INPUT: true; the input reads as it did. -/
def fnExactNakayamaOfSpec : ChangeSpec := { name := "fnExactNakayamaOf", fn := fun _ => fun
  | [d] => { results := [.lit (.bool true)], args := [d] }
  | _ => none }
def fnExactNakayamaOfRow : OpenClaim := { program := "ytadeodcgnbmpnaa", sum := "3b9d86904616e73135718114a533bcf5af94cbdd16b492d5523c7d75693eb061", func := "loop.example/g01267/laws.FnExactNakayamaOf", spec := "fnExactNakayamaOf", unfollowed := true, recurses := true, apart := false }
def FnExactNakayamaOfSaid : Prop := fnExactNakayamaOfRow.holds Try.pinned (OpenSpec.ofChange fnExactNakayamaOfSpec)

/-- ITS FALSE NEIGHBOUR: 'it returns false'. Refute it at one input. -/
def fnExactNakayamaOfWrong : ChangeSpec := { name := "fnExactNakayamaOf", fn := fun _ => fun
  | [d] => { results := [.lit (.bool false)], args := [d] }
  | _ => none }
def FnExactNakayamaOfWrongFalsely : Prop := fnExactNakayamaOfRow.holds Try.pinned (OpenSpec.ofChange fnExactNakayamaOfWrong)

/-- 'laws.FnExactIsReduced': WHATEVER THE INPUT: true; the input reads as it did. -/
def fnExactIsReducedSpec : ChangeSpec := { name := "fnExactIsReduced", fn := fun _ => fun
  | [d] => { results := [.lit (.bool true)], args := [d] }
  | _ => none }
def fnExactIsReducedRow : OpenClaim := { program := "ytadeodcgnbmpnaa", sum := "3b9d86904616e73135718114a533bcf5af94cbdd16b492d5523c7d75693eb061", func := "loop.example/g01267/laws.FnExactIsReduced", spec := "fnExactIsReduced", unfollowed := true, recurses := true, apart := false }
def FnExactIsReducedSaid : Prop := fnExactIsReducedRow.holds Try.pinned (OpenSpec.ofChange fnExactIsReducedSpec)

/-- ITS FALSE NEIGHBOUR: 'it returns false'. Refute it at one input. -/
def fnExactIsReducedWrong : ChangeSpec := { name := "fnExactIsReduced", fn := fun _ => fun
  | [d] => { results := [.lit (.bool false)], args := [d] }
  | _ => none }
def FnExactIsReducedWrongFalsely : Prop := fnExactIsReducedRow.holds Try.pinned (OpenSpec.ofChange fnExactIsReducedWrong)

/-- 'laws.FnExactAnnihilatorOf': WHATEVER THE INPUT: true; the input reads as it did. -/
def fnExactAnnihilatorOfSpec : ChangeSpec := { name := "fnExactAnnihilatorOf", fn := fun _ => fun
  | [d1, d2] => { results := [.lit (.bool true)], args := [d1, d2] }
  | _ => none }
def fnExactAnnihilatorOfRow : OpenClaim := { program := "ytadeodcgnbmpnaa", sum := "3b9d86904616e73135718114a533bcf5af94cbdd16b492d5523c7d75693eb061", func := "loop.example/g01267/laws.FnExactAnnihilatorOf", spec := "fnExactAnnihilatorOf", unfollowed := true, recurses := true, apart := false }
def FnExactAnnihilatorOfSaid : Prop := fnExactAnnihilatorOfRow.holds Try.pinned (OpenSpec.ofChange fnExactAnnihilatorOfSpec)

/-- ITS FALSE NEIGHBOUR: 'it returns false'. Refute it at one input. -/
def fnExactAnnihilatorOfWrong : ChangeSpec := { name := "fnExactAnnihilatorOf", fn := fun _ => fun
  | [d1, d2] => { results := [.lit (.bool false)], args := [d1, d2] }
  | _ => none }
def FnExactAnnihilatorOfWrongFalsely : Prop := fnExactAnnihilatorOfRow.holds Try.pinned (OpenSpec.ofChange fnExactAnnihilatorOfWrong)

/-- 'laws.FnExactDualBasis': WHATEVER THE INPUT: true; the input reads as it did. -/
def fnExactDualBasisSpec : ChangeSpec := { name := "fnExactDualBasis", fn := fun _ => fun
  | [d] => { results := [.lit (.bool true)], args := [d] }
  | _ => none }
def fnExactDualBasisRow : OpenClaim := { program := "ytadeodcgnbmpnaa", sum := "3b9d86904616e73135718114a533bcf5af94cbdd16b492d5523c7d75693eb061", func := "loop.example/g01267/laws.FnExactDualBasis", spec := "fnExactDualBasis", unfollowed := true, recurses := true, apart := false }
def FnExactDualBasisSaid : Prop := fnExactDualBasisRow.holds Try.pinned (OpenSpec.ofChange fnExactDualBasisSpec)

/-- ITS FALSE NEIGHBOUR: 'it returns false'. Refute it at one input. -/
def fnExactDualBasisWrong : ChangeSpec := { name := "fnExactDualBasis", fn := fun _ => fun
  | [d] => { results := [.lit (.bool false)], args := [d] }
  | _ => none }
def FnExactDualBasisWrongFalsely : Prop := fnExactDualBasisRow.holds Try.pinned (OpenSpec.ofChange fnExactDualBasisWrong)

/-- 'laws.FnExactCopairingOf': WHATEVER THE INPUT: true; the input reads as it did. -/
def fnExactCopairingOfSpec : ChangeSpec := { name := "fnExactCopairingOf", fn := fun _ => fun
  | [d] => { results := [.lit (.bool true)], args := [d] }
  | _ => none }
def fnExactCopairingOfRow : OpenClaim := { program := "ytadeodcgnbmpnaa", sum := "3b9d86904616e73135718114a533bcf5af94cbdd16b492d5523c7d75693eb061", func := "loop.example/g01267/laws.FnExactCopairingOf", spec := "fnExactCopairingOf", unfollowed := true, recurses := true, apart := false }
def FnExactCopairingOfSaid : Prop := fnExactCopairingOfRow.holds Try.pinned (OpenSpec.ofChange fnExactCopairingOfSpec)

/-- ITS FALSE NEIGHBOUR: 'it returns false'. Refute it at one input. -/
def fnExactCopairingOfWrong : ChangeSpec := { name := "fnExactCopairingOf", fn := fun _ => fun
  | [d] => { results := [.lit (.bool false)], args := [d] }
  | _ => none }
def FnExactCopairingOfWrongFalsely : Prop := fnExactCopairingOfRow.holds Try.pinned (OpenSpec.ofChange fnExactCopairingOfWrong)

/-- 'laws.FnExactNilradicalOf': WHATEVER THE INPUT: true; the input reads as it did. -/
def fnExactNilradicalOfSpec : ChangeSpec := { name := "fnExactNilradicalOf", fn := fun _ => fun
  | [d] => { results := [.lit (.bool true)], args := [d] }
  | _ => none }
def fnExactNilradicalOfRow : OpenClaim := { program := "ytadeodcgnbmpnaa", sum := "3b9d86904616e73135718114a533bcf5af94cbdd16b492d5523c7d75693eb061", func := "loop.example/g01267/laws.FnExactNilradicalOf", spec := "fnExactNilradicalOf", unfollowed := true, recurses := true, apart := false }
def FnExactNilradicalOfSaid : Prop := fnExactNilradicalOfRow.holds Try.pinned (OpenSpec.ofChange fnExactNilradicalOfSpec)

/-- ITS FALSE NEIGHBOUR: 'it returns false'. Refute it at one input. -/
def fnExactNilradicalOfWrong : ChangeSpec := { name := "fnExactNilradicalOf", fn := fun _ => fun
  | [d] => { results := [.lit (.bool false)], args := [d] }
  | _ => none }
def FnExactNilradicalOfWrongFalsely : Prop := fnExactNilradicalOfRow.holds Try.pinned (OpenSpec.ofChange fnExactNilradicalOfWrong)

/-- 'laws.FnExactSocleOf': WHATEVER THE INPUT: true; the input reads as it did. -/
def fnExactSocleOfSpec : ChangeSpec := { name := "fnExactSocleOf", fn := fun _ => fun
  | [d] => { results := [.lit (.bool true)], args := [d] }
  | _ => none }
def fnExactSocleOfRow : OpenClaim := { program := "ytadeodcgnbmpnaa", sum := "3b9d86904616e73135718114a533bcf5af94cbdd16b492d5523c7d75693eb061", func := "loop.example/g01267/laws.FnExactSocleOf", spec := "fnExactSocleOf", unfollowed := true, recurses := true, apart := false }
def FnExactSocleOfSaid : Prop := fnExactSocleOfRow.holds Try.pinned (OpenSpec.ofChange fnExactSocleOfSpec)

/-- ITS FALSE NEIGHBOUR: 'it returns false'. Refute it at one input. -/
def fnExactSocleOfWrong : ChangeSpec := { name := "fnExactSocleOf", fn := fun _ => fun
  | [d] => { results := [.lit (.bool false)], args := [d] }
  | _ => none }
def FnExactSocleOfWrongFalsely : Prop := fnExactSocleOfRow.holds Try.pinned (OpenSpec.ofChange fnExactSocleOfWrong)

/-- 'laws.FnExactPowersOfNilradical': WHATEVER THE INPUT: true; the input reads as it did. -/
def fnExactPowersOfNilradicalSpec : ChangeSpec := { name := "fnExactPowersOfNilradical", fn := fun _ => fun
  | [d] => { results := [.lit (.bool true)], args := [d] }
  | _ => none }
def fnExactPowersOfNilradicalRow : OpenClaim := { program := "ytadeodcgnbmpnaa", sum := "3b9d86904616e73135718114a533bcf5af94cbdd16b492d5523c7d75693eb061", func := "loop.example/g01267/laws.FnExactPowersOfNilradical", spec := "fnExactPowersOfNilradical", unfollowed := true, recurses := true, apart := false }
def FnExactPowersOfNilradicalSaid : Prop := fnExactPowersOfNilradicalRow.holds Try.pinned (OpenSpec.ofChange fnExactPowersOfNilradicalSpec)

/-- ITS FALSE NEIGHBOUR: 'it returns false'. Refute it at one input. -/
def fnExactPowersOfNilradicalWrong : ChangeSpec := { name := "fnExactPowersOfNilradical", fn := fun _ => fun
  | [d] => { results := [.lit (.bool false)], args := [d] }
  | _ => none }
def FnExactPowersOfNilradicalWrongFalsely : Prop := fnExactPowersOfNilradicalRow.holds Try.pinned (OpenSpec.ofChange fnExactPowersOfNilradicalWrong)

/-- 'laws.FnExactCoproductOf': WHATEVER THE INPUT: true; the input reads as it did. -/
def fnExactCoproductOfSpec : ChangeSpec := { name := "fnExactCoproductOf", fn := fun _ => fun
  | [d1, d2] => { results := [.lit (.bool true)], args := [d1, d2] }
  | _ => none }
def fnExactCoproductOfRow : OpenClaim := { program := "ytadeodcgnbmpnaa", sum := "3b9d86904616e73135718114a533bcf5af94cbdd16b492d5523c7d75693eb061", func := "loop.example/g01267/laws.FnExactCoproductOf", spec := "fnExactCoproductOf", unfollowed := true, recurses := true, apart := false }
def FnExactCoproductOfSaid : Prop := fnExactCoproductOfRow.holds Try.pinned (OpenSpec.ofChange fnExactCoproductOfSpec)

/-- ITS FALSE NEIGHBOUR: 'it returns false'. Refute it at one input. -/
def fnExactCoproductOfWrong : ChangeSpec := { name := "fnExactCoproductOf", fn := fun _ => fun
  | [d1, d2] => { results := [.lit (.bool false)], args := [d1, d2] }
  | _ => none }
def FnExactCoproductOfWrongFalsely : Prop := fnExactCoproductOfRow.holds Try.pinned (OpenSpec.ofChange fnExactCoproductOfWrong)

/- THE SECOND FORM. 'bulk': how many values and letters a reading holds, each counted each time it is reached (what is shared counts as often as it is met; a slice's spare places count too). A statement '..UptoSaid' is the law's where the arguments, and the package variables that the reading takes, are together of bulk at most 1048576: NARROWER than '..Said'. Prove '..Said' where nothing that the law and all that it calls make is longer than what came in: it says more and counts as full. Else prove '..UptoSaid'. A law counts once. -/
mutual
def uptoBulk {H : Type} : DataW H → Nat
  | .lit (.string bytes) => bytes.length + 1
  | .lit _ => 1
  | .nil => 1
  | .ptr d => uptoBulk d + 1
  | .slice elems spare => uptoBulkAll elems + uptoBulkAll spare + 1
  | .agg parts => uptoBulkAll parts + 1
  | .iface _ d => uptoBulk d + 1
  | .map entries => uptoBulkEntries entries + 1
  | .held _ => 1
def uptoBulkAll {H : Type} : List (DataW H) → Nat
  | [] => 0
  | d :: r => uptoBulk d + uptoBulkAll r
def uptoBulkEntries {H : Type} : List (Lit × DataW H) → Nat
  | [] => 0
  | x :: r => uptoBulkEntry x + uptoBulkEntries r
def uptoBulkEntry {H : Type} : Lit × DataW H → Nat
  | (.string bytes, d) => bytes.length + uptoBulk d + 1
  | (_, d) => uptoBulk d + 1
 end
def uptoSmall : (H : Type) → List (DataW H) → Bool := fun _ ds => decide (uptoBulkAll ds ≤ 1048576)
def OpenSpec.upto (s : _root_.Go.ChangeSpec) : _root_.Go.OpenSpec := { _root_.Go.OpenSpec.ofChange s with cond := some uptoSmall }

/-- 'laws.FnExactCentreOf', WHERE WHAT IT READS IS OF BULK AT MOST 1048576: true; the input reads as it did. -/
def fnExactCentreOfUptoRow : OpenClaim := { program := "ytadeodcgnbmpnaa", sum := "3b9d86904616e73135718114a533bcf5af94cbdd16b492d5523c7d75693eb061", func := "loop.example/g01267/laws.FnExactCentreOf", spec := "fnExactCentreOf", unfollowed := true, recurses := true, apart := false, narrowed := true }
def FnExactCentreOfUptoSaid : Prop := fnExactCentreOfUptoRow.holds Try.pinned (OpenSpec.upto fnExactCentreOfSpec)

/-- 'laws.FnExactChangeForm', WHERE WHAT IT READS IS OF BULK AT MOST 1048576: true; the input reads as it did. -/
def fnExactChangeFormUptoRow : OpenClaim := { program := "ytadeodcgnbmpnaa", sum := "3b9d86904616e73135718114a533bcf5af94cbdd16b492d5523c7d75693eb061", func := "loop.example/g01267/laws.FnExactChangeForm", spec := "fnExactChangeForm", unfollowed := true, recurses := true, apart := false, narrowed := true }
def FnExactChangeFormUptoSaid : Prop := fnExactChangeFormUptoRow.holds Try.pinned (OpenSpec.upto fnExactChangeFormSpec)

/-- 'laws.FnExactHandleOf', WHERE WHAT IT READS IS OF BULK AT MOST 1048576: true; the input reads as it did. -/
def fnExactHandleOfUptoRow : OpenClaim := { program := "ytadeodcgnbmpnaa", sum := "3b9d86904616e73135718114a533bcf5af94cbdd16b492d5523c7d75693eb061", func := "loop.example/g01267/laws.FnExactHandleOf", spec := "fnExactHandleOf", unfollowed := true, recurses := true, apart := false, narrowed := true }
def FnExactHandleOfUptoSaid : Prop := fnExactHandleOfUptoRow.holds Try.pinned (OpenSpec.upto fnExactHandleOfSpec)

/-- 'laws.FnExactNakayamaOf', WHERE WHAT IT READS IS OF BULK AT MOST 1048576: true; the input reads as it did. -/
def fnExactNakayamaOfUptoRow : OpenClaim := { program := "ytadeodcgnbmpnaa", sum := "3b9d86904616e73135718114a533bcf5af94cbdd16b492d5523c7d75693eb061", func := "loop.example/g01267/laws.FnExactNakayamaOf", spec := "fnExactNakayamaOf", unfollowed := true, recurses := true, apart := false, narrowed := true }
def FnExactNakayamaOfUptoSaid : Prop := fnExactNakayamaOfUptoRow.holds Try.pinned (OpenSpec.upto fnExactNakayamaOfSpec)

/-- 'laws.FnExactIsReduced', WHERE WHAT IT READS IS OF BULK AT MOST 1048576: true; the input reads as it did. -/
def fnExactIsReducedUptoRow : OpenClaim := { program := "ytadeodcgnbmpnaa", sum := "3b9d86904616e73135718114a533bcf5af94cbdd16b492d5523c7d75693eb061", func := "loop.example/g01267/laws.FnExactIsReduced", spec := "fnExactIsReduced", unfollowed := true, recurses := true, apart := false, narrowed := true }
def FnExactIsReducedUptoSaid : Prop := fnExactIsReducedUptoRow.holds Try.pinned (OpenSpec.upto fnExactIsReducedSpec)

/-- 'laws.FnExactAnnihilatorOf', WHERE WHAT IT READS IS OF BULK AT MOST 1048576: true; the input reads as it did. -/
def fnExactAnnihilatorOfUptoRow : OpenClaim := { program := "ytadeodcgnbmpnaa", sum := "3b9d86904616e73135718114a533bcf5af94cbdd16b492d5523c7d75693eb061", func := "loop.example/g01267/laws.FnExactAnnihilatorOf", spec := "fnExactAnnihilatorOf", unfollowed := true, recurses := true, apart := false, narrowed := true }
def FnExactAnnihilatorOfUptoSaid : Prop := fnExactAnnihilatorOfUptoRow.holds Try.pinned (OpenSpec.upto fnExactAnnihilatorOfSpec)

/-- 'laws.FnExactDualBasis', WHERE WHAT IT READS IS OF BULK AT MOST 1048576: true; the input reads as it did. -/
def fnExactDualBasisUptoRow : OpenClaim := { program := "ytadeodcgnbmpnaa", sum := "3b9d86904616e73135718114a533bcf5af94cbdd16b492d5523c7d75693eb061", func := "loop.example/g01267/laws.FnExactDualBasis", spec := "fnExactDualBasis", unfollowed := true, recurses := true, apart := false, narrowed := true }
def FnExactDualBasisUptoSaid : Prop := fnExactDualBasisUptoRow.holds Try.pinned (OpenSpec.upto fnExactDualBasisSpec)

/-- 'laws.FnExactCopairingOf', WHERE WHAT IT READS IS OF BULK AT MOST 1048576: true; the input reads as it did. -/
def fnExactCopairingOfUptoRow : OpenClaim := { program := "ytadeodcgnbmpnaa", sum := "3b9d86904616e73135718114a533bcf5af94cbdd16b492d5523c7d75693eb061", func := "loop.example/g01267/laws.FnExactCopairingOf", spec := "fnExactCopairingOf", unfollowed := true, recurses := true, apart := false, narrowed := true }
def FnExactCopairingOfUptoSaid : Prop := fnExactCopairingOfUptoRow.holds Try.pinned (OpenSpec.upto fnExactCopairingOfSpec)

/-- 'laws.FnExactNilradicalOf', WHERE WHAT IT READS IS OF BULK AT MOST 1048576: true; the input reads as it did. -/
def fnExactNilradicalOfUptoRow : OpenClaim := { program := "ytadeodcgnbmpnaa", sum := "3b9d86904616e73135718114a533bcf5af94cbdd16b492d5523c7d75693eb061", func := "loop.example/g01267/laws.FnExactNilradicalOf", spec := "fnExactNilradicalOf", unfollowed := true, recurses := true, apart := false, narrowed := true }
def FnExactNilradicalOfUptoSaid : Prop := fnExactNilradicalOfUptoRow.holds Try.pinned (OpenSpec.upto fnExactNilradicalOfSpec)

/-- 'laws.FnExactSocleOf', WHERE WHAT IT READS IS OF BULK AT MOST 1048576: true; the input reads as it did. -/
def fnExactSocleOfUptoRow : OpenClaim := { program := "ytadeodcgnbmpnaa", sum := "3b9d86904616e73135718114a533bcf5af94cbdd16b492d5523c7d75693eb061", func := "loop.example/g01267/laws.FnExactSocleOf", spec := "fnExactSocleOf", unfollowed := true, recurses := true, apart := false, narrowed := true }
def FnExactSocleOfUptoSaid : Prop := fnExactSocleOfUptoRow.holds Try.pinned (OpenSpec.upto fnExactSocleOfSpec)

/-- 'laws.FnExactPowersOfNilradical', WHERE WHAT IT READS IS OF BULK AT MOST 1048576: true; the input reads as it did. -/
def fnExactPowersOfNilradicalUptoRow : OpenClaim := { program := "ytadeodcgnbmpnaa", sum := "3b9d86904616e73135718114a533bcf5af94cbdd16b492d5523c7d75693eb061", func := "loop.example/g01267/laws.FnExactPowersOfNilradical", spec := "fnExactPowersOfNilradical", unfollowed := true, recurses := true, apart := false, narrowed := true }
def FnExactPowersOfNilradicalUptoSaid : Prop := fnExactPowersOfNilradicalUptoRow.holds Try.pinned (OpenSpec.upto fnExactPowersOfNilradicalSpec)

/-- 'laws.FnExactCoproductOf', WHERE WHAT IT READS IS OF BULK AT MOST 1048576: true; the input reads as it did. -/
def fnExactCoproductOfUptoRow : OpenClaim := { program := "ytadeodcgnbmpnaa", sum := "3b9d86904616e73135718114a533bcf5af94cbdd16b492d5523c7d75693eb061", func := "loop.example/g01267/laws.FnExactCoproductOf", spec := "fnExactCoproductOf", unfollowed := true, recurses := true, apart := false, narrowed := true }
def FnExactCoproductOfUptoSaid : Prop := fnExactCoproductOfUptoRow.holds Try.pinned (OpenSpec.upto fnExactCoproductOfSpec)

end Rows
end Go.Proofs.Ytadeodcgnbmpnaa
