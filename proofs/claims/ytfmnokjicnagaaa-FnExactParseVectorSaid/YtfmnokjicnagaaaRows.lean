/-
  No cell of these rows narrows 'for every input' (looked for: loops, veiled, ifaces, maps, wideKeys, modest, calm, conditions, laid).
  DERIVED. THE GIVEN ROWS OF THIS SEAT. 12 by the template 'for every input the law returns true; each argument reads behind the call as it read before'; 0 by the template 'total and deterministic' (their statements: YtfmnokjicnagaaaTotals.lean).
  GIVEN WITH THE SEED: the statements are not yours to turn. If you find one false, say at which input.
  Laid BY PROGRAM, IN A SANDBOX (cutbox-rows.mjs): the forced cells as the released guide's own fill.sh prints them over the translation 1487f0c72e30ce6b… (all of the seat's roots in one cut). By AI agents, Wed Nov 11 2026. No macro, syntax, notation, axiom, sorry.
-/
import Derived.Test.YtfmnokjicnagaaaChecked
import GoSem.Claim
import GoSem.ClaimJoined
import GoSem.ClaimMapViews
import Derived.JoinedTies
import Derived.KernelRfl
namespace Go.Proofs.Ytfmnokjicnagaaa
/- THE CELL 'sum', in the pinned program and in every row, IS THE sha256 OF THE DUMP (.gsa) THAT YtfmnokjicnagaaaProg.lean LOADS. Nothing in Lean hashes anything: it is a label: what it is worth is what the hold of that sum in a sandbox is worth. -/
noncomputable def Try.pinned : Pinned := { name := "ytfmnokjicnagaaa", sum := "1487f0c72e30ce6b16778bacf989e5c0f6fb04b4f5388e7b2ad7a02456221dfd", checked := Try.checked }
namespace Rows
def none {H : Type} : Left H := { results := [], args := [] }

/-- 'laws.FnExactIsInvertible': WHATEVER THE INPUT: true; the input reads as it did. -/
def fnExactIsInvertibleSpec : ChangeSpec := { name := "fnExactIsInvertible", fn := fun _ => fun
  | [d1, d2] => { results := [.lit (.bool true)], args := [d1, d2] }
  | _ => none }
def fnExactIsInvertibleRow : OpenClaim := { program := "ytfmnokjicnagaaa", sum := "1487f0c72e30ce6b16778bacf989e5c0f6fb04b4f5388e7b2ad7a02456221dfd", func := "loop.example/g01267/laws.FnExactIsInvertible", spec := "fnExactIsInvertible", unfollowed := true, recurses := true, apart := false }
def FnExactIsInvertibleSaid : Prop := fnExactIsInvertibleRow.holds Try.pinned (OpenSpec.ofChange fnExactIsInvertibleSpec)

/-- ITS FALSE NEIGHBOUR: 'it returns false'. Refute it at one input. -/
def fnExactIsInvertibleWrong : ChangeSpec := { name := "fnExactIsInvertible", fn := fun _ => fun
  | [d1, d2] => { results := [.lit (.bool false)], args := [d1, d2] }
  | _ => none }
def FnExactIsInvertibleWrongFalsely : Prop := fnExactIsInvertibleRow.holds Try.pinned (OpenSpec.ofChange fnExactIsInvertibleWrong)

/-- 'laws.FnExactIsSymmetric': WHATEVER THE INPUT: true; the input reads as it did. -/
def fnExactIsSymmetricSpec : ChangeSpec := { name := "fnExactIsSymmetric", fn := fun _ => fun
  | [d] => { results := [.lit (.bool true)], args := [d] }
  | _ => none }
def fnExactIsSymmetricRow : OpenClaim := { program := "ytfmnokjicnagaaa", sum := "1487f0c72e30ce6b16778bacf989e5c0f6fb04b4f5388e7b2ad7a02456221dfd", func := "loop.example/g01267/laws.FnExactIsSymmetric", spec := "fnExactIsSymmetric", unfollowed := true, recurses := true, apart := false }
def FnExactIsSymmetricSaid : Prop := fnExactIsSymmetricRow.holds Try.pinned (OpenSpec.ofChange fnExactIsSymmetricSpec)

/-- ITS FALSE NEIGHBOUR: 'it returns false'. Refute it at one input. -/
def fnExactIsSymmetricWrong : ChangeSpec := { name := "fnExactIsSymmetric", fn := fun _ => fun
  | [d] => { results := [.lit (.bool false)], args := [d] }
  | _ => none }
def FnExactIsSymmetricWrongFalsely : Prop := fnExactIsSymmetricRow.holds Try.pinned (OpenSpec.ofChange fnExactIsSymmetricWrong)

/-- 'laws.FnExactInverseVector': WHATEVER THE INPUT: true; the input reads as it did. -/
def fnExactInverseVectorSpec : ChangeSpec := { name := "fnExactInverseVector", fn := fun _ => fun
  | [d1, d2] => { results := [.lit (.bool true)], args := [d1, d2] }
  | _ => none }
def fnExactInverseVectorRow : OpenClaim := { program := "ytfmnokjicnagaaa", sum := "1487f0c72e30ce6b16778bacf989e5c0f6fb04b4f5388e7b2ad7a02456221dfd", func := "loop.example/g01267/laws.FnExactInverseVector", spec := "fnExactInverseVector", unfollowed := true, recurses := true, apart := false }
def FnExactInverseVectorSaid : Prop := fnExactInverseVectorRow.holds Try.pinned (OpenSpec.ofChange fnExactInverseVectorSpec)

/-- ITS FALSE NEIGHBOUR: 'it returns false'. Refute it at one input. -/
def fnExactInverseVectorWrong : ChangeSpec := { name := "fnExactInverseVector", fn := fun _ => fun
  | [d1, d2] => { results := [.lit (.bool false)], args := [d1, d2] }
  | _ => none }
def FnExactInverseVectorWrongFalsely : Prop := fnExactInverseVectorRow.holds Try.pinned (OpenSpec.ofChange fnExactInverseVectorWrong)

/-- 'laws.FnExactParseVector': WHATEVER THE INPUT: true; the input reads as it did. -/
def fnExactParseVectorSpec : ChangeSpec := { name := "fnExactParseVector", fn := fun _ => fun
  | [d1, d2] => { results := [.lit (.bool true)], args := [d1, d2] }
  | _ => none }
def fnExactParseVectorRow : OpenClaim := { program := "ytfmnokjicnagaaa", sum := "1487f0c72e30ce6b16778bacf989e5c0f6fb04b4f5388e7b2ad7a02456221dfd", func := "loop.example/g01267/laws.FnExactParseVector", spec := "fnExactParseVector", inPlace := ["internal/bytealg.IndexByteString"], unfollowed := true, recurses := true, apart := false }
def FnExactParseVectorSaid : Prop := fnExactParseVectorRow.holds Try.pinned (OpenSpec.ofChange fnExactParseVectorSpec)

/-- ITS FALSE NEIGHBOUR: 'it returns false'. Refute it at one input. -/
def fnExactParseVectorWrong : ChangeSpec := { name := "fnExactParseVector", fn := fun _ => fun
  | [d1, d2] => { results := [.lit (.bool false)], args := [d1, d2] }
  | _ => none }
def FnExactParseVectorWrongFalsely : Prop := fnExactParseVectorRow.holds Try.pinned (OpenSpec.ofChange fnExactParseVectorWrong)

/-- 'laws.FnExactOppositeAlgebra': WHATEVER THE INPUT: true; the input reads as it did. -/
def fnExactOppositeAlgebraSpec : ChangeSpec := { name := "fnExactOppositeAlgebra", fn := fun _ => fun
  | [d] => { results := [.lit (.bool true)], args := [d] }
  | _ => none }
def fnExactOppositeAlgebraRow : OpenClaim := { program := "ytfmnokjicnagaaa", sum := "1487f0c72e30ce6b16778bacf989e5c0f6fb04b4f5388e7b2ad7a02456221dfd", func := "loop.example/g01267/laws.FnExactOppositeAlgebra", spec := "fnExactOppositeAlgebra", unfollowed := true, recurses := true, apart := false }
def FnExactOppositeAlgebraSaid : Prop := fnExactOppositeAlgebraRow.holds Try.pinned (OpenSpec.ofChange fnExactOppositeAlgebraSpec)

/-- ITS FALSE NEIGHBOUR: 'it returns false'. Refute it at one input. -/
def fnExactOppositeAlgebraWrong : ChangeSpec := { name := "fnExactOppositeAlgebra", fn := fun _ => fun
  | [d] => { results := [.lit (.bool false)], args := [d] }
  | _ => none }
def FnExactOppositeAlgebraWrongFalsely : Prop := fnExactOppositeAlgebraRow.holds Try.pinned (OpenSpec.ofChange fnExactOppositeAlgebraWrong)

/-- 'laws.FnExactAddAlgebras': WHATEVER THE INPUT: true; the input reads as it did. -/
def fnExactAddAlgebrasSpec : ChangeSpec := { name := "fnExactAddAlgebras", fn := fun _ => fun
  | [d1, d2] => { results := [.lit (.bool true)], args := [d1, d2] }
  | _ => none }
def fnExactAddAlgebrasRow : OpenClaim := { program := "ytfmnokjicnagaaa", sum := "1487f0c72e30ce6b16778bacf989e5c0f6fb04b4f5388e7b2ad7a02456221dfd", func := "loop.example/g01267/laws.FnExactAddAlgebras", spec := "fnExactAddAlgebras", unfollowed := true, recurses := true, apart := false }
def FnExactAddAlgebrasSaid : Prop := fnExactAddAlgebrasRow.holds Try.pinned (OpenSpec.ofChange fnExactAddAlgebrasSpec)

/-- ITS FALSE NEIGHBOUR: 'it returns false'. Refute it at one input. -/
def fnExactAddAlgebrasWrong : ChangeSpec := { name := "fnExactAddAlgebras", fn := fun _ => fun
  | [d1, d2] => { results := [.lit (.bool false)], args := [d1, d2] }
  | _ => none }
def FnExactAddAlgebrasWrongFalsely : Prop := fnExactAddAlgebrasRow.holds Try.pinned (OpenSpec.ofChange fnExactAddAlgebrasWrong)

/-- 'laws.FnExactMinimalPolynomial': WHATEVER THE INPUT: true; the input reads as it did. -/
def fnExactMinimalPolynomialSpec : ChangeSpec := { name := "fnExactMinimalPolynomial", fn := fun _ => fun
  | [d1, d2] => { results := [.lit (.bool true)], args := [d1, d2] }
  | _ => none }
def fnExactMinimalPolynomialRow : OpenClaim := { program := "ytfmnokjicnagaaa", sum := "1487f0c72e30ce6b16778bacf989e5c0f6fb04b4f5388e7b2ad7a02456221dfd", func := "loop.example/g01267/laws.FnExactMinimalPolynomial", spec := "fnExactMinimalPolynomial", unfollowed := true, recurses := true, apart := false }
def FnExactMinimalPolynomialSaid : Prop := fnExactMinimalPolynomialRow.holds Try.pinned (OpenSpec.ofChange fnExactMinimalPolynomialSpec)

/-- ITS FALSE NEIGHBOUR: 'it returns false'. Refute it at one input. -/
def fnExactMinimalPolynomialWrong : ChangeSpec := { name := "fnExactMinimalPolynomial", fn := fun _ => fun
  | [d1, d2] => { results := [.lit (.bool false)], args := [d1, d2] }
  | _ => none }
def FnExactMinimalPolynomialWrongFalsely : Prop := fnExactMinimalPolynomialRow.holds Try.pinned (OpenSpec.ofChange fnExactMinimalPolynomialWrong)

/-- 'laws.FnExactIdentityStar': WHATEVER THE INPUT: true; the input reads as it did. -/
def fnExactIdentityStarSpec : ChangeSpec := { name := "fnExactIdentityStar", fn := fun _ => fun
  | [d] => { results := [.lit (.bool true)], args := [d] }
  | _ => none }
def fnExactIdentityStarRow : OpenClaim := { program := "ytfmnokjicnagaaa", sum := "1487f0c72e30ce6b16778bacf989e5c0f6fb04b4f5388e7b2ad7a02456221dfd", func := "loop.example/g01267/laws.FnExactIdentityStar", spec := "fnExactIdentityStar", unfollowed := true, recurses := true, apart := false }
def FnExactIdentityStarSaid : Prop := fnExactIdentityStarRow.holds Try.pinned (OpenSpec.ofChange fnExactIdentityStarSpec)

/-- ITS FALSE NEIGHBOUR: 'it returns false'. Refute it at one input. -/
def fnExactIdentityStarWrong : ChangeSpec := { name := "fnExactIdentityStar", fn := fun _ => fun
  | [d] => { results := [.lit (.bool false)], args := [d] }
  | _ => none }
def FnExactIdentityStarWrongFalsely : Prop := fnExactIdentityStarRow.holds Try.pinned (OpenSpec.ofChange fnExactIdentityStarWrong)

/-- 'laws.FnExactTensorAlgebras': WHATEVER THE INPUT: true; the input reads as it did. -/
def fnExactTensorAlgebrasSpec : ChangeSpec := { name := "fnExactTensorAlgebras", fn := fun _ => fun
  | [d1, d2] => { results := [.lit (.bool true)], args := [d1, d2] }
  | _ => none }
def fnExactTensorAlgebrasRow : OpenClaim := { program := "ytfmnokjicnagaaa", sum := "1487f0c72e30ce6b16778bacf989e5c0f6fb04b4f5388e7b2ad7a02456221dfd", func := "loop.example/g01267/laws.FnExactTensorAlgebras", spec := "fnExactTensorAlgebras", unfollowed := true, recurses := true, apart := false }
def FnExactTensorAlgebrasSaid : Prop := fnExactTensorAlgebrasRow.holds Try.pinned (OpenSpec.ofChange fnExactTensorAlgebrasSpec)

/-- ITS FALSE NEIGHBOUR: 'it returns false'. Refute it at one input. -/
def fnExactTensorAlgebrasWrong : ChangeSpec := { name := "fnExactTensorAlgebras", fn := fun _ => fun
  | [d1, d2] => { results := [.lit (.bool false)], args := [d1, d2] }
  | _ => none }
def FnExactTensorAlgebrasWrongFalsely : Prop := fnExactTensorAlgebrasRow.holds Try.pinned (OpenSpec.ofChange fnExactTensorAlgebrasWrong)

/-- 'laws.FnExactFormTable': WHATEVER THE INPUT: true; the input reads as it did. -/
def fnExactFormTableSpec : ChangeSpec := { name := "fnExactFormTable", fn := fun _ => fun
  | [d] => { results := [.lit (.bool true)], args := [d] }
  | _ => none }
def fnExactFormTableRow : OpenClaim := { program := "ytfmnokjicnagaaa", sum := "1487f0c72e30ce6b16778bacf989e5c0f6fb04b4f5388e7b2ad7a02456221dfd", func := "loop.example/g01267/laws.FnExactFormTable", spec := "fnExactFormTable", unfollowed := true, recurses := true, apart := false }
def FnExactFormTableSaid : Prop := fnExactFormTableRow.holds Try.pinned (OpenSpec.ofChange fnExactFormTableSpec)

/-- ITS FALSE NEIGHBOUR: 'it returns false'. Refute it at one input. -/
def fnExactFormTableWrong : ChangeSpec := { name := "fnExactFormTable", fn := fun _ => fun
  | [d] => { results := [.lit (.bool false)], args := [d] }
  | _ => none }
def FnExactFormTableWrongFalsely : Prop := fnExactFormTableRow.holds Try.pinned (OpenSpec.ofChange fnExactFormTableWrong)

/-- 'laws.FnExactIsStar': WHATEVER THE INPUT: true; the input reads as it did. -/
def fnExactIsStarSpec : ChangeSpec := { name := "fnExactIsStar", fn := fun _ => fun
  | [d1, d2] => { results := [.lit (.bool true)], args := [d1, d2] }
  | _ => none }
def fnExactIsStarRow : OpenClaim := { program := "ytfmnokjicnagaaa", sum := "1487f0c72e30ce6b16778bacf989e5c0f6fb04b4f5388e7b2ad7a02456221dfd", func := "loop.example/g01267/laws.FnExactIsStar", spec := "fnExactIsStar", unfollowed := true, recurses := true, apart := false }
def FnExactIsStarSaid : Prop := fnExactIsStarRow.holds Try.pinned (OpenSpec.ofChange fnExactIsStarSpec)

/-- ITS FALSE NEIGHBOUR: 'it returns false'. Refute it at one input. -/
def fnExactIsStarWrong : ChangeSpec := { name := "fnExactIsStar", fn := fun _ => fun
  | [d1, d2] => { results := [.lit (.bool false)], args := [d1, d2] }
  | _ => none }
def FnExactIsStarWrongFalsely : Prop := fnExactIsStarRow.holds Try.pinned (OpenSpec.ofChange fnExactIsStarWrong)

/-- 'laws.FnExactApplyStar': WHATEVER THE INPUT: true; the input reads as it did. -/
def fnExactApplyStarSpec : ChangeSpec := { name := "fnExactApplyStar", fn := fun _ => fun
  | [d1, d2, d3] => { results := [.lit (.bool true)], args := [d1, d2, d3] }
  | _ => none }
def fnExactApplyStarRow : OpenClaim := { program := "ytfmnokjicnagaaa", sum := "1487f0c72e30ce6b16778bacf989e5c0f6fb04b4f5388e7b2ad7a02456221dfd", func := "loop.example/g01267/laws.FnExactApplyStar", spec := "fnExactApplyStar", unfollowed := true, recurses := true, apart := false }
def FnExactApplyStarSaid : Prop := fnExactApplyStarRow.holds Try.pinned (OpenSpec.ofChange fnExactApplyStarSpec)

/-- ITS FALSE NEIGHBOUR: 'it returns false'. Refute it at one input. -/
def fnExactApplyStarWrong : ChangeSpec := { name := "fnExactApplyStar", fn := fun _ => fun
  | [d1, d2, d3] => { results := [.lit (.bool false)], args := [d1, d2, d3] }
  | _ => none }
def FnExactApplyStarWrongFalsely : Prop := fnExactApplyStarRow.holds Try.pinned (OpenSpec.ofChange fnExactApplyStarWrong)

/- THE SECOND FORM. 'bulk': how many values and letters a reading holds, each counted each time it is reached (what is shared counts as often as it is met; a slice's spare places count too). A statement '..UptoSaid' is the law's where the arguments, and the package variables that the reading takes, are together of bulk at most 1048576: NARROWER than '..Said'. Prove '..Said' where nothing that the law and all that it calls make is longer than what came in: it says more and counts as full. Else prove '..UptoSaid'. A law counts once. -/
mutual
def uptoBulk {H : Type} : DataW H → Nat
  | .lit (.string bytes) => bytes.length + 1
  | .lit _ => 1
  | .nil => 1
  | .ptr d => uptoBulk d + 1
  | .slice elems spare => uptoBulkAll elems + uptoBulkAll spare + 1
  | .agg parts => uptoBulkAll parts + 1
  | .iface _ d => uptoBulk d + 1
  | .map entries => uptoBulkEntries entries + 1
  | .held _ => 1
def uptoBulkAll {H : Type} : List (DataW H) → Nat
  | [] => 0
  | d :: r => uptoBulk d + uptoBulkAll r
def uptoBulkEntries {H : Type} : List (Lit × DataW H) → Nat
  | [] => 0
  | x :: r => uptoBulkEntry x + uptoBulkEntries r
def uptoBulkEntry {H : Type} : Lit × DataW H → Nat
  | (.string bytes, d) => bytes.length + uptoBulk d + 1
  | (_, d) => uptoBulk d + 1
 end
def uptoSmall : (H : Type) → List (DataW H) → Bool := fun _ ds => decide (uptoBulkAll ds ≤ 1048576)
def OpenSpec.upto (s : _root_.Go.ChangeSpec) : _root_.Go.OpenSpec := { _root_.Go.OpenSpec.ofChange s with cond := some uptoSmall }

/-- 'laws.FnExactIsInvertible', WHERE WHAT IT READS IS OF BULK AT MOST 1048576: true; the input reads as it did. -/
def fnExactIsInvertibleUptoRow : OpenClaim := { program := "ytfmnokjicnagaaa", sum := "1487f0c72e30ce6b16778bacf989e5c0f6fb04b4f5388e7b2ad7a02456221dfd", func := "loop.example/g01267/laws.FnExactIsInvertible", spec := "fnExactIsInvertible", unfollowed := true, recurses := true, apart := false, narrowed := true }
def FnExactIsInvertibleUptoSaid : Prop := fnExactIsInvertibleUptoRow.holds Try.pinned (OpenSpec.upto fnExactIsInvertibleSpec)

/-- 'laws.FnExactIsSymmetric', WHERE WHAT IT READS IS OF BULK AT MOST 1048576: true; the input reads as it did. -/
def fnExactIsSymmetricUptoRow : OpenClaim := { program := "ytfmnokjicnagaaa", sum := "1487f0c72e30ce6b16778bacf989e5c0f6fb04b4f5388e7b2ad7a02456221dfd", func := "loop.example/g01267/laws.FnExactIsSymmetric", spec := "fnExactIsSymmetric", unfollowed := true, recurses := true, apart := false, narrowed := true }
def FnExactIsSymmetricUptoSaid : Prop := fnExactIsSymmetricUptoRow.holds Try.pinned (OpenSpec.upto fnExactIsSymmetricSpec)

/-- 'laws.FnExactInverseVector', WHERE WHAT IT READS IS OF BULK AT MOST 1048576: true; the input reads as it did. -/
def fnExactInverseVectorUptoRow : OpenClaim := { program := "ytfmnokjicnagaaa", sum := "1487f0c72e30ce6b16778bacf989e5c0f6fb04b4f5388e7b2ad7a02456221dfd", func := "loop.example/g01267/laws.FnExactInverseVector", spec := "fnExactInverseVector", unfollowed := true, recurses := true, apart := false, narrowed := true }
def FnExactInverseVectorUptoSaid : Prop := fnExactInverseVectorUptoRow.holds Try.pinned (OpenSpec.upto fnExactInverseVectorSpec)

/-- 'laws.FnExactParseVector', WHERE WHAT IT READS IS OF BULK AT MOST 1048576: true; the input reads as it did. -/
def fnExactParseVectorUptoRow : OpenClaim := { program := "ytfmnokjicnagaaa", sum := "1487f0c72e30ce6b16778bacf989e5c0f6fb04b4f5388e7b2ad7a02456221dfd", func := "loop.example/g01267/laws.FnExactParseVector", spec := "fnExactParseVector", inPlace := ["internal/bytealg.IndexByteString"], unfollowed := true, recurses := true, apart := false, narrowed := true }
def FnExactParseVectorUptoSaid : Prop := fnExactParseVectorUptoRow.holds Try.pinned (OpenSpec.upto fnExactParseVectorSpec)

/-- 'laws.FnExactOppositeAlgebra', WHERE WHAT IT READS IS OF BULK AT MOST 1048576: true; the input reads as it did. -/
def fnExactOppositeAlgebraUptoRow : OpenClaim := { program := "ytfmnokjicnagaaa", sum := "1487f0c72e30ce6b16778bacf989e5c0f6fb04b4f5388e7b2ad7a02456221dfd", func := "loop.example/g01267/laws.FnExactOppositeAlgebra", spec := "fnExactOppositeAlgebra", unfollowed := true, recurses := true, apart := false, narrowed := true }
def FnExactOppositeAlgebraUptoSaid : Prop := fnExactOppositeAlgebraUptoRow.holds Try.pinned (OpenSpec.upto fnExactOppositeAlgebraSpec)

/-- 'laws.FnExactAddAlgebras', WHERE WHAT IT READS IS OF BULK AT MOST 1048576: true; the input reads as it did. -/
def fnExactAddAlgebrasUptoRow : OpenClaim := { program := "ytfmnokjicnagaaa", sum := "1487f0c72e30ce6b16778bacf989e5c0f6fb04b4f5388e7b2ad7a02456221dfd", func := "loop.example/g01267/laws.FnExactAddAlgebras", spec := "fnExactAddAlgebras", unfollowed := true, recurses := true, apart := false, narrowed := true }
def FnExactAddAlgebrasUptoSaid : Prop := fnExactAddAlgebrasUptoRow.holds Try.pinned (OpenSpec.upto fnExactAddAlgebrasSpec)

/-- 'laws.FnExactMinimalPolynomial', WHERE WHAT IT READS IS OF BULK AT MOST 1048576: true; the input reads as it did. -/
def fnExactMinimalPolynomialUptoRow : OpenClaim := { program := "ytfmnokjicnagaaa", sum := "1487f0c72e30ce6b16778bacf989e5c0f6fb04b4f5388e7b2ad7a02456221dfd", func := "loop.example/g01267/laws.FnExactMinimalPolynomial", spec := "fnExactMinimalPolynomial", unfollowed := true, recurses := true, apart := false, narrowed := true }
def FnExactMinimalPolynomialUptoSaid : Prop := fnExactMinimalPolynomialUptoRow.holds Try.pinned (OpenSpec.upto fnExactMinimalPolynomialSpec)

/-- 'laws.FnExactIdentityStar', WHERE WHAT IT READS IS OF BULK AT MOST 1048576: true; the input reads as it did. -/
def fnExactIdentityStarUptoRow : OpenClaim := { program := "ytfmnokjicnagaaa", sum := "1487f0c72e30ce6b16778bacf989e5c0f6fb04b4f5388e7b2ad7a02456221dfd", func := "loop.example/g01267/laws.FnExactIdentityStar", spec := "fnExactIdentityStar", unfollowed := true, recurses := true, apart := false, narrowed := true }
def FnExactIdentityStarUptoSaid : Prop := fnExactIdentityStarUptoRow.holds Try.pinned (OpenSpec.upto fnExactIdentityStarSpec)

/-- 'laws.FnExactTensorAlgebras', WHERE WHAT IT READS IS OF BULK AT MOST 1048576: true; the input reads as it did. -/
def fnExactTensorAlgebrasUptoRow : OpenClaim := { program := "ytfmnokjicnagaaa", sum := "1487f0c72e30ce6b16778bacf989e5c0f6fb04b4f5388e7b2ad7a02456221dfd", func := "loop.example/g01267/laws.FnExactTensorAlgebras", spec := "fnExactTensorAlgebras", unfollowed := true, recurses := true, apart := false, narrowed := true }
def FnExactTensorAlgebrasUptoSaid : Prop := fnExactTensorAlgebrasUptoRow.holds Try.pinned (OpenSpec.upto fnExactTensorAlgebrasSpec)

/-- 'laws.FnExactFormTable', WHERE WHAT IT READS IS OF BULK AT MOST 1048576: true; the input reads as it did. -/
def fnExactFormTableUptoRow : OpenClaim := { program := "ytfmnokjicnagaaa", sum := "1487f0c72e30ce6b16778bacf989e5c0f6fb04b4f5388e7b2ad7a02456221dfd", func := "loop.example/g01267/laws.FnExactFormTable", spec := "fnExactFormTable", unfollowed := true, recurses := true, apart := false, narrowed := true }
def FnExactFormTableUptoSaid : Prop := fnExactFormTableUptoRow.holds Try.pinned (OpenSpec.upto fnExactFormTableSpec)

/-- 'laws.FnExactIsStar', WHERE WHAT IT READS IS OF BULK AT MOST 1048576: true; the input reads as it did. -/
def fnExactIsStarUptoRow : OpenClaim := { program := "ytfmnokjicnagaaa", sum := "1487f0c72e30ce6b16778bacf989e5c0f6fb04b4f5388e7b2ad7a02456221dfd", func := "loop.example/g01267/laws.FnExactIsStar", spec := "fnExactIsStar", unfollowed := true, recurses := true, apart := false, narrowed := true }
def FnExactIsStarUptoSaid : Prop := fnExactIsStarUptoRow.holds Try.pinned (OpenSpec.upto fnExactIsStarSpec)

/-- 'laws.FnExactApplyStar', WHERE WHAT IT READS IS OF BULK AT MOST 1048576: true; the input reads as it did. -/
def fnExactApplyStarUptoRow : OpenClaim := { program := "ytfmnokjicnagaaa", sum := "1487f0c72e30ce6b16778bacf989e5c0f6fb04b4f5388e7b2ad7a02456221dfd", func := "loop.example/g01267/laws.FnExactApplyStar", spec := "fnExactApplyStar", unfollowed := true, recurses := true, apart := false, narrowed := true }
def FnExactApplyStarUptoSaid : Prop := fnExactApplyStarUptoRow.holds Try.pinned (OpenSpec.upto fnExactApplyStarSpec)

end Rows
end Go.Proofs.Ytfmnokjicnagaaa
