/-
  No cell of these rows narrows 'for every input' (looked for: loops, veiled, ifaces, maps, wideKeys, modest, calm, conditions, laid).
  DERIVED. THE GIVEN ROWS OF THIS SEAT. 5 by the template 'for every input the law returns true; each argument reads behind the call as it read before'; 0 by the template 'total and deterministic' (their statements: YtndlghhhkgjohaaTotals.lean).
  GIVEN WITH THE SEED: the statements are not yours to turn. If you find one false, say at which input.
  Laid BY PROGRAM, IN A SANDBOX (cutbox-rows.mjs): the forced cells as the released guide's own fill.sh prints them over the translation 6f9c73298a7b88fa… (all of the seat's roots in one cut). By AI agents, Wed Nov 11 2026. No macro, syntax, notation, axiom, sorry.
-/
import Derived.Test.YtndlghhhkgjohaaChecked
import GoSem.Claim
import GoSem.ClaimJoined
import GoSem.ClaimMapViews
import Derived.JoinedTies
import Derived.KernelRfl
namespace Go.Proofs.Ytndlghhhkgjohaa
/- THE CELL 'sum', in the pinned program and in every row, IS THE sha256 OF THE DUMP (.gsa) THAT YtndlghhhkgjohaaProg.lean LOADS. Nothing in Lean hashes anything: it is a label: what it is worth is what the hold of that sum in a sandbox is worth. -/
noncomputable def Try.pinned : Pinned := { name := "ytndlghhhkgjohaa", sum := "6f9c73298a7b88fada85603e3bc38ccd8e26f1682f32489afcdbe33a5dde991f", checked := Try.checked }
namespace Rows
def none {H : Type} : Left H := { results := [], args := [] }

/-- 'laws.FnExactNewDesk': WHATEVER THE INPUT: true; the input reads as it did. -/
def fnExactNewDeskSpec : ChangeSpec := { name := "fnExactNewDesk", fn := fun _ => fun
  | [] => { results := [.lit (.bool true)], args := [] }
  | _ => none }
def fnExactNewDeskRow : OpenClaim := { program := "ytndlghhhkgjohaa", sum := "6f9c73298a7b88fada85603e3bc38ccd8e26f1682f32489afcdbe33a5dde991f", func := "loop.example/g01267/laws.FnExactNewDesk", spec := "fnExactNewDesk", unfollowed := true, recurses := true, apart := false }
def FnExactNewDeskSaid : Prop := fnExactNewDeskRow.holds Try.pinned (OpenSpec.ofChange fnExactNewDeskSpec)

/-- ITS FALSE NEIGHBOUR: 'it returns false'. Refute it at one input. -/
def fnExactNewDeskWrong : ChangeSpec := { name := "fnExactNewDesk", fn := fun _ => fun
  | [] => { results := [.lit (.bool false)], args := [] }
  | _ => none }
def FnExactNewDeskWrongFalsely : Prop := fnExactNewDeskRow.holds Try.pinned (OpenSpec.ofChange fnExactNewDeskWrong)

/-- 'laws.FnExactClassesOf': WHATEVER THE INPUT: true; the input reads as it did. -/
def fnExactClassesOfSpec : ChangeSpec := { name := "fnExactClassesOf", fn := fun _ => fun
  | [d] => { results := [.lit (.bool true)], args := [d] }
  | _ => none }
def fnExactClassesOfRow : OpenClaim := { program := "ytndlghhhkgjohaa", sum := "6f9c73298a7b88fada85603e3bc38ccd8e26f1682f32489afcdbe33a5dde991f", func := "loop.example/g01267/laws.FnExactClassesOf", spec := "fnExactClassesOf", recurses := true, apart := false }
def FnExactClassesOfSaid : Prop := fnExactClassesOfRow.holds Try.pinned (OpenSpec.ofChange fnExactClassesOfSpec)

/-- ITS FALSE NEIGHBOUR: 'it returns false'. Refute it at one input. -/
def fnExactClassesOfWrong : ChangeSpec := { name := "fnExactClassesOf", fn := fun _ => fun
  | [d] => { results := [.lit (.bool false)], args := [d] }
  | _ => none }
def FnExactClassesOfWrongFalsely : Prop := fnExactClassesOfRow.holds Try.pinned (OpenSpec.ofChange fnExactClassesOfWrong)

/-- 'laws.FnExactSquareVector': WHATEVER THE INPUT: true; the input reads as it did. -/
def fnExactSquareVectorSpec : ChangeSpec := { name := "fnExactSquareVector", fn := fun _ => fun
  | [d1, d2] => { results := [.lit (.bool true)], args := [d1, d2] }
  | _ => none }
def fnExactSquareVectorRow : OpenClaim := { program := "ytndlghhhkgjohaa", sum := "6f9c73298a7b88fada85603e3bc38ccd8e26f1682f32489afcdbe33a5dde991f", func := "loop.example/g01267/laws.FnExactSquareVector", spec := "fnExactSquareVector", recurses := true, apart := false }
def FnExactSquareVectorSaid : Prop := fnExactSquareVectorRow.holds Try.pinned (OpenSpec.ofChange fnExactSquareVectorSpec)

/-- ITS FALSE NEIGHBOUR: 'it returns false'. Refute it at one input. -/
def fnExactSquareVectorWrong : ChangeSpec := { name := "fnExactSquareVector", fn := fun _ => fun
  | [d1, d2] => { results := [.lit (.bool false)], args := [d1, d2] }
  | _ => none }
def FnExactSquareVectorWrongFalsely : Prop := fnExactSquareVectorRow.holds Try.pinned (OpenSpec.ofChange fnExactSquareVectorWrong)

/-- 'laws.FnExactInverseStar': WHATEVER THE INPUT: true; the input reads as it did. -/
def fnExactInverseStarSpec : ChangeSpec := { name := "fnExactInverseStar", fn := fun _ => fun
  | [d1, d2] => { results := [.lit (.bool true)], args := [d1, d2] }
  | _ => none }
def fnExactInverseStarRow : OpenClaim := { program := "ytndlghhhkgjohaa", sum := "6f9c73298a7b88fada85603e3bc38ccd8e26f1682f32489afcdbe33a5dde991f", func := "loop.example/g01267/laws.FnExactInverseStar", spec := "fnExactInverseStar", unfollowed := true, recurses := true, apart := false }
def FnExactInverseStarSaid : Prop := fnExactInverseStarRow.holds Try.pinned (OpenSpec.ofChange fnExactInverseStarSpec)

/-- ITS FALSE NEIGHBOUR: 'it returns false'. Refute it at one input. -/
def fnExactInverseStarWrong : ChangeSpec := { name := "fnExactInverseStar", fn := fun _ => fun
  | [d1, d2] => { results := [.lit (.bool false)], args := [d1, d2] }
  | _ => none }
def FnExactInverseStarWrongFalsely : Prop := fnExactInverseStarRow.holds Try.pinned (OpenSpec.ofChange fnExactInverseStarWrong)

/-- 'laws.FnExactClassAlgebra': WHATEVER THE INPUT: true; the input reads as it did. -/
def fnExactClassAlgebraSpec : ChangeSpec := { name := "fnExactClassAlgebra", fn := fun _ => fun
  | [d1, d2] => { results := [.lit (.bool true)], args := [d1, d2] }
  | _ => none }
def fnExactClassAlgebraRow : OpenClaim := { program := "ytndlghhhkgjohaa", sum := "6f9c73298a7b88fada85603e3bc38ccd8e26f1682f32489afcdbe33a5dde991f", func := "loop.example/g01267/laws.FnExactClassAlgebra", spec := "fnExactClassAlgebra", recurses := true, apart := false }
def FnExactClassAlgebraSaid : Prop := fnExactClassAlgebraRow.holds Try.pinned (OpenSpec.ofChange fnExactClassAlgebraSpec)

/-- ITS FALSE NEIGHBOUR: 'it returns false'. Refute it at one input. -/
def fnExactClassAlgebraWrong : ChangeSpec := { name := "fnExactClassAlgebra", fn := fun _ => fun
  | [d1, d2] => { results := [.lit (.bool false)], args := [d1, d2] }
  | _ => none }
def FnExactClassAlgebraWrongFalsely : Prop := fnExactClassAlgebraRow.holds Try.pinned (OpenSpec.ofChange fnExactClassAlgebraWrong)

/- THE SECOND FORM. 'bulk': how many values and letters a reading holds, each counted each time it is reached (what is shared counts as often as it is met; a slice's spare places count too). A statement '..UptoSaid' is the law's where the arguments, and the package variables that the reading takes, are together of bulk at most 1048576: NARROWER than '..Said'. Prove '..Said' where nothing that the law and all that it calls make is longer than what came in: it says more and counts as full. Else prove '..UptoSaid'. A law counts once. -/
mutual
def uptoBulk {H : Type} : DataW H → Nat
  | .lit (.string bytes) => bytes.length + 1
  | .lit _ => 1
  | .nil => 1
  | .ptr d => uptoBulk d + 1
  | .slice elems spare => uptoBulkAll elems + uptoBulkAll spare + 1
  | .agg parts => uptoBulkAll parts + 1
  | .iface _ d => uptoBulk d + 1
  | .map entries => uptoBulkEntries entries + 1
  | .held _ => 1
def uptoBulkAll {H : Type} : List (DataW H) → Nat
  | [] => 0
  | d :: r => uptoBulk d + uptoBulkAll r
def uptoBulkEntries {H : Type} : List (Lit × DataW H) → Nat
  | [] => 0
  | x :: r => uptoBulkEntry x + uptoBulkEntries r
def uptoBulkEntry {H : Type} : Lit × DataW H → Nat
  | (.string bytes, d) => bytes.length + uptoBulk d + 1
  | (_, d) => uptoBulk d + 1
 end
def uptoSmall : (H : Type) → List (DataW H) → Bool := fun _ ds => decide (uptoBulkAll ds ≤ 1048576)
def OpenSpec.upto (s : _root_.Go.ChangeSpec) : _root_.Go.OpenSpec := { _root_.Go.OpenSpec.ofChange s with cond := some uptoSmall }

/-- 'laws.FnExactNewDesk', WHERE WHAT IT READS IS OF BULK AT MOST 1048576: true; the input reads as it did. -/
def fnExactNewDeskUptoRow : OpenClaim := { program := "ytndlghhhkgjohaa", sum := "6f9c73298a7b88fada85603e3bc38ccd8e26f1682f32489afcdbe33a5dde991f", func := "loop.example/g01267/laws.FnExactNewDesk", spec := "fnExactNewDesk", unfollowed := true, recurses := true, apart := false, narrowed := true }
def FnExactNewDeskUptoSaid : Prop := fnExactNewDeskUptoRow.holds Try.pinned (OpenSpec.upto fnExactNewDeskSpec)

/-- 'laws.FnExactClassesOf', WHERE WHAT IT READS IS OF BULK AT MOST 1048576: true; the input reads as it did. -/
def fnExactClassesOfUptoRow : OpenClaim := { program := "ytndlghhhkgjohaa", sum := "6f9c73298a7b88fada85603e3bc38ccd8e26f1682f32489afcdbe33a5dde991f", func := "loop.example/g01267/laws.FnExactClassesOf", spec := "fnExactClassesOf", recurses := true, apart := false, narrowed := true }
def FnExactClassesOfUptoSaid : Prop := fnExactClassesOfUptoRow.holds Try.pinned (OpenSpec.upto fnExactClassesOfSpec)

/-- 'laws.FnExactSquareVector', WHERE WHAT IT READS IS OF BULK AT MOST 1048576: true; the input reads as it did. -/
def fnExactSquareVectorUptoRow : OpenClaim := { program := "ytndlghhhkgjohaa", sum := "6f9c73298a7b88fada85603e3bc38ccd8e26f1682f32489afcdbe33a5dde991f", func := "loop.example/g01267/laws.FnExactSquareVector", spec := "fnExactSquareVector", recurses := true, apart := false, narrowed := true }
def FnExactSquareVectorUptoSaid : Prop := fnExactSquareVectorUptoRow.holds Try.pinned (OpenSpec.upto fnExactSquareVectorSpec)

/-- 'laws.FnExactInverseStar', WHERE WHAT IT READS IS OF BULK AT MOST 1048576: true; the input reads as it did. -/
def fnExactInverseStarUptoRow : OpenClaim := { program := "ytndlghhhkgjohaa", sum := "6f9c73298a7b88fada85603e3bc38ccd8e26f1682f32489afcdbe33a5dde991f", func := "loop.example/g01267/laws.FnExactInverseStar", spec := "fnExactInverseStar", unfollowed := true, recurses := true, apart := false, narrowed := true }
def FnExactInverseStarUptoSaid : Prop := fnExactInverseStarUptoRow.holds Try.pinned (OpenSpec.upto fnExactInverseStarSpec)

/-- 'laws.FnExactClassAlgebra', WHERE WHAT IT READS IS OF BULK AT MOST 1048576: true; the input reads as it did. -/
def fnExactClassAlgebraUptoRow : OpenClaim := { program := "ytndlghhhkgjohaa", sum := "6f9c73298a7b88fada85603e3bc38ccd8e26f1682f32489afcdbe33a5dde991f", func := "loop.example/g01267/laws.FnExactClassAlgebra", spec := "fnExactClassAlgebra", recurses := true, apart := false, narrowed := true }
def FnExactClassAlgebraUptoSaid : Prop := fnExactClassAlgebraUptoRow.holds Try.pinned (OpenSpec.upto fnExactClassAlgebraSpec)

end Rows
end Go.Proofs.Ytndlghhhkgjohaa
