/-
  No cell of these rows narrows 'for every input' (looked for: loops, veiled, ifaces, maps, wideKeys, modest, calm, conditions, laid).
  DERIVED. THE GIVEN ROWS OF THIS SEAT. 12 by the template 'for every input the law returns true; each argument reads behind the call as it read before'; 0 by the template 'total and deterministic' (their statements: YtefpoahliopoiaaTotals.lean).
  GIVEN WITH THE SEED: the statements are not yours to turn. If you find one false, say at which input.
  Laid BY PROGRAM, IN A SANDBOX (cutbox-rows.mjs): the forced cells as the released guide's own fill.sh prints them over the translation 6b6504a3211beb54… (all of the seat's roots in one cut). By AI agents, Wed Nov 11 2026. No macro, syntax, notation, axiom, sorry.
-/
import Derived.Test.YtefpoahliopoiaaChecked
import GoSem.Claim
import GoSem.ClaimJoined
import GoSem.ClaimMapViews
import Derived.JoinedTies
import Derived.KernelRfl
namespace Go.Proofs.Ytefpoahliopoiaa
/- THE CELL 'sum', in the pinned program and in every row, IS THE sha256 OF THE DUMP (.gsa) THAT YtefpoahliopoiaaProg.lean LOADS. Nothing in Lean hashes anything: it is a label: what it is worth is what the hold of that sum in a sandbox is worth. -/
noncomputable def Try.pinned : Pinned := { name := "ytefpoahliopoiaa", sum := "6b6504a3211beb54e87c90d010123e033d7f24a619b8d16d2b040d813ecaf028", checked := Try.checked }
namespace Rows
def none {H : Type} : Left H := { results := [], args := [] }

/-- 'laws.FnExactIsIdempotent': WHATEVER THE INPUT: true; the input reads as it did. -/
def fnExactIsIdempotentSpec : ChangeSpec := { name := "fnExactIsIdempotent", fn := fun _ => fun
  | [d1, d2] => { results := [.lit (.bool true)], args := [d1, d2] }
  | _ => none }
def fnExactIsIdempotentRow : OpenClaim := { program := "ytefpoahliopoiaa", sum := "6b6504a3211beb54e87c90d010123e033d7f24a619b8d16d2b040d813ecaf028", func := "loop.example/g01267/laws.FnExactIsIdempotent", spec := "fnExactIsIdempotent", unfollowed := true, recurses := true, apart := false }
def FnExactIsIdempotentSaid : Prop := fnExactIsIdempotentRow.holds Try.pinned (OpenSpec.ofChange fnExactIsIdempotentSpec)

/-- ITS FALSE NEIGHBOUR: 'it returns false'. Refute it at one input. -/
def fnExactIsIdempotentWrong : ChangeSpec := { name := "fnExactIsIdempotent", fn := fun _ => fun
  | [d1, d2] => { results := [.lit (.bool false)], args := [d1, d2] }
  | _ => none }
def FnExactIsIdempotentWrongFalsely : Prop := fnExactIsIdempotentRow.holds Try.pinned (OpenSpec.ofChange fnExactIsIdempotentWrong)

/-- 'laws.FnExactTraceOf': WHATEVER THE INPUT: true; the input reads as it did. -/
def fnExactTraceOfSpec : ChangeSpec := { name := "fnExactTraceOf", fn := fun _ => fun
  | [d1, d2] => { results := [.lit (.bool true)], args := [d1, d2] }
  | _ => none }
def fnExactTraceOfRow : OpenClaim := { program := "ytefpoahliopoiaa", sum := "6b6504a3211beb54e87c90d010123e033d7f24a619b8d16d2b040d813ecaf028", func := "loop.example/g01267/laws.FnExactTraceOf", spec := "fnExactTraceOf", unfollowed := true, recurses := true, apart := false }
def FnExactTraceOfSaid : Prop := fnExactTraceOfRow.holds Try.pinned (OpenSpec.ofChange fnExactTraceOfSpec)

/-- ITS FALSE NEIGHBOUR: 'it returns false'. Refute it at one input. -/
def fnExactTraceOfWrong : ChangeSpec := { name := "fnExactTraceOf", fn := fun _ => fun
  | [d1, d2] => { results := [.lit (.bool false)], args := [d1, d2] }
  | _ => none }
def FnExactTraceOfWrongFalsely : Prop := fnExactTraceOfRow.holds Try.pinned (OpenSpec.ofChange fnExactTraceOfWrong)

/-- 'laws.FnExactMultiplyVectors': WHATEVER THE INPUT: true; the input reads as it did. -/
def fnExactMultiplyVectorsSpec : ChangeSpec := { name := "fnExactMultiplyVectors", fn := fun _ => fun
  | [d1, d2, d3] => { results := [.lit (.bool true)], args := [d1, d2, d3] }
  | _ => none }
def fnExactMultiplyVectorsRow : OpenClaim := { program := "ytefpoahliopoiaa", sum := "6b6504a3211beb54e87c90d010123e033d7f24a619b8d16d2b040d813ecaf028", func := "loop.example/g01267/laws.FnExactMultiplyVectors", spec := "fnExactMultiplyVectors", unfollowed := true, recurses := true, apart := false }
def FnExactMultiplyVectorsSaid : Prop := fnExactMultiplyVectorsRow.holds Try.pinned (OpenSpec.ofChange fnExactMultiplyVectorsSpec)

/-- ITS FALSE NEIGHBOUR: 'it returns false'. Refute it at one input. -/
def fnExactMultiplyVectorsWrong : ChangeSpec := { name := "fnExactMultiplyVectors", fn := fun _ => fun
  | [d1, d2, d3] => { results := [.lit (.bool false)], args := [d1, d2, d3] }
  | _ => none }
def FnExactMultiplyVectorsWrongFalsely : Prop := fnExactMultiplyVectorsRow.holds Try.pinned (OpenSpec.ofChange fnExactMultiplyVectorsWrong)

/-- 'laws.FnExactIsCommutative': WHATEVER THE INPUT: true; the input reads as it did. -/
def fnExactIsCommutativeSpec : ChangeSpec := { name := "fnExactIsCommutative", fn := fun _ => fun
  | [d] => { results := [.lit (.bool true)], args := [d] }
  | _ => none }
def fnExactIsCommutativeRow : OpenClaim := { program := "ytefpoahliopoiaa", sum := "6b6504a3211beb54e87c90d010123e033d7f24a619b8d16d2b040d813ecaf028", func := "loop.example/g01267/laws.FnExactIsCommutative", spec := "fnExactIsCommutative", unfollowed := true, recurses := true, apart := false }
def FnExactIsCommutativeSaid : Prop := fnExactIsCommutativeRow.holds Try.pinned (OpenSpec.ofChange fnExactIsCommutativeSpec)

/-- ITS FALSE NEIGHBOUR: 'it returns false'. Refute it at one input. -/
def fnExactIsCommutativeWrong : ChangeSpec := { name := "fnExactIsCommutative", fn := fun _ => fun
  | [d] => { results := [.lit (.bool false)], args := [d] }
  | _ => none }
def FnExactIsCommutativeWrongFalsely : Prop := fnExactIsCommutativeRow.holds Try.pinned (OpenSpec.ofChange fnExactIsCommutativeWrong)

/-- 'laws.FnExactFormOf': WHATEVER THE INPUT: true; the input reads as it did. -/
def fnExactFormOfSpec : ChangeSpec := { name := "fnExactFormOf", fn := fun _ => fun
  | [d1, d2] => { results := [.lit (.bool true)], args := [d1, d2] }
  | _ => none }
def fnExactFormOfRow : OpenClaim := { program := "ytefpoahliopoiaa", sum := "6b6504a3211beb54e87c90d010123e033d7f24a619b8d16d2b040d813ecaf028", func := "loop.example/g01267/laws.FnExactFormOf", spec := "fnExactFormOf", unfollowed := true, recurses := true, apart := false }
def FnExactFormOfSaid : Prop := fnExactFormOfRow.holds Try.pinned (OpenSpec.ofChange fnExactFormOfSpec)

/-- ITS FALSE NEIGHBOUR: 'it returns false'. Refute it at one input. -/
def fnExactFormOfWrong : ChangeSpec := { name := "fnExactFormOf", fn := fun _ => fun
  | [d1, d2] => { results := [.lit (.bool false)], args := [d1, d2] }
  | _ => none }
def FnExactFormOfWrongFalsely : Prop := fnExactFormOfRow.holds Try.pinned (OpenSpec.ofChange fnExactFormOfWrong)

/-- 'laws.FnExactPairVectors': WHATEVER THE INPUT: true; the input reads as it did. -/
def fnExactPairVectorsSpec : ChangeSpec := { name := "fnExactPairVectors", fn := fun _ => fun
  | [d1, d2, d3] => { results := [.lit (.bool true)], args := [d1, d2, d3] }
  | _ => none }
def fnExactPairVectorsRow : OpenClaim := { program := "ytefpoahliopoiaa", sum := "6b6504a3211beb54e87c90d010123e033d7f24a619b8d16d2b040d813ecaf028", func := "loop.example/g01267/laws.FnExactPairVectors", spec := "fnExactPairVectors", unfollowed := true, recurses := true, apart := false }
def FnExactPairVectorsSaid : Prop := fnExactPairVectorsRow.holds Try.pinned (OpenSpec.ofChange fnExactPairVectorsSpec)

/-- ITS FALSE NEIGHBOUR: 'it returns false'. Refute it at one input. -/
def fnExactPairVectorsWrong : ChangeSpec := { name := "fnExactPairVectors", fn := fun _ => fun
  | [d1, d2, d3] => { results := [.lit (.bool false)], args := [d1, d2, d3] }
  | _ => none }
def FnExactPairVectorsWrongFalsely : Prop := fnExactPairVectorsRow.holds Try.pinned (OpenSpec.ofChange fnExactPairVectorsWrong)

/-- 'laws.FnExactUnitOf': WHATEVER THE INPUT: true; the input reads as it did. -/
def fnExactUnitOfSpec : ChangeSpec := { name := "fnExactUnitOf", fn := fun _ => fun
  | [d] => { results := [.lit (.bool true)], args := [d] }
  | _ => none }
def fnExactUnitOfRow : OpenClaim := { program := "ytefpoahliopoiaa", sum := "6b6504a3211beb54e87c90d010123e033d7f24a619b8d16d2b040d813ecaf028", func := "loop.example/g01267/laws.FnExactUnitOf", spec := "fnExactUnitOf", unfollowed := true, recurses := true, apart := false }
def FnExactUnitOfSaid : Prop := fnExactUnitOfRow.holds Try.pinned (OpenSpec.ofChange fnExactUnitOfSpec)

/-- ITS FALSE NEIGHBOUR: 'it returns false'. Refute it at one input. -/
def fnExactUnitOfWrong : ChangeSpec := { name := "fnExactUnitOf", fn := fun _ => fun
  | [d] => { results := [.lit (.bool false)], args := [d] }
  | _ => none }
def FnExactUnitOfWrongFalsely : Prop := fnExactUnitOfRow.holds Try.pinned (OpenSpec.ofChange fnExactUnitOfWrong)

/-- 'laws.FnExactVectorText': WHATEVER THE INPUT: true; the input reads as it did. -/
def fnExactVectorTextSpec : ChangeSpec := { name := "fnExactVectorText", fn := fun _ => fun
  | [d1, d2] => { results := [.lit (.bool true)], args := [d1, d2] }
  | _ => none }
def fnExactVectorTextRow : OpenClaim := { program := "ytefpoahliopoiaa", sum := "6b6504a3211beb54e87c90d010123e033d7f24a619b8d16d2b040d813ecaf028", func := "loop.example/g01267/laws.FnExactVectorText", spec := "fnExactVectorText", unfollowed := true, recurses := true, apart := false }
def FnExactVectorTextSaid : Prop := fnExactVectorTextRow.holds Try.pinned (OpenSpec.ofChange fnExactVectorTextSpec)

/-- ITS FALSE NEIGHBOUR: 'it returns false'. Refute it at one input. -/
def fnExactVectorTextWrong : ChangeSpec := { name := "fnExactVectorText", fn := fun _ => fun
  | [d1, d2] => { results := [.lit (.bool false)], args := [d1, d2] }
  | _ => none }
def FnExactVectorTextWrongFalsely : Prop := fnExactVectorTextRow.holds Try.pinned (OpenSpec.ofChange fnExactVectorTextWrong)

/-- 'laws.FnExactNilIndex': WHATEVER THE INPUT: true; the input reads as it did. -/
def fnExactNilIndexSpec : ChangeSpec := { name := "fnExactNilIndex", fn := fun _ => fun
  | [d1, d2] => { results := [.lit (.bool true)], args := [d1, d2] }
  | _ => none }
def fnExactNilIndexRow : OpenClaim := { program := "ytefpoahliopoiaa", sum := "6b6504a3211beb54e87c90d010123e033d7f24a619b8d16d2b040d813ecaf028", func := "loop.example/g01267/laws.FnExactNilIndex", spec := "fnExactNilIndex", unfollowed := true, recurses := true, apart := false }
def FnExactNilIndexSaid : Prop := fnExactNilIndexRow.holds Try.pinned (OpenSpec.ofChange fnExactNilIndexSpec)

/-- ITS FALSE NEIGHBOUR: 'it returns false'. Refute it at one input. -/
def fnExactNilIndexWrong : ChangeSpec := { name := "fnExactNilIndex", fn := fun _ => fun
  | [d1, d2] => { results := [.lit (.bool false)], args := [d1, d2] }
  | _ => none }
def FnExactNilIndexWrongFalsely : Prop := fnExactNilIndexRow.holds Try.pinned (OpenSpec.ofChange fnExactNilIndexWrong)

/-- 'laws.FnExactAddVectors': WHATEVER THE INPUT: true; the input reads as it did. -/
def fnExactAddVectorsSpec : ChangeSpec := { name := "fnExactAddVectors", fn := fun _ => fun
  | [d1, d2, d3, d4] => { results := [.lit (.bool true)], args := [d1, d2, d3, d4] }
  | _ => none }
def fnExactAddVectorsRow : OpenClaim := { program := "ytefpoahliopoiaa", sum := "6b6504a3211beb54e87c90d010123e033d7f24a619b8d16d2b040d813ecaf028", func := "loop.example/g01267/laws.FnExactAddVectors", spec := "fnExactAddVectors", unfollowed := true, recurses := true, apart := false }
def FnExactAddVectorsSaid : Prop := fnExactAddVectorsRow.holds Try.pinned (OpenSpec.ofChange fnExactAddVectorsSpec)

/-- ITS FALSE NEIGHBOUR: 'it returns false'. Refute it at one input. -/
def fnExactAddVectorsWrong : ChangeSpec := { name := "fnExactAddVectors", fn := fun _ => fun
  | [d1, d2, d3, d4] => { results := [.lit (.bool false)], args := [d1, d2, d3, d4] }
  | _ => none }
def FnExactAddVectorsWrongFalsely : Prop := fnExactAddVectorsRow.holds Try.pinned (OpenSpec.ofChange fnExactAddVectorsWrong)

/-- 'laws.FnExactIsFrobenius': WHATEVER THE INPUT: true; the input reads as it did. -/
def fnExactIsFrobeniusSpec : ChangeSpec := { name := "fnExactIsFrobenius", fn := fun _ => fun
  | [d] => { results := [.lit (.bool true)], args := [d] }
  | _ => none }
def fnExactIsFrobeniusRow : OpenClaim := { program := "ytefpoahliopoiaa", sum := "6b6504a3211beb54e87c90d010123e033d7f24a619b8d16d2b040d813ecaf028", func := "loop.example/g01267/laws.FnExactIsFrobenius", spec := "fnExactIsFrobenius", unfollowed := true, recurses := true, apart := false }
def FnExactIsFrobeniusSaid : Prop := fnExactIsFrobeniusRow.holds Try.pinned (OpenSpec.ofChange fnExactIsFrobeniusSpec)

/-- ITS FALSE NEIGHBOUR: 'it returns false'. Refute it at one input. -/
def fnExactIsFrobeniusWrong : ChangeSpec := { name := "fnExactIsFrobenius", fn := fun _ => fun
  | [d] => { results := [.lit (.bool false)], args := [d] }
  | _ => none }
def FnExactIsFrobeniusWrongFalsely : Prop := fnExactIsFrobeniusRow.holds Try.pinned (OpenSpec.ofChange fnExactIsFrobeniusWrong)

/-- 'laws.FnExactPowerVector': WHATEVER THE INPUT: true; the input reads as it did. -/
def fnExactPowerVectorSpec : ChangeSpec := { name := "fnExactPowerVector", fn := fun _ => fun
  | [d1, d2, d3] => { results := [.lit (.bool true)], args := [d1, d2, d3] }
  | _ => none }
def fnExactPowerVectorRow : OpenClaim := { program := "ytefpoahliopoiaa", sum := "6b6504a3211beb54e87c90d010123e033d7f24a619b8d16d2b040d813ecaf028", func := "loop.example/g01267/laws.FnExactPowerVector", spec := "fnExactPowerVector", unfollowed := true, recurses := true, apart := false }
def FnExactPowerVectorSaid : Prop := fnExactPowerVectorRow.holds Try.pinned (OpenSpec.ofChange fnExactPowerVectorSpec)

/-- ITS FALSE NEIGHBOUR: 'it returns false'. Refute it at one input. -/
def fnExactPowerVectorWrong : ChangeSpec := { name := "fnExactPowerVector", fn := fun _ => fun
  | [d1, d2, d3] => { results := [.lit (.bool false)], args := [d1, d2, d3] }
  | _ => none }
def FnExactPowerVectorWrongFalsely : Prop := fnExactPowerVectorRow.holds Try.pinned (OpenSpec.ofChange fnExactPowerVectorWrong)

/- THE SECOND FORM. 'bulk': how many values and letters a reading holds, each counted each time it is reached (what is shared counts as often as it is met; a slice's spare places count too). A statement '..UptoSaid' is the law's where the arguments, and the package variables that the reading takes, are together of bulk at most 1048576: NARROWER than '..Said'. Prove '..Said' where nothing that the law and all that it calls make is longer than what came in: it says more and counts as full. Else prove '..UptoSaid'. A law counts once. -/
mutual
def uptoBulk {H : Type} : DataW H → Nat
  | .lit (.string bytes) => bytes.length + 1
  | .lit _ => 1
  | .nil => 1
  | .ptr d => uptoBulk d + 1
  | .slice elems spare => uptoBulkAll elems + uptoBulkAll spare + 1
  | .agg parts => uptoBulkAll parts + 1
  | .iface _ d => uptoBulk d + 1
  | .map entries => uptoBulkEntries entries + 1
  | .held _ => 1
def uptoBulkAll {H : Type} : List (DataW H) → Nat
  | [] => 0
  | d :: r => uptoBulk d + uptoBulkAll r
def uptoBulkEntries {H : Type} : List (Lit × DataW H) → Nat
  | [] => 0
  | x :: r => uptoBulkEntry x + uptoBulkEntries r
def uptoBulkEntry {H : Type} : Lit × DataW H → Nat
  | (.string bytes, d) => bytes.length + uptoBulk d + 1
  | (_, d) => uptoBulk d + 1
 end
def uptoSmall : (H : Type) → List (DataW H) → Bool := fun _ ds => decide (uptoBulkAll ds ≤ 1048576)
def OpenSpec.upto (s : _root_.Go.ChangeSpec) : _root_.Go.OpenSpec := { _root_.Go.OpenSpec.ofChange s with cond := some uptoSmall }

/-- 'laws.FnExactIsIdempotent', WHERE WHAT IT READS IS OF BULK AT MOST 1048576: true; the input reads as it did. -/
def fnExactIsIdempotentUptoRow : OpenClaim := { program := "ytefpoahliopoiaa", sum := "6b6504a3211beb54e87c90d010123e033d7f24a619b8d16d2b040d813ecaf028", func := "loop.example/g01267/laws.FnExactIsIdempotent", spec := "fnExactIsIdempotent", unfollowed := true, recurses := true, apart := false, narrowed := true }
def FnExactIsIdempotentUptoSaid : Prop := fnExactIsIdempotentUptoRow.holds Try.pinned (OpenSpec.upto fnExactIsIdempotentSpec)

/-- 'laws.FnExactTraceOf', WHERE WHAT IT READS IS OF BULK AT MOST 1048576: true; the input reads as it did. -/
def fnExactTraceOfUptoRow : OpenClaim := { program := "ytefpoahliopoiaa", sum := "6b6504a3211beb54e87c90d010123e033d7f24a619b8d16d2b040d813ecaf028", func := "loop.example/g01267/laws.FnExactTraceOf", spec := "fnExactTraceOf", unfollowed := true, recurses := true, apart := false, narrowed := true }
def FnExactTraceOfUptoSaid : Prop := fnExactTraceOfUptoRow.holds Try.pinned (OpenSpec.upto fnExactTraceOfSpec)

/-- 'laws.FnExactMultiplyVectors', WHERE WHAT IT READS IS OF BULK AT MOST 1048576: true; the input reads as it did. -/
def fnExactMultiplyVectorsUptoRow : OpenClaim := { program := "ytefpoahliopoiaa", sum := "6b6504a3211beb54e87c90d010123e033d7f24a619b8d16d2b040d813ecaf028", func := "loop.example/g01267/laws.FnExactMultiplyVectors", spec := "fnExactMultiplyVectors", unfollowed := true, recurses := true, apart := false, narrowed := true }
def FnExactMultiplyVectorsUptoSaid : Prop := fnExactMultiplyVectorsUptoRow.holds Try.pinned (OpenSpec.upto fnExactMultiplyVectorsSpec)

/-- 'laws.FnExactIsCommutative', WHERE WHAT IT READS IS OF BULK AT MOST 1048576: true; the input reads as it did. -/
def fnExactIsCommutativeUptoRow : OpenClaim := { program := "ytefpoahliopoiaa", sum := "6b6504a3211beb54e87c90d010123e033d7f24a619b8d16d2b040d813ecaf028", func := "loop.example/g01267/laws.FnExactIsCommutative", spec := "fnExactIsCommutative", unfollowed := true, recurses := true, apart := false, narrowed := true }
def FnExactIsCommutativeUptoSaid : Prop := fnExactIsCommutativeUptoRow.holds Try.pinned (OpenSpec.upto fnExactIsCommutativeSpec)

/-- 'laws.FnExactFormOf', WHERE WHAT IT READS IS OF BULK AT MOST 1048576: true; the input reads as it did. -/
def fnExactFormOfUptoRow : OpenClaim := { program := "ytefpoahliopoiaa", sum := "6b6504a3211beb54e87c90d010123e033d7f24a619b8d16d2b040d813ecaf028", func := "loop.example/g01267/laws.FnExactFormOf", spec := "fnExactFormOf", unfollowed := true, recurses := true, apart := false, narrowed := true }
def FnExactFormOfUptoSaid : Prop := fnExactFormOfUptoRow.holds Try.pinned (OpenSpec.upto fnExactFormOfSpec)

/-- 'laws.FnExactPairVectors', WHERE WHAT IT READS IS OF BULK AT MOST 1048576: true; the input reads as it did. -/
def fnExactPairVectorsUptoRow : OpenClaim := { program := "ytefpoahliopoiaa", sum := "6b6504a3211beb54e87c90d010123e033d7f24a619b8d16d2b040d813ecaf028", func := "loop.example/g01267/laws.FnExactPairVectors", spec := "fnExactPairVectors", unfollowed := true, recurses := true, apart := false, narrowed := true }
def FnExactPairVectorsUptoSaid : Prop := fnExactPairVectorsUptoRow.holds Try.pinned (OpenSpec.upto fnExactPairVectorsSpec)

/-- 'laws.FnExactUnitOf', WHERE WHAT IT READS IS OF BULK AT MOST 1048576: true; the input reads as it did. -/
def fnExactUnitOfUptoRow : OpenClaim := { program := "ytefpoahliopoiaa", sum := "6b6504a3211beb54e87c90d010123e033d7f24a619b8d16d2b040d813ecaf028", func := "loop.example/g01267/laws.FnExactUnitOf", spec := "fnExactUnitOf", unfollowed := true, recurses := true, apart := false, narrowed := true }
def FnExactUnitOfUptoSaid : Prop := fnExactUnitOfUptoRow.holds Try.pinned (OpenSpec.upto fnExactUnitOfSpec)

/-- 'laws.FnExactVectorText', WHERE WHAT IT READS IS OF BULK AT MOST 1048576: true; the input reads as it did. -/
def fnExactVectorTextUptoRow : OpenClaim := { program := "ytefpoahliopoiaa", sum := "6b6504a3211beb54e87c90d010123e033d7f24a619b8d16d2b040d813ecaf028", func := "loop.example/g01267/laws.FnExactVectorText", spec := "fnExactVectorText", unfollowed := true, recurses := true, apart := false, narrowed := true }
def FnExactVectorTextUptoSaid : Prop := fnExactVectorTextUptoRow.holds Try.pinned (OpenSpec.upto fnExactVectorTextSpec)

/-- 'laws.FnExactNilIndex', WHERE WHAT IT READS IS OF BULK AT MOST 1048576: true; the input reads as it did. -/
def fnExactNilIndexUptoRow : OpenClaim := { program := "ytefpoahliopoiaa", sum := "6b6504a3211beb54e87c90d010123e033d7f24a619b8d16d2b040d813ecaf028", func := "loop.example/g01267/laws.FnExactNilIndex", spec := "fnExactNilIndex", unfollowed := true, recurses := true, apart := false, narrowed := true }
def FnExactNilIndexUptoSaid : Prop := fnExactNilIndexUptoRow.holds Try.pinned (OpenSpec.upto fnExactNilIndexSpec)

/-- 'laws.FnExactAddVectors', WHERE WHAT IT READS IS OF BULK AT MOST 1048576: true; the input reads as it did. -/
def fnExactAddVectorsUptoRow : OpenClaim := { program := "ytefpoahliopoiaa", sum := "6b6504a3211beb54e87c90d010123e033d7f24a619b8d16d2b040d813ecaf028", func := "loop.example/g01267/laws.FnExactAddVectors", spec := "fnExactAddVectors", unfollowed := true, recurses := true, apart := false, narrowed := true }
def FnExactAddVectorsUptoSaid : Prop := fnExactAddVectorsUptoRow.holds Try.pinned (OpenSpec.upto fnExactAddVectorsSpec)

/-- 'laws.FnExactIsFrobenius', WHERE WHAT IT READS IS OF BULK AT MOST 1048576: true; the input reads as it did. -/
def fnExactIsFrobeniusUptoRow : OpenClaim := { program := "ytefpoahliopoiaa", sum := "6b6504a3211beb54e87c90d010123e033d7f24a619b8d16d2b040d813ecaf028", func := "loop.example/g01267/laws.FnExactIsFrobenius", spec := "fnExactIsFrobenius", unfollowed := true, recurses := true, apart := false, narrowed := true }
def FnExactIsFrobeniusUptoSaid : Prop := fnExactIsFrobeniusUptoRow.holds Try.pinned (OpenSpec.upto fnExactIsFrobeniusSpec)

/-- 'laws.FnExactPowerVector', WHERE WHAT IT READS IS OF BULK AT MOST 1048576: true; the input reads as it did. -/
def fnExactPowerVectorUptoRow : OpenClaim := { program := "ytefpoahliopoiaa", sum := "6b6504a3211beb54e87c90d010123e033d7f24a619b8d16d2b040d813ecaf028", func := "loop.example/g01267/laws.FnExactPowerVector", spec := "fnExactPowerVector", unfollowed := true, recurses := true, apart := false, narrowed := true }
def FnExactPowerVectorUptoSaid : Prop := fnExactPowerVectorUptoRow.holds Try.pinned (OpenSpec.upto fnExactPowerVectorSpec)

end Rows
end Go.Proofs.Ytefpoahliopoiaa
