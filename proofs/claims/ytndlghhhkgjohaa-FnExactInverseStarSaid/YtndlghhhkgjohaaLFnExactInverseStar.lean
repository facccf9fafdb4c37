import Derived.Test.YtndlghhhkgjohaaPart4
import Derived.Test.YtndlghhhkgjohaaRows
/- THE LAW FnExactInverseStar: for every input the call returns true, and each argument reads afterwards as it read before. The conditions: none. My own work. -/
namespace Go.Proofs.Ytndlghhhkgjohaa.fnExactInverseStarDone
open Go.ChangeShapes Go.WideShapes Go.ChangeAt Go.RowKit Go.Am
open Go.ChangeMaps (open_string shut_string)
set_option linter.unusedVariables false
theorem own : ownKnob Try.prog.godebug = none := by kernel_rfl
theorem laidOut : laidOutB Try.prog = true := by kernel_rfl
set_option maxRecDepth 100000 in
theorem lifted (os : Os) (started : os.Started) (H : Type) (enc : TypeId × Value → H) :
    ReturnsInHanded {} Try.checked os 6 .any (Rows.fnExactInverseStarSpec.pre6 enc Try.prog Try.f6 Rows.fnExactInverseStarRow.domain false) (Rows.fnExactInverseStarSpec.post enc Try.prog Try.f6 false true false false) := by
  refine returnsInHanded_of_change (C := Try.checked) own started (by kernel_rfl) Try.func6
    (ChangeSpec.witness6 (enc := enc) (C := Try.checked) false ⟨#[], #[.int .i64 0, .agg ⟨.int .i64 0 :: List.replicate 36 (.int .u8 0)⟩], []⟩ 8 (by kernel_rfl) (by kernel_rfl) (by kernel_rfl) (by kernel_rfl)) ?_
  intro W base args ds gs before hval0 hW hcnd _
  have hval : ∀ (j : Nat) t v, Try.f6.params[j]? = some t → args[j]? = some v → Value.okWide Try.prog W .any base t v := hval0
  have hW' := hW
  obtain ⟨p, q, hA0, hV, rfl, hfz, hnd⟩ := hW
  have hA : DataW.TrodAll enc Try.prog W 0 (fun _ => true) true Try.f6.params.toList args.toList ds p := hA0
  rw [Try.params6] at hA hval
  obtain ⟨v0, vs0, d0, ds0, p0, q0, hargs, rfl, rfl, h0, r0⟩ := trodAll_cons hA
  obtain ⟨v1, vs1, d1, ds1, p1, q1, rfl, rfl, rfl, h1, r1⟩ := trodAll_cons r0
  obtain ⟨rfl, rfl, rfl⟩ := trodAll_nil r1
  obtain rfl : args = #[v0, v1] := by cases args; simp_all
  obtain ⟨rfl, rfl⟩ := trodVars_none hV
  obtain ⟨a0, rfl, rfl, rfl, w0⟩ := open_int Try.underlying2 (hval 0 2 v0 rfl rfl) h0
  have k1 := h1
  have lt1 : ∀ x ∈ p1, x.block < W.heap.size := by obtain ⟨m, hm⟩ := k1; exact DataW.trod_lt m _ _ _ hm
  obtain ⟨cs1, z1, rfl, hs1, hz1⟩ := open_agg (N := 37) (ts := 2 :: List.replicate 36 5) (kd := kdG) ⟨_, Try.underlying34, .inl ⟨_, rfl⟩⟩ (by kernel_rfl) (by kernel_rfl) (by kernel_rfl) (kd_grp Try.underlying2 Try.underlying5) (hval 1 34 v1 rfl rfl)
  clear hA0 hval0
  refine (law_walk (law_InverseStar (a0) (grp_RG (fun i hi => (hz1 i hi).2))) W [.int .i64 a0, .agg cs1] ⟨rfl, grp_in hs1 hz1, trivial⟩).mono fun e W' ⟨he, bel⟩ => ?_
  subst he
  exact ⟨_, rfl, _, _, _, [], _, [], hW', trodAll_mk1 (shut_bool Try.underlying4 _), (trodAll_cons_mk (shut_int Try.underlying2 w0) (trodAll_cons_mk (Below.trod laidOut (by kernel_rfl) (of_decide_eq_true (by kernel_rfl)) k1 bel lt1) trodAll_mk0)), rfl, bel.frame _, fun h => by cases h⟩
theorem over : Rows.fnExactInverseStarRow.holds Try.pinned (OpenSpec.ofChange Rows.fnExactInverseStarSpec) :=
  OpenClaim.holds_of_wide 6 Try.f6 rfl rfl rfl rfl rfl rfl rfl ⟨rfl, rfl, rfl, rfl, rfl⟩ rfl rfl rfl rfl rfl (by kernel_rfl) Try.func6 (by kernel_rfl)
    (of_decide_eq_true (by kernel_rfl)) (by unfold Func.isWrapper; first | (rw [if_pos (by decide +kernel)]; kernel_rfl) | (rw [if_neg (by decide +kernel)]; exact ⟨rfl, rfl⟩))
    (fun os started H enc _ => lifted os started H enc)
end Go.Proofs.Ytndlghhhkgjohaa.fnExactInverseStarDone
namespace Go.Proofs.Ytndlghhhkgjohaa
theorem fnExactInverseStar_holds : Rows.FnExactInverseStarSaid := fnExactInverseStarDone.over
#print axioms fnExactInverseStar_holds
end Go.Proofs.Ytndlghhhkgjohaa
