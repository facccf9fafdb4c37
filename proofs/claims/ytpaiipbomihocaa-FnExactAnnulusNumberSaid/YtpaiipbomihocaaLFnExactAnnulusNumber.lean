import Derived.Test.YtpaiipbomihocaaPart6
import Derived.Test.YtpaiipbomihocaaRows
/- THE LAW FnExactAnnulusNumber: for every input the call returns true, and each argument reads afterwards as it read before. The conditions: none. My own work. -/
namespace Go.Proofs.Ytpaiipbomihocaa.fnExactAnnulusNumberDone
open Go.ChangeShapes Go.WideShapes Go.ChangeAt Go.RowKit Go.Am
open Go.ChangeMaps (open_string shut_string)
set_option linter.unusedVariables false
theorem own : ownKnob Try.prog.godebug = none := by kernel_rfl
theorem laidOut : laidOutB Try.prog = true := by kernel_rfl
set_option maxRecDepth 100000 in
theorem lifted (os : Os) (started : os.Started) (H : Type) (enc : TypeId × Value → H) :
    ReturnsInHanded {} Try.checked os 12 .any (Rows.fnExactAnnulusNumberSpec.pre6 enc Try.prog Try.f12 Rows.fnExactAnnulusNumberRow.domain false) (Rows.fnExactAnnulusNumberSpec.post enc Try.prog Try.f12 false true false false) := by
  refine returnsInHanded_of_change (C := Try.checked) own started (by kernel_rfl) Try.func12
    (ChangeSpec.witness6 (enc := enc) (C := Try.checked) false ⟨#[], #[.agg ⟨(.int .i64 0 :: .int .i64 0 :: List.replicate 222 (.int .u8 0)) ++ ((.int .i64 0 :: .int .i64 0 :: List.replicate 222 (.int .u8 0)) ++ List.replicate 36 (.int .u8 0))⟩, .agg ⟨List.replicate 6 (.int .u8 0)⟩, .agg ⟨List.replicate 6 (.int .u8 0)⟩], []⟩ 8 (by kernel_rfl) (by kernel_rfl) (by kernel_rfl) (by kernel_rfl)) ?_
  intro W base args ds gs before hval0 hW hcnd _
  have hval : ∀ (j : Nat) t v, Try.f12.params[j]? = some t → args[j]? = some v → Value.okWide Try.prog W .any base t v := hval0
  have hW' := hW
  obtain ⟨p, q, hA0, hV, rfl, hfz, hnd⟩ := hW
  have hA : DataW.TrodAll enc Try.prog W 0 (fun _ => true) true Try.f12.params.toList args.toList ds p := hA0
  rw [Try.params12] at hA hval
  obtain ⟨v0, vs0, d0, ds0, p0, q0, hargs, rfl, rfl, h0, r0⟩ := trodAll_cons hA
  obtain ⟨v1, vs1, d1, ds1, p1, q1, rfl, rfl, rfl, h1, r1⟩ := trodAll_cons r0
  obtain ⟨v2, vs2, d2, ds2, p2, q2, rfl, rfl, rfl, h2, r2⟩ := trodAll_cons r1
  obtain ⟨rfl, rfl, rfl⟩ := trodAll_nil r2
  obtain rfl : args = #[v0, v1, v2] := by cases args; simp_all
  obtain ⟨rfl, rfl⟩ := trodVars_none hV
  have k0 := h0
  have lt0 : ∀ x ∈ p0, x.block < W.heap.size := by obtain ⟨m, hm⟩ := k0; exact DataW.trod_lt m _ _ _ hm
  obtain ⟨cs0, z0, rfl, hs0, hz0⟩ := open_agg (N := 484) (ts := (2 :: 2 :: List.replicate 222 5) ++ ((2 :: 2 :: List.replicate 222 5) ++ List.replicate 36 5)) (kd := kdP) ⟨_, Try.underlying50, .inl ⟨_, rfl⟩⟩ (by kernel_rfl) (by kernel_rfl) (by kernel_rfl) (kd_pair Try.underlying2 Try.underlying5) (hval 0 50 v0 rfl rfl)
  have k1 := h1
  have lt1 : ∀ x ∈ p1, x.block < W.heap.size := by obtain ⟨m, hm⟩ := k1; exact DataW.trod_lt m _ _ _ hm
  obtain ⟨cs1, z1, rfl, hs1, hz1⟩ := open_agg (N := 6) (ts := List.replicate 6 5) (kd := fun _ => .u8) ⟨_, Try.underlying22, .inr ⟨_, _, rfl⟩⟩ (by kernel_rfl) (by kernel_rfl) (by kernel_rfl) (kd_rep Try.underlying5) (hval 1 22 v1 rfl rfl)
  have k2 := h2
  have lt2 : ∀ x ∈ p2, x.block < W.heap.size := by obtain ⟨m, hm⟩ := k2; exact DataW.trod_lt m _ _ _ hm
  obtain ⟨cs2, z2, rfl, hs2, hz2⟩ := open_agg (N := 6) (ts := List.replicate 6 5) (kd := fun _ => .u8) ⟨_, Try.underlying22, .inr ⟨_, _, rfl⟩⟩ (by kernel_rfl) (by kernel_rfl) (by kernel_rfl) (kd_rep Try.underlying5) (hval 2 22 v2 rfl rfl)
  clear hA0 hval0
  refine (law_walk (law_AnnulusNumber (alg_RB (pr_h0 (fun i hi => (hz0 i hi).2))) (alg_RV (pr_h0 (fun i hi => (hz0 i hi).2))) (alg_RB (pr_h1 (fun i hi => (hz0 i hi).2))) (alg_RV (pr_h1 (fun i hi => (hz0 i hi).2))) (pr_RV (fun i hi => (hz0 i hi).2)) (vec_RV (fun i hi => (hz1 i hi).2)) (vec_RV (fun i hi => (hz2 i hi).2))) W [.agg cs0, .agg cs1, .agg cs2] ⟨pr_in hs0 hz0, vec_in hs1 hz1, vec_in hs2 hz2, trivial⟩).mono fun e W' ⟨he, bel⟩ => ?_
  subst he
  exact ⟨_, rfl, _, _, _, [], _, [], hW', trodAll_mk1 (shut_bool Try.underlying4 _), (trodAll_cons_mk (Below.trod laidOut (by kernel_rfl) (of_decide_eq_true (by kernel_rfl)) k0 bel lt0) (trodAll_cons_mk (Below.trod laidOut (by kernel_rfl) (of_decide_eq_true (by kernel_rfl)) k1 bel lt1) (trodAll_cons_mk (Below.trod laidOut (by kernel_rfl) (of_decide_eq_true (by kernel_rfl)) k2 bel lt2) trodAll_mk0))), rfl, bel.frame _, fun h => by cases h⟩
theorem over : Rows.fnExactAnnulusNumberRow.holds Try.pinned (OpenSpec.ofChange Rows.fnExactAnnulusNumberSpec) :=
  OpenClaim.holds_of_wide 12 Try.f12 rfl rfl rfl rfl rfl rfl rfl ⟨rfl, rfl, rfl, rfl, rfl⟩ rfl rfl rfl rfl rfl (by kernel_rfl) Try.func12 (by kernel_rfl)
    (of_decide_eq_true (by kernel_rfl)) (by unfold Func.isWrapper; first | (rw [if_pos (by decide +kernel)]; kernel_rfl) | (rw [if_neg (by decide +kernel)]; exact ⟨rfl, rfl⟩))
    (fun os started H enc _ => lifted os started H enc)
end Go.Proofs.Ytpaiipbomihocaa.fnExactAnnulusNumberDone
namespace Go.Proofs.Ytpaiipbomihocaa
theorem fnExactAnnulusNumber_holds : Rows.FnExactAnnulusNumberSaid := fnExactAnnulusNumberDone.over
#print axioms fnExactAnnulusNumber_holds
end Go.Proofs.Ytpaiipbomihocaa
