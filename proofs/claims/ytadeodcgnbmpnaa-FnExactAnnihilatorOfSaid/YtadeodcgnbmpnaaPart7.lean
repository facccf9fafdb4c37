/- Part 7 of what the law stands on: abstract values, their walk, contracts of functions. My own work. Conditions: none. -/
import Derived.Test.YtadeodcgnbmpnaaPart6
set_option linter.unusedVariables false
set_option linter.unusedSimpArgs false
set_option maxRecDepth 4000
namespace Go.Am
attribute [local irreducible] retQ retQp
open Go.Proofs
theorem c_sAnnihilatorOf_ok {p : Int} {n : Nat} {T : Nat → Nat → Nat → Int} {fo : Nat → Int} (hv0 : VN p n T fo) {M : Nat} {F : Nat → Nat → Int} (hM : M ≤ 6) (hF : ∀ i, B8 (F i)) (hz : VZ p n T fo M F) (hc : comN n T) : ACalls Try.prog TB 33 [algA p (n : Int) T fo, vlA M F] (.tup 2 (pairA (.own 0 0 (kerS p n (M * n) (eqR n (annV p n T F))).no 30) (.int .i64 0))) [(0, .one (.arr (kerS p n (M * n) (eqR n (annV p n T F))).no (fun _ => TB.zero 30)) (.arr (kerS p n (M * n) (eqR n (annV p n T F))).no (fun i => vecA ((kerR p n (M * n) (eqR n (annV p n T F))) i))))] := by
  refine acalls_of tokTB Try.func33 rfl rfl (Nat.le_of_ble_eq_true rfl) ?_
  apply sr tokTB (by kernel_rfl)
  · intro RR hRR
    refine w_boxc (HV.eq (by constructor)) (by exact trivial) ?_
    refine w_assign (by constructor) ?_
    refine w_assign (by constructor) ?_
    exact hRR
  refine snd_seq ?_
  apply sr tokTB (by kernel_rfl)
  · intro RR hRR
    refine w_ldc rfl kn32 (by constructor) (by exact sz32.symm) (by exact ag32.symm) ?_
    refine w_move (by constructor) ?_
    refine y_call rfl (exc exp_alg (exc ex_vl exn)) ((vz_code hz ▸ c_l01Code hv0.rb hv0.rv (by omega) hF)) ?_
    refine w_assign (by constructor) ?_
    exact hRR
  apply sr tokTB (by kernel_rfl)
  · intro RR hRR
    refine w_move (by constructor) ?_
    refine w_neq rfl rfl ?_
    exact hRR
  refine snd_cond_false rfl ?_
  refine snd_skip ?_
  refine snd_seq ?_
  refine snd_block ?_
  apply sr tokTB (by kernel_rfl)
  · intro RR hRR
    refine w_move (by constructor) ?_
    refine w_len_r rfl rfl und27 ?_
    refine w_gtr rfl rfl ?_
    refine w_assign (by constructor) ?_
    exact hRR
  refine snd_cond_false (by exact congrArg AV.bool (decide_eq_false (by omega))) ?_
  apply sr tokTB (by kernel_rfl)
  · intro RR hRR
    refine w_ldc rfl kn32 (by constructor) (by exact sz32.symm) (by exact ag32.symm) ?_
    refine y_call rfl (ec exn) (c_l01Commutative) ?_
    refine w_not rfl ?_
    refine w_assign (by constructor) ?_
    exact hRR
  refine snd_cond_false (by exact not_t ((com_iff hv0).2 hc)) ?_
  refine snd_skip ?_
  apply sr tokTB (by kernel_rfl)
  · intro RR hRR
    refine w_ldc rfl kn32 (by constructor) (by exact sz32.symm) (by exact ag32.symm) ?_
    refine w_move (by constructor) ?_
    refine w_call rfl (exc exp_alg (exc ex_vl exn)) ((c_l09Kill hv0 hM hF)) (.inl ⟨trivial, ⟨fun _ _ => trivial, trivial⟩⟩) rfl (by constructor) rfl ?_
    refine w_assign (by constructor) ?_
    refine w_assign (by constructor) ?_
    exact hRR
  refine snd_ret ?_
  show retQ TB _ _ _ _ _ _
  show retQ TB _ _ _ _ _ _
  exact rt_own_u rfl (fun V => rfl) rfl rfl (fun _ => (by first | exact trivial | exact ssh_vec | exact ssh_alg | exact ssh_pr | exact ssh_tab | exact ssh_mat | exact ⟨rfl, fun _ => trivial⟩ | exact ⟨rfl, fun _ => by rw [zr30]; exact ssh_vec⟩)) (fun V i hi => mt_vec (fun _ _ => rfl))
theorem c_sAnnihilatorOf_cm {p : Int} {n : Nat} {T : Nat → Nat → Nat → Int} {fo : Nat → Int} (hv0 : VN p n T fo) {M : Nat} {F : Nat → Nat → Int} (hM : M ≤ 6) (hF : ∀ i, B8 (F i)) (hz : VZ p n T fo M F) (hc : ¬ comN n T) : ACalls Try.prog TB 33 [algA p (n : Int) T fo, vlA M F] (.tup 2 (pairA .nilsl (.int .i64 5))) [] := by
  refine acalls_of tokTB Try.func33 rfl rfl (Nat.le_of_ble_eq_true rfl) ?_
  apply sr tokTB (by kernel_rfl)
  · intro RR hRR
    refine w_boxc (HV.eq (by constructor)) (by exact trivial) ?_
    refine w_assign (by constructor) ?_
    refine w_assign (by constructor) ?_
    exact hRR
  refine snd_seq ?_
  apply sr tokTB (by kernel_rfl)
  · intro RR hRR
    refine w_ldc rfl kn32 (by constructor) (by exact sz32.symm) (by exact ag32.symm) ?_
    refine w_move (by constructor) ?_
    refine y_call rfl (exc exp_alg (exc ex_vl exn)) ((vz_code hz ▸ c_l01Code hv0.rb hv0.rv (by omega) hF)) ?_
    refine w_assign (by constructor) ?_
    exact hRR
  apply sr tokTB (by kernel_rfl)
  · intro RR hRR
    refine w_move (by constructor) ?_
    refine w_neq rfl rfl ?_
    exact hRR
  refine snd_cond_false rfl ?_
  refine snd_skip ?_
  refine snd_seq ?_
  refine snd_block ?_
  apply sr tokTB (by kernel_rfl)
  · intro RR hRR
    refine w_move (by constructor) ?_
    refine w_len_r rfl rfl und27 ?_
    refine w_gtr rfl rfl ?_
    refine w_assign (by constructor) ?_
    exact hRR
  refine snd_cond_false (by exact congrArg AV.bool (decide_eq_false (by omega))) ?_
  apply sr tokTB (by kernel_rfl)
  · intro RR hRR
    refine w_ldc rfl kn32 (by constructor) (by exact sz32.symm) (by exact ag32.symm) ?_
    refine y_call rfl (ec exn) (c_l01Commutative) ?_
    refine w_not rfl ?_
    refine w_assign (by constructor) ?_
    exact hRR
  refine snd_cond_true (by exact not_f (fun q => hc ((com_iff hv0).1 q))) ?_
  apply sr tokTB (by kernel_rfl)
  · intro RR hRR
    refine w_assign (by constructor) ?_
    refine w_assign (by constructor) ?_
    exact hRR
  refine snd_ret ?_
  exact rt_tt (T := TB) (fun V => rfl) (fun V => rfl)
theorem c_sAnnihilatorOf_bg {p : Int} {n : Nat} {T : Nat → Nat → Nat → Int} {fo : Nat → Int} (hv0 : VN p n T fo) {M : Nat} {F : Nat → Nat → Int} (hM : M ≤ 16777216) (hM6 : ¬ M ≤ 6) (hF : ∀ i, B8 (F i)) (hz : VZ p n T fo M F) : ACalls Try.prog TB 33 [algA p (n : Int) T fo, vlA M F] (.tup 2 (pairA .nilsl (.int .i64 2))) [] := by
  refine acalls_of tokTB Try.func33 rfl rfl (Nat.le_of_ble_eq_true rfl) ?_
  apply sr tokTB (by kernel_rfl)
  · intro RR hRR
    refine w_boxc (HV.eq (by constructor)) (by exact trivial) ?_
    refine w_assign (by constructor) ?_
    refine w_assign (by constructor) ?_
    exact hRR
  refine snd_seq ?_
  apply sr tokTB (by kernel_rfl)
  · intro RR hRR
    refine w_ldc rfl kn32 (by constructor) (by exact sz32.symm) (by exact ag32.symm) ?_
    refine w_move (by constructor) ?_
    refine y_call rfl (exc exp_alg (exc ex_vl exn)) ((vz_code hz ▸ c_l01Code hv0.rb hv0.rv (by omega) hF)) ?_
    refine w_assign (by constructor) ?_
    exact hRR
  apply sr tokTB (by kernel_rfl)
  · intro RR hRR
    refine w_move (by constructor) ?_
    refine w_neq rfl rfl ?_
    exact hRR
  refine snd_cond_false rfl ?_
  refine snd_skip ?_
  refine snd_seq ?_
  refine snd_block ?_
  apply sr tokTB (by kernel_rfl)
  · intro RR hRR
    refine w_move (by constructor) ?_
    refine w_len_r rfl rfl und27 ?_
    refine w_gtr rfl rfl ?_
    refine w_assign (by constructor) ?_
    exact hRR
  refine snd_cond_true (by exact congrArg AV.bool (decide_eq_true (by omega))) ?_
  apply sr tokTB (by kernel_rfl)
  · intro RR hRR
    refine w_assign (by constructor) ?_
    refine w_assign (by constructor) ?_
    exact hRR
  refine snd_ret ?_
  exact rt_tt (T := TB) (fun V => rfl) (fun V => rfl)
theorem c_sAnnihilatorOf_no {p n : Int} {T : Nat → Nat → Nat → Int} {fo : Nat → Int} (hT : RB T) (hf : RV fo) {M : Nat} {F : Nat → Nat → Int} (hM : M ≤ 16777216) (hF : ∀ i, B8 (F i)) (hz : ¬ VZ p n T fo M F) : ACalls Try.prog TB 33 [algA p n T fo, vlA M F] (.tup 2 (pairA .nilsl (.int .i64 1))) [] := by
  refine acalls_of tokTB Try.func33 rfl rfl (Nat.le_of_ble_eq_true rfl) ?_
  apply sr tokTB (by kernel_rfl)
  · intro RR hRR
    refine w_boxc (HV.eq (by constructor)) (by exact trivial) ?_
    refine w_assign (by constructor) ?_
    refine w_assign (by constructor) ?_
    exact hRR
  refine snd_seq ?_
  apply sr tokTB (by kernel_rfl)
  · intro RR hRR
    refine w_ldc rfl kn32 (by constructor) (by exact sz32.symm) (by exact ag32.symm) ?_
    refine w_move (by constructor) ?_
    refine y_call rfl (exc exp_alg (exc ex_vl exn)) ((vz_code1 hz ▸ c_l01Code hT hf hM hF)) ?_
    refine w_assign (by constructor) ?_
    exact hRR
  apply sr tokTB (by kernel_rfl)
  · intro RR hRR
    refine w_move (by constructor) ?_
    refine w_neq rfl rfl ?_
    exact hRR
  refine snd_cond_true rfl ?_
  apply sr tokTB (by kernel_rfl)
  · intro RR hRR
    refine w_move (by constructor) ?_
    refine w_assign (by constructor) ?_
    refine w_assign (by constructor) ?_
    exact hRR
  refine snd_ret ?_
  exact rt_tt (T := TB) (fun V => rfl) (fun V => rfl)
theorem c_iAnnihilatorOf_ok {p : Int} {n : Nat} {T : Nat → Nat → Nat → Int} {fo : Nat → Int} (hv0 : VN p n T fo) {M : Nat} {F : Nat → Nat → Int} (hM : M ≤ 6) (hF : ∀ i, B8 (F i)) (hz : VZ p n T fo M F) (hc : comN n T) : ACalls Try.prog TB 35 [algA p (n : Int) T fo, vlA M F] (.tup 2 (pairA (.own 0 0 (kerS p n (M * n) (eqR n (annV p n T F))).no 30) (.int .i64 0))) [(0, .one (.arr (kerS p n (M * n) (eqR n (annV p n T F))).no (fun _ => TB.zero 30)) (.arr (kerS p n (M * n) (eqR n (annV p n T F))).no (fun i => vecA ((kerR p n (M * n) (eqR n (annV p n T F))) i))))] := by
  refine acalls_of tokTB Try.func35 rfl rfl (Nat.le_of_ble_eq_true rfl) ?_
  apply sr tokTB (by kernel_rfl)
  · intro RR hRR
    refine w_boxc (HV.eq (by constructor)) (by exact trivial) ?_
    refine w_assign (by constructor) ?_
    refine w_assign (by constructor) ?_
    exact hRR
  refine snd_seq ?_
  apply sr tokTB (by kernel_rfl)
  · intro RR hRR
    refine w_ldc rfl kn32 (by constructor) (by exact sz32.symm) (by exact ag32.symm) ?_
    refine w_move (by constructor) ?_
    refine y_call rfl (exc exp_alg (exc ex_vl exn)) ((vz_code hz ▸ c_valid hv0.rb hv0.rv (by omega) hF)) ?_
    refine w_assign (by constructor) ?_
    exact hRR
  apply sr tokTB (by kernel_rfl)
  · intro RR hRR
    refine w_move (by constructor) ?_
    refine w_neq rfl rfl ?_
    exact hRR
  refine snd_cond_false rfl ?_
  refine snd_skip ?_
  refine snd_seq ?_
  refine snd_block ?_
  apply sr tokTB (by kernel_rfl)
  · intro RR hRR
    refine w_move (by constructor) ?_
    refine w_len_r rfl rfl und27 ?_
    refine w_gtr rfl rfl ?_
    refine w_assign (by constructor) ?_
    exact hRR
  refine snd_cond_false (by exact congrArg AV.bool (decide_eq_false (by omega))) ?_
  apply sr tokTB (by kernel_rfl)
  · intro RR hRR
    refine y_call rfl (ec exn) (c_commutative hv0.n6) ?_
    refine w_not rfl ?_
    refine w_assign (by constructor) ?_
    exact hRR
  refine snd_cond_false (by exact not_t hc) ?_
  refine snd_skip ?_
  apply sr tokTB (by kernel_rfl)
  · intro RR hRR
    refine w_move (by constructor) ?_
    refine w_call rfl (exc exp_calg (exc ex_vl exn)) ((c_annihilator hv0 hM hF)) (.inl ⟨trivial, ⟨fun _ _ => trivial, trivial⟩⟩) rfl (by constructor) rfl ?_
    refine w_assign (by constructor) ?_
    refine w_assign (by constructor) ?_
    exact hRR
  refine snd_ret ?_
  show retQ TB _ _ _ _ _ _
  show retQ TB _ _ _ _ _ _
  exact rt_own_u rfl (fun V => rfl) rfl rfl (fun _ => (by first | exact trivial | exact ssh_vec | exact ssh_alg | exact ssh_pr | exact ssh_tab | exact ssh_mat | exact ⟨rfl, fun _ => trivial⟩ | exact ⟨rfl, fun _ => by rw [zr30]; exact ssh_vec⟩)) (fun V i hi => mt_vec (fun _ _ => rfl))
theorem c_iAnnihilatorOf_cm {p : Int} {n : Nat} {T : Nat → Nat → Nat → Int} {fo : Nat → Int} (hv0 : VN p n T fo) {M : Nat} {F : Nat → Nat → Int} (hM : M ≤ 6) (hF : ∀ i, B8 (F i)) (hz : VZ p n T fo M F) (hc : ¬ comN n T) : ACalls Try.prog TB 35 [algA p (n : Int) T fo, vlA M F] (.tup 2 (pairA .nilsl (.int .i64 5))) [] := by
  refine acalls_of tokTB Try.func35 rfl rfl (Nat.le_of_ble_eq_true rfl) ?_
  apply sr tokTB (by kernel_rfl)
  · intro RR hRR
    refine w_boxc (HV.eq (by constructor)) (by exact trivial) ?_
    refine w_assign (by constructor) ?_
    refine w_assign (by constructor) ?_
    exact hRR
  refine snd_seq ?_
  apply sr tokTB (by kernel_rfl)
  · intro RR hRR
    refine w_ldc rfl kn32 (by constructor) (by exact sz32.symm) (by exact ag32.symm) ?_
    refine w_move (by constructor) ?_
    refine y_call rfl (exc exp_alg (exc ex_vl exn)) ((vz_code hz ▸ c_valid hv0.rb hv0.rv (by omega) hF)) ?_
    refine w_assign (by constructor) ?_
    exact hRR
  apply sr tokTB (by kernel_rfl)
  · intro RR hRR
    refine w_move (by constructor) ?_
    refine w_neq rfl rfl ?_
    exact hRR
  refine snd_cond_false rfl ?_
  refine snd_skip ?_
  refine snd_seq ?_
  refine snd_block ?_
  apply sr tokTB (by kernel_rfl)
  · intro RR hRR
    refine w_move (by constructor) ?_
    refine w_len_r rfl rfl und27 ?_
    refine w_gtr rfl rfl ?_
    refine w_assign (by constructor) ?_
    exact hRR
  refine snd_cond_false (by exact congrArg AV.bool (decide_eq_false (by omega))) ?_
  apply sr tokTB (by kernel_rfl)
  · intro RR hRR
    refine y_call rfl (ec exn) (c_commutative hv0.n6) ?_
    refine w_not rfl ?_
    refine w_assign (by constructor) ?_
    exact hRR
  refine snd_cond_true (by exact not_f hc) ?_
  apply sr tokTB (by kernel_rfl)
  · intro RR hRR
    refine w_assign (by constructor) ?_
    refine w_assign (by constructor) ?_
    exact hRR
  refine snd_ret ?_
  exact rt_tt (T := TB) (fun V => rfl) (fun V => rfl)
theorem c_iAnnihilatorOf_bg {p : Int} {n : Nat} {T : Nat → Nat → Nat → Int} {fo : Nat → Int} (hv0 : VN p n T fo) {M : Nat} {F : Nat → Nat → Int} (hM : M ≤ 16777216) (hM6 : ¬ M ≤ 6) (hF : ∀ i, B8 (F i)) (hz : VZ p n T fo M F) : ACalls Try.prog TB 35 [algA p (n : Int) T fo, vlA M F] (.tup 2 (pairA .nilsl (.int .i64 2))) [] := by
  refine acalls_of tokTB Try.func35 rfl rfl (Nat.le_of_ble_eq_true rfl) ?_
  apply sr tokTB (by kernel_rfl)
  · intro RR hRR
    refine w_boxc (HV.eq (by constructor)) (by exact trivial) ?_
    refine w_assign (by constructor) ?_
    refine w_assign (by constructor) ?_
    exact hRR
  refine snd_seq ?_
  apply sr tokTB (by kernel_rfl)
  · intro RR hRR
    refine w_ldc rfl kn32 (by constructor) (by exact sz32.symm) (by exact ag32.symm) ?_
    refine w_move (by constructor) ?_
    refine y_call rfl (exc exp_alg (exc ex_vl exn)) ((vz_code hz ▸ c_valid hv0.rb hv0.rv (by omega) hF)) ?_
    refine w_assign (by constructor) ?_
    exact hRR
  apply sr tokTB (by kernel_rfl)
  · intro RR hRR
    refine w_move (by constructor) ?_
    refine w_neq rfl rfl ?_
    exact hRR
  refine snd_cond_false rfl ?_
  refine snd_skip ?_
  refine snd_seq ?_
  refine snd_block ?_
  apply sr tokTB (by kernel_rfl)
  · intro RR hRR
    refine w_move (by constructor) ?_
    refine w_len_r rfl rfl und27 ?_
    refine w_gtr rfl rfl ?_
    refine w_assign (by constructor) ?_
    exact hRR
  refine snd_cond_true (by exact congrArg AV.bool (decide_eq_true (by omega))) ?_
  apply sr tokTB (by kernel_rfl)
  · intro RR hRR
    refine w_assign (by constructor) ?_
    refine w_assign (by constructor) ?_
    exact hRR
  refine snd_ret ?_
  exact rt_tt (T := TB) (fun V => rfl) (fun V => rfl)
theorem c_iAnnihilatorOf_no {p n : Int} {T : Nat → Nat → Nat → Int} {fo : Nat → Int} (hT : RB T) (hf : RV fo) {M : Nat} {F : Nat → Nat → Int} (hM : M ≤ 16777216) (hF : ∀ i, B8 (F i)) (hz : ¬ VZ p n T fo M F) : ACalls Try.prog TB 35 [algA p n T fo, vlA M F] (.tup 2 (pairA .nilsl (.int .i64 1))) [] := by
  refine acalls_of tokTB Try.func35 rfl rfl (Nat.le_of_ble_eq_true rfl) ?_
  apply sr tokTB (by kernel_rfl)
  · intro RR hRR
    refine w_boxc (HV.eq (by constructor)) (by exact trivial) ?_
    refine w_assign (by constructor) ?_
    refine w_assign (by constructor) ?_
    exact hRR
  refine snd_seq ?_
  apply sr tokTB (by kernel_rfl)
  · intro RR hRR
    refine w_ldc rfl kn32 (by constructor) (by exact sz32.symm) (by exact ag32.symm) ?_
    refine w_move (by constructor) ?_
    refine y_call rfl (exc exp_alg (exc ex_vl exn)) ((vz_code1 hz ▸ c_valid hT hf hM hF)) ?_
    refine w_assign (by constructor) ?_
    exact hRR
  apply sr tokTB (by kernel_rfl)
  · intro RR hRR
    refine w_move (by constructor) ?_
    refine w_neq rfl rfl ?_
    exact hRR
  refine snd_cond_true rfl ?_
  apply sr tokTB (by kernel_rfl)
  · intro RR hRR
    refine w_move (by constructor) ?_
    refine w_assign (by constructor) ?_
    refine w_assign (by constructor) ?_
    exact hRR
  refine snd_ret ?_
  exact rt_tt (T := TB) (fun V => rfl) (fun V => rfl)
theorem lAnnihilatorOf_ok {p : Int} {n : Nat} {T : Nat → Nat → Nat → Int} {fo : Nat → Int} (hv0 : VN p n T fo) {M : Nat} {F : Nat → Nat → Int} (hM : M ≤ 6) (hF : ∀ i, B8 (F i)) (hz : VZ p n T fo M F) (hc : comN n T) : ACalls Try.prog TB 8 [algA p (n : Int) T fo, vlA M F] (.bool true) [] := by
  refine acalls_of tokTB Try.func8 rfl rfl (Nat.le_of_ble_eq_true rfl) ?_
  apply sr tokTB (by kernel_rfl)
  · intro RR hRR
    refine w_boxc (HV.eq (by constructor)) (by exact trivial) ?_
    refine w_assign (by constructor) ?_
    exact hRR
  apply sr tokTB (by kernel_rfl)
  · intro RR hRR
    refine w_assign (by constructor) ?_
    exact hRR
  apply sr tokTB (by kernel_rfl)
  · intro RR hRR
    refine w_move (by constructor) ?_
    refine w_move (by constructor) ?_
    refine y_call rfl (exc ex_vl (exc (by exact rfl) exn)) (c_szVectorS (F := F) (M := M) (by omega)) ?_
    refine w_assign (by constructor) ?_
    exact hRR
  refine snd_seq ?_
  apply sr tokTB (by kernel_rfl)
  · intro RR hRR
    refine w_move (by constructor) ?_
    refine w_lss rfl rfl ?_
    exact hRR
  refine snd_cond_false (by exact congrArg AV.bool (decide_eq_false (by omega))) ?_
  refine snd_skip ?_
  apply sr tokTB (by kernel_rfl)
  · intro RR hRR
    refine w_ldc rfl kn26 (by constructor) (by exact sz26.symm) (by exact ag26.symm) ?_
    refine y_call rfl (ec exn) (c_toAlgebra) ?_
    refine w_move (by constructor) ?_
    refine w_call rfl (exc ex_vl exn) (c_toVectorS (F := F) (M := M) (by omega)) (.inl ⟨trivial, ⟨fun _ _ => trivial, trivial⟩⟩) rfl (by constructor) rfl ?_
    refine w_call rfl rfl ((c_sAnnihilatorOf_ok hv0 hM hF hz hc).mt ⟨mt_expc closed_alg (by simp), mt_vl0 rfl, trivial⟩) (.inl ⟨nr_pair trivial trivial, ⟨fun _ _ => trivial, trivial⟩⟩) rfl (by constructor) rfl ?_
    refine w_move (by constructor) ?_
    refine w_ext rfl (by decide) (by constructor) ?_
    refine w_ext rfl (by decide) (by constructor) ?_
    refine w_assign (by constructor) ?_
    refine w_assign (by constructor) ?_
    exact hRR
  apply sr tokTB (by kernel_rfl)
  · intro RR hRR
    refine w_move (by constructor) ?_
    refine w_call rfl (exc ex_vl exn) (c_toVectorS (F := F) (M := M) (by omega)) (.inl ⟨trivial, ⟨fun _ _ => trivial, trivial⟩⟩) rfl (by constructor) rfl ?_
    refine w_assign (by constructor) ?_
    exact hRR
  apply sr tokTB (by kernel_rfl)
  · intro RR hRR
    refine w_ldc rfl kn26 (by constructor) (by exact sz26.symm) (by exact ag26.symm) ?_
    refine y_call rfl (ec exn) (c_toAlgebra) ?_
    refine w_move (by constructor) ?_
    refine w_call rfl rfl ((c_iAnnihilatorOf_ok hv0 hM hF hz hc).mt ⟨mt_expc closed_alg (by simp), mt_vl0 rfl, trivial⟩) (.inl ⟨nr_pair trivial trivial, ⟨fun _ _ => trivial, trivial⟩⟩) rfl (by constructor) rfl ?_
    refine w_move (by constructor) ?_
    refine w_ext rfl (by decide) (by constructor) ?_
    refine w_ext rfl (by decide) (by constructor) ?_
    refine w_assign (by constructor) ?_
    refine w_assign (by constructor) ?_
    exact hRR
  refine snd_seq ?_
  apply srG (env' := (46, .bool (!true || decide ((0 : Int) ≠ 0))) :: (45, .any) :: (44, .any) :: (43, .any) :: (42, _) :: (41, _) :: (40, _) :: (39, _) :: (38, _) :: _) tokTB (by kernel_rfl)
  · intro RR hRR
    refine w_move (by constructor) ?_
    refine w_move (by constructor) ?_
    refine y_call rfl rfl ((c_eqVectorS (N := (kerS p n (M * n) (eqR n (annV p n T F))).no) (R := (kerR p n (M * n) (eqR n (annV p n T F)))) (S := (kerR p n (M * n) (eqR n (annV p n T F)))) (by have := hv0.n6; have := kerS_le (p := p) (n := n) (N := M * n) (R := (eqR n (annV p n T F))); omega) (fun i _ j _ => rfl)).mt ⟨mt_vl0 rfl, mt_vl0 rfl, trivial⟩) ?_
    refine w_not rfl ?_
    refine w_move (by constructor) ?_
    refine w_g rfl rfl (fun hg4 => ?_) (fun hg4 => ?_)
    · skip
      refine w_move (by constructor) ?_
      refine w_g_on rfl rfl hg4 ?_
      refine w_move (by constructor) ?_
      refine w_g_on rfl rfl hg4 ?_
      refine w_neq rfl rfl ?_
      refine w_pick_0 rfl hg4 (by constructor) ?_
      try simp only [Int.toNat_natCast] at hg4
      exact hRR _ (EL.cons (.inr (by first | rfl | (simp only [hg4, els]; done) | (simp only [hg4, els]; rfl) | simp [hg4])) (EL.cons (.inl rfl) (EL.cons (.inl rfl) (EL.cons (.inl rfl) (EL.cons (.inr rfl) (EL.cons (.inr rfl) (EL.cons (.inr rfl) (EL.cons (.inr rfl) (EL.cons (.inr rfl) (EL.refl _))))))))))
    · have hg4 := eq_true_of_ne_false hg4
      refine w_g_off rfl rfl (by rw [hg4]; decide) ?_
      refine w_g_off rfl rfl (by rw [hg4]; decide) ?_
      refine w_pick_1 rfl hg4 (by constructor) ?_
      try simp only [Int.toNat_natCast] at hg4
      exact hRR _ (EL.cons (.inr (by first | rfl | (simp only [hg4, els]; done) | (simp only [hg4, els]; rfl) | simp [hg4])) (EL.cons (.inl rfl) (EL.cons (.inl rfl) (EL.cons (.inl rfl) (EL.cons (.inr rfl) (EL.cons (.inr rfl) (EL.cons (.inr rfl) (EL.cons (.inr rfl) (EL.cons (.inr rfl) (EL.refl _))))))))))
  refine snd_cond _ rfl (fun hc46 => ?_) (fun hc46 => ?_)
  · skip
    exact absurd hc46 (by simp)
  · skip
    refine snd_skip ?_
    refine snd_seq ?_
    apply sr tokTB (by kernel_rfl)
    · intro RR hRR
      refine w_move (by constructor) ?_
      refine w_move (by constructor) ?_
      refine w_call rfl (exc ex_vl exn) (c_toVectorS (F := F) (M := M) (by omega)) (.inl ⟨trivial, ⟨fun _ _ => trivial, trivial⟩⟩) rfl (by constructor) rfl ?_
      refine y_call rfl rfl ((c_eqVectorS (N := M) (R := F) (S := F) (by omega) (fun i _ j _ => rfl)).mt ⟨mt_vl0 rfl, mt_vl0 rfl, trivial⟩) ?_
      refine w_not rfl ?_
      exact hRR
    refine snd_cond_false (by exact rfl) ?_
    refine snd_skip ?_
    apply sr tokTB (by kernel_rfl)
    · intro RR hRR
      refine w_assign (by constructor) ?_
      exact hRR
    apply srD tokTB (ops1 := [_, _]) (ops2 := [_]) (by kernel_rfl) rfl rfl
    · intro RR hRR
      refine w_move (by constructor) ?_
      refine w_move (by constructor) ?_
      exact hRR
    · exact mut_mid1 tokTB (c_markVectorS (N := M) (R := F) (k := 1) (by omega) (by omega)) (args := [.tmp 53]) (k := 31000) (i := 0) rfl rfl ⟨trivial, trivial⟩ trivial (fun _ _ => trivial) (fun _ _ => trivial) rfl
    · intro RR hRR
      refine w_assign (by constructor) ?_
      exact hRR
    refine snd_seq ?_
    apply srG (env' := (67, .bool ((decide ((1 + (M * 6 : Nat) : Int) < 0) || !true) || decide ((0 : Int) ≠ 0))) :: (66, .any) :: (65, .any) :: (64, .any) :: (63, .bool (decide ((1 + (M * 6 : Nat) : Int) < 0) || !true)) :: (62, .bool (decide ((1 + (M * 6 : Nat) : Int) < 0) || !true)) :: (61, .any) :: (60, .any) :: (59, .any) :: (58, .any) :: (57, _) :: (56, _) :: (55, _) :: _) tokTB (by kernel_rfl)
    · intro RR hRR
      refine w_move (by constructor) ?_
      refine w_lss rfl rfl ?_
      refine w_move (by constructor) ?_
      refine w_g rfl rfl (fun hg2 => ?_) (fun hg2 => ?_)
      · skip
        refine w_move (by constructor) ?_
        refine w_g_on rfl rfl hg2 ?_
        refine w_move (by constructor) ?_
        refine w_g_on rfl rfl hg2 ?_
        refine y_call rfl rfl ((c_eqVectorS (N := (kerS p n (M * n) (eqR n (annV p n T F))).no) (R := (kerR p n (M * n) (eqR n (annV p n T F)))) (S := (kerR p n (M * n) (eqR n (annV p n T F)))) (by have := hv0.n6; have := kerS_le (p := p) (n := n) (N := M * n) (R := (eqR n (annV p n T F))); omega) (fun i _ j _ => rfl)).mt ⟨mt_vl0 rfl, mt_vl0 rfl, trivial⟩) ?_
        refine w_g_on rfl rfl hg2 ?_
        refine w_not rfl ?_
        refine w_pick_0 rfl hg2 (by constructor) ?_
        refine w_move (by constructor) ?_
        refine w_g rfl rfl (fun hg8 => ?_) (fun hg8 => ?_)
        · skip
          refine w_move (by constructor) ?_
          refine w_g_on rfl rfl hg8 ?_
          refine w_move (by constructor) ?_
          refine w_g_on rfl rfl hg8 ?_
          refine w_neq rfl rfl ?_
          refine w_pick_0 rfl hg8 (by constructor) ?_
          try simp only [Int.toNat_natCast] at hg2 hg8
          exact hRR _ (EL.cons (.inr (by first | rfl | (simp only [hg2, hg8, els]; done) | (simp only [hg2, hg8, els]; rfl) | simp [hg2, hg8])) (EL.cons (.inl rfl) (EL.cons (.inl rfl) (EL.cons (.inl rfl) (EL.cons (.inr (by first | rfl | (simp only [hg2, hg8, els]; done) | (simp only [hg2, hg8, els]; rfl) | simp [hg2, hg8])) (EL.cons (.inr (by first | rfl | (simp only [hg2, hg8, els]; done) | (simp only [hg2, hg8, els]; rfl) | simp [hg2, hg8])) (EL.cons (.inl rfl) (EL.cons (.inl rfl) (EL.cons (.inl rfl) (EL.cons (.inl rfl) (EL.cons (.inr rfl) (EL.cons (.inr rfl) (EL.cons (.inr rfl) (EL.refl _))))))))))))))
        · have hg8 := eq_true_of_ne_false hg8
          refine w_g_off rfl rfl (by rw [hg8]; decide) ?_
          refine w_g_off rfl rfl (by rw [hg8]; decide) ?_
          refine w_pick_1 rfl hg8 (by constructor) ?_
          try simp only [Int.toNat_natCast] at hg2 hg8
          exact hRR _ (EL.cons (.inr (by first | rfl | (simp only [hg2, hg8, els]; done) | (simp only [hg2, hg8, els]; rfl) | simp [hg2, hg8])) (EL.cons (.inl rfl) (EL.cons (.inl rfl) (EL.cons (.inl rfl) (EL.cons (.inr (by first | rfl | (simp only [hg2, hg8, els]; done) | (simp only [hg2, hg8, els]; rfl) | simp [hg2, hg8])) (EL.cons (.inr (by first | rfl | (simp only [hg2, hg8, els]; done) | (simp only [hg2, hg8, els]; rfl) | simp [hg2, hg8])) (EL.cons (.inl rfl) (EL.cons (.inl rfl) (EL.cons (.inl rfl) (EL.cons (.inl rfl) (EL.cons (.inr rfl) (EL.cons (.inr rfl) (EL.cons (.inr rfl) (EL.refl _))))))))))))))
      · have hg2 := eq_true_of_ne_false hg2
        refine w_g_off rfl rfl (by rw [hg2]; decide) ?_
        refine w_g_off rfl rfl (by rw [hg2]; decide) ?_
        refine w_g_off rfl rfl (by rw [hg2]; decide) ?_
        refine w_pick_1 rfl hg2 (by constructor) ?_
        refine w_move (by constructor) ?_
        refine w_g_off rfl rfl (by decide) ?_
        refine w_g_off rfl rfl (by decide) ?_
        refine w_g_off rfl rfl (by decide) ?_
        refine w_pick_1 rfl rfl (by constructor) ?_
        try simp only [Int.toNat_natCast] at hg2
        exact hRR _ (EL.cons (.inr (by first | rfl | (simp only [hg2, els]; done) | (simp only [hg2, els]; rfl) | simp [hg2])) (EL.cons (.inl rfl) (EL.cons (.inl rfl) (EL.cons (.inl rfl) (EL.cons (.inr (by first | rfl | (simp only [hg2, els]; done) | (simp only [hg2, els]; rfl) | simp [hg2])) (EL.cons (.inr (by first | rfl | (simp only [hg2, els]; done) | (simp only [hg2, els]; rfl) | simp [hg2])) (EL.cons (.inl rfl) (EL.cons (.inl rfl) (EL.cons (.inl rfl) (EL.cons (.inl rfl) (EL.cons (.inr rfl) (EL.cons (.inr rfl) (EL.cons (.inr rfl) (EL.refl _))))))))))))))
    refine snd_cond _ rfl (fun hc67 => ?_) (fun hc67 => ?_)
    · skip
      exact absurd hc67 (by rw [decide_eq_false (show ¬ (1 + (M * 6 : Nat) : Int) < 0 by omega)]; simp)
    · skip
      refine snd_skip ?_
      apply sr tokTB (by kernel_rfl)
      · intro RR hRR
        refine w_assign (by constructor) ?_
        exact hRR
      apply srD tokTB (ops1 := [_, _]) (ops2 := [_]) (by kernel_rfl) rfl rfl
      · intro RR hRR
        refine w_move (by constructor) ?_
        refine w_move (by constructor) ?_
        exact hRR
      · exact mut_mid1 tokTB (c_markVectorS (N := (kerS p n (M * n) (eqR n (annV p n T F))).no) (R := (kerR p n (M * n) (eqR n (annV p n T F)))) (k := 1) (by have := hv0.n6; have := kerS_le (p := p) (n := n) (N := M * n) (R := (eqR n (annV p n T F))); omega) (by omega)) (args := [.tmp 69]) (k := 36000) (i := 0) rfl rfl ⟨trivial, trivial⟩ trivial (fun _ _ => trivial) (fun _ _ => trivial) rfl
      · intro RR hRR
        refine w_assign (by constructor) ?_
        exact hRR
      apply sr tokTB (by kernel_rfl)
      · intro RR hRR
        refine w_assign (by constructor) ?_
        exact hRR
      apply sr tokTB (by kernel_rfl)
      · intro RR hRR
        refine w_move (by constructor) ?_
        refine w_move (by constructor) ?_
        refine y_call rfl rfl ((c_heldVectorS (N := (kerS p n (M * n) (eqR n (annV p n T F))).no) (R := mk8 1) (k := 1) (by have := hv0.n6; have := kerS_le (p := p) (n := n) (N := M * n) (R := (eqR n (annV p n T F))); omega) (by omega) (fun i _ j _ => rfl)).mt ⟨mt_vl0 rfl, mt_int0, trivial⟩) ?_
        refine w_assign (by constructor) ?_
        exact hRR
      refine snd_seq ?_
      apply sr tokTB (by kernel_rfl)
      · intro RR hRR
        refine w_move (by constructor) ?_
        refine w_lss rfl rfl ?_
        exact hRR
      refine snd_cond_false (by exact congrArg AV.bool (decide_eq_false (by omega))) ?_
      refine snd_skip ?_
      refine snd_seq ?_
      apply sr tokTB (by kernel_rfl)
      · intro RR hRR
        refine w_move (by constructor) ?_
        refine w_move (by constructor) ?_
        refine w_neq rfl rfl ?_
        exact hRR
      refine snd_cond_false (by exact congrArg AV.bool (decide_eq_false (by simp))) ?_
      refine snd_skip ?_
      apply sr tokTB (by kernel_rfl)
      · intro RR hRR
        refine w_ldc rfl kn26 (by constructor) (by exact sz26.symm) (by exact ag26.symm) ?_
        refine y_call rfl (ec exn) (c_toAlgebra) ?_
        refine w_move (by constructor) ?_
        refine w_call rfl (exc ex_vl exn) (c_toVectorS (F := F) (M := M) (by omega)) (.inl ⟨trivial, ⟨fun _ _ => trivial, trivial⟩⟩) rfl (by constructor) rfl ?_
        refine w_call rfl rfl ((c_iAnnihilatorOf_ok hv0 hM hF hz hc).mt ⟨mt_expc closed_alg (by simp), mt_vl0 rfl, trivial⟩) (.inl ⟨nr_pair trivial trivial, ⟨fun _ _ => trivial, trivial⟩⟩) rfl (by constructor) rfl ?_
        refine w_move (by constructor) ?_
        refine w_ext rfl (by decide) (by constructor) ?_
        refine w_ext rfl (by decide) (by constructor) ?_
        refine w_assign (by constructor) ?_
        refine w_assign (by constructor) ?_
        exact hRR
      refine snd_seq ?_
      apply srG (env' := (95, .bool (!true || decide ((0 : Int) ≠ 0))) :: (94, .any) :: (93, .any) :: (92, .any) :: (91, _) :: (90, _) :: (89, _) :: (88, _) :: (87, _) :: _) tokTB (by kernel_rfl)
      · intro RR hRR
        refine w_move (by constructor) ?_
        refine w_move (by constructor) ?_
        refine y_call rfl rfl ((c_eqVectorS (N := (kerS p n (M * n) (eqR n (annV p n T F))).no) (R := (kerR p n (M * n) (eqR n (annV p n T F)))) (S := (kerR p n (M * n) (eqR n (annV p n T F)))) (by have := hv0.n6; have := kerS_le (p := p) (n := n) (N := M * n) (R := (eqR n (annV p n T F))); omega) (fun i _ j _ => rfl)).mt ⟨mt_vl0 rfl, mt_vl0 rfl, trivial⟩) ?_
        refine w_not rfl ?_
        refine w_move (by constructor) ?_
        refine w_g rfl rfl (fun hg4 => ?_) (fun hg4 => ?_)
        · skip
          refine w_move (by constructor) ?_
          refine w_g_on rfl rfl hg4 ?_
          refine w_move (by constructor) ?_
          refine w_g_on rfl rfl hg4 ?_
          refine w_neq rfl rfl ?_
          refine w_pick_0 rfl hg4 (by constructor) ?_
          try simp only [Int.toNat_natCast] at hg4
          exact hRR _ (EL.cons (.inr (by first | rfl | (simp only [hg4, els]; done) | (simp only [hg4, els]; rfl) | simp [hg4])) (EL.cons (.inl rfl) (EL.cons (.inl rfl) (EL.cons (.inl rfl) (EL.cons (.inr rfl) (EL.cons (.inr rfl) (EL.cons (.inr rfl) (EL.cons (.inr rfl) (EL.cons (.inr rfl) (EL.refl _))))))))))
        · have hg4 := eq_true_of_ne_false hg4
          refine w_g_off rfl rfl (by rw [hg4]; decide) ?_
          refine w_g_off rfl rfl (by rw [hg4]; decide) ?_
          refine w_pick_1 rfl hg4 (by constructor) ?_
          try simp only [Int.toNat_natCast] at hg4
          exact hRR _ (EL.cons (.inr (by first | rfl | (simp only [hg4, els]; done) | (simp only [hg4, els]; rfl) | simp [hg4])) (EL.cons (.inl rfl) (EL.cons (.inl rfl) (EL.cons (.inl rfl) (EL.cons (.inr rfl) (EL.cons (.inr rfl) (EL.cons (.inr rfl) (EL.cons (.inr rfl) (EL.cons (.inr rfl) (EL.refl _))))))))))
      refine snd_cond _ rfl (fun hc95 => ?_) (fun hc95 => ?_)
      · skip
        exact absurd hc95 (by simp)
      · skip
        refine snd_skip ?_
        apply sr tokTB (by kernel_rfl)
        · intro RR hRR
          refine w_assign (by constructor) ?_
          exact hRR
        apply sr tokTB (by kernel_rfl)
        · intro RR hRR
          refine w_move (by constructor) ?_
          refine w_move (by constructor) ?_
          refine y_call rfl rfl ((c_heldVectorS (N := (kerS p n (M * n) (eqR n (annV p n T F))).no) (R := mk8 1) (k := 1) (by have := hv0.n6; have := kerS_le (p := p) (n := n) (N := M * n) (R := (eqR n (annV p n T F))); omega) (by omega) (fun i _ j _ => rfl)).mt ⟨mt_vl0 rfl, mt_int0, trivial⟩) ?_
          refine w_assign (by constructor) ?_
          exact hRR
        refine snd_seq ?_
        apply sr tokTB (by kernel_rfl)
        · intro RR hRR
          refine w_move (by constructor) ?_
          refine w_lss rfl rfl ?_
          exact hRR
        refine snd_cond_false (by exact congrArg AV.bool (decide_eq_false (by omega))) ?_
        refine snd_skip ?_
        refine snd_seq ?_
        apply sr tokTB (by kernel_rfl)
        · intro RR hRR
          refine w_move (by constructor) ?_
          refine w_move (by constructor) ?_
          refine w_neq rfl rfl ?_
          exact hRR
        refine snd_cond_false (by exact congrArg AV.bool (decide_eq_false (by simp))) ?_
        refine snd_skip ?_
        apply sr tokTB (by kernel_rfl)
        · intro RR hRR
          refine w_assign (by constructor) ?_
          exact hRR
        refine snd_ret ?_
        exact rt (T := TB) (fun V => rfl)
theorem lAnnihilatorOf_cm {p : Int} {n : Nat} {T : Nat → Nat → Nat → Int} {fo : Nat → Int} (hv0 : VN p n T fo) {M : Nat} {F : Nat → Nat → Int} (hM : M ≤ 6) (hF : ∀ i, B8 (F i)) (hz : VZ p n T fo M F) (hc : ¬ comN n T) : ACalls Try.prog TB 8 [algA p (n : Int) T fo, vlA M F] (.bool true) [] := by
  refine acalls_of tokTB Try.func8 rfl rfl (Nat.le_of_ble_eq_true rfl) ?_
  apply sr tokTB (by kernel_rfl)
  · intro RR hRR
    refine w_boxc (HV.eq (by constructor)) (by exact trivial) ?_
    refine w_assign (by constructor) ?_
    exact hRR
  apply sr tokTB (by kernel_rfl)
  · intro RR hRR
    refine w_assign (by constructor) ?_
    exact hRR
  apply sr tokTB (by kernel_rfl)
  · intro RR hRR
    refine w_move (by constructor) ?_
    refine w_move (by constructor) ?_
    refine y_call rfl (exc ex_vl (exc (by exact rfl) exn)) (c_szVectorS (F := F) (M := M) (by omega)) ?_
    refine w_assign (by constructor) ?_
    exact hRR
  refine snd_seq ?_
  apply sr tokTB (by kernel_rfl)
  · intro RR hRR
    refine w_move (by constructor) ?_
    refine w_lss rfl rfl ?_
    exact hRR
  refine snd_cond_false (by exact congrArg AV.bool (decide_eq_false (by omega))) ?_
  refine snd_skip ?_
  apply sr tokTB (by kernel_rfl)
  · intro RR hRR
    refine w_ldc rfl kn26 (by constructor) (by exact sz26.symm) (by exact ag26.symm) ?_
    refine y_call rfl (ec exn) (c_toAlgebra) ?_
    refine w_move (by constructor) ?_
    refine w_call rfl (exc ex_vl exn) (c_toVectorS (F := F) (M := M) (by omega)) (.inl ⟨trivial, ⟨fun _ _ => trivial, trivial⟩⟩) rfl (by constructor) rfl ?_
    refine y_call rfl rfl ((c_sAnnihilatorOf_cm hv0 hM hF hz hc).mt ⟨mt_expc closed_alg (by simp), mt_vl0 rfl, trivial⟩) ?_
    refine w_move (by constructor) ?_
    refine w_ext rfl (by decide) (by constructor) ?_
    refine w_ext rfl (by decide) (by constructor) ?_
    refine w_assign (by constructor) ?_
    refine w_assign (by constructor) ?_
    exact hRR
  apply sr tokTB (by kernel_rfl)
  · intro RR hRR
    refine w_move (by constructor) ?_
    refine w_call rfl (exc ex_vl exn) (c_toVectorS (F := F) (M := M) (by omega)) (.inl ⟨trivial, ⟨fun _ _ => trivial, trivial⟩⟩) rfl (by constructor) rfl ?_
    refine w_assign (by constructor) ?_
    exact hRR
  apply sr tokTB (by kernel_rfl)
  · intro RR hRR
    refine w_ldc rfl kn26 (by constructor) (by exact sz26.symm) (by exact ag26.symm) ?_
    refine y_call rfl (ec exn) (c_toAlgebra) ?_
    refine w_move (by constructor) ?_
    refine y_call rfl rfl ((c_iAnnihilatorOf_cm hv0 hM hF hz hc).mt ⟨mt_expc closed_alg (by simp), mt_vl0 rfl, trivial⟩) ?_
    refine w_move (by constructor) ?_
    refine w_ext rfl (by decide) (by constructor) ?_
    refine w_ext rfl (by decide) (by constructor) ?_
    refine w_assign (by constructor) ?_
    refine w_assign (by constructor) ?_
    exact hRR
  refine snd_seq ?_
  apply srG (env' := (46, .bool (!true || decide ((5 : Int) ≠ 5))) :: (45, .any) :: (44, .any) :: (43, .any) :: (42, _) :: (41, _) :: (40, _) :: (39, _) :: (38, _) :: _) tokTB (by kernel_rfl)
  · intro RR hRR
    refine w_move (by constructor) ?_
    refine w_move (by constructor) ?_
    refine y_call rfl rfl ((c_eqVectorS (N := 0) (R := (fun _ _ => 0)) (S := (fun _ _ => 0)) (by omega) (fun i h => absurd h (by omega))).mt ⟨mt_nil0, mt_nil0, trivial⟩) ?_
    refine w_not rfl ?_
    refine w_move (by constructor) ?_
    refine w_g rfl rfl (fun hg4 => ?_) (fun hg4 => ?_)
    · skip
      refine w_move (by constructor) ?_
      refine w_g_on rfl rfl hg4 ?_
      refine w_move (by constructor) ?_
      refine w_g_on rfl rfl hg4 ?_
      refine w_neq rfl rfl ?_
      refine w_pick_0 rfl hg4 (by constructor) ?_
      try simp only [Int.toNat_natCast] at hg4
      exact hRR _ (EL.cons (.inr (by first | rfl | (simp only [hg4, els]; done) | (simp only [hg4, els]; rfl) | simp [hg4])) (EL.cons (.inl rfl) (EL.cons (.inl rfl) (EL.cons (.inl rfl) (EL.cons (.inr rfl) (EL.cons (.inr rfl) (EL.cons (.inr rfl) (EL.cons (.inr rfl) (EL.cons (.inr rfl) (EL.refl _))))))))))
    · have hg4 := eq_true_of_ne_false hg4
      refine w_g_off rfl rfl (by rw [hg4]; decide) ?_
      refine w_g_off rfl rfl (by rw [hg4]; decide) ?_
      refine w_pick_1 rfl hg4 (by constructor) ?_
      try simp only [Int.toNat_natCast] at hg4
      exact hRR _ (EL.cons (.inr (by first | rfl | (simp only [hg4, els]; done) | (simp only [hg4, els]; rfl) | simp [hg4])) (EL.cons (.inl rfl) (EL.cons (.inl rfl) (EL.cons (.inl rfl) (EL.cons (.inr rfl) (EL.cons (.inr rfl) (EL.cons (.inr rfl) (EL.cons (.inr rfl) (EL.cons (.inr rfl) (EL.refl _))))))))))
  refine snd_cond _ rfl (fun hc46 => ?_) (fun hc46 => ?_)
  · skip
    exact absurd hc46 (by simp)
  · skip
    refine snd_skip ?_
    refine snd_seq ?_
    apply sr tokTB (by kernel_rfl)
    · intro RR hRR
      refine w_move (by constructor) ?_
      refine w_move (by constructor) ?_
      refine w_call rfl (exc ex_vl exn) (c_toVectorS (F := F) (M := M) (by omega)) (.inl ⟨trivial, ⟨fun _ _ => trivial, trivial⟩⟩) rfl (by constructor) rfl ?_
      refine y_call rfl rfl ((c_eqVectorS (N := M) (R := F) (S := F) (by omega) (fun i _ j _ => rfl)).mt ⟨mt_vl0 rfl, mt_vl0 rfl, trivial⟩) ?_
      refine w_not rfl ?_
      exact hRR
    refine snd_cond_false (by exact rfl) ?_
    refine snd_skip ?_
    apply sr tokTB (by kernel_rfl)
    · intro RR hRR
      refine w_assign (by constructor) ?_
      exact hRR
    apply srD tokTB (ops1 := [_, _]) (ops2 := [_]) (by kernel_rfl) rfl rfl
    · intro RR hRR
      refine w_move (by constructor) ?_
      refine w_move (by constructor) ?_
      exact hRR
    · exact mut_mid1 tokTB (c_markVectorS (N := M) (R := F) (k := 1) (by omega) (by omega)) (args := [.tmp 53]) (k := 31000) (i := 0) rfl rfl ⟨trivial, trivial⟩ trivial (fun _ _ => trivial) (fun _ _ => trivial) rfl
    · intro RR hRR
      refine w_assign (by constructor) ?_
      exact hRR
    refine snd_seq ?_
    apply srG (env' := (67, .bool ((decide ((1 + (M * 6 : Nat) : Int) < 0) || !true) || decide ((5 : Int) ≠ 5))) :: (66, .any) :: (65, .any) :: (64, .any) :: (63, .bool (decide ((1 + (M * 6 : Nat) : Int) < 0) || !true)) :: (62, .bool (decide ((1 + (M * 6 : Nat) : Int) < 0) || !true)) :: (61, .any) :: (60, .any) :: (59, .any) :: (58, .any) :: (57, _) :: (56, _) :: (55, _) :: _) tokTB (by kernel_rfl)
    · intro RR hRR
      refine w_move (by constructor) ?_
      refine w_lss rfl rfl ?_
      refine w_move (by constructor) ?_
      refine w_g rfl rfl (fun hg2 => ?_) (fun hg2 => ?_)
      · skip
        refine w_move (by constructor) ?_
        refine w_g_on rfl rfl hg2 ?_
        refine w_move (by constructor) ?_
        refine w_g_on rfl rfl hg2 ?_
        refine y_call rfl rfl ((c_eqVectorS (N := 0) (R := (fun _ _ => 0)) (S := (fun _ _ => 0)) (by omega) (fun i h => absurd h (by omega))).mt ⟨mt_nil0, mt_nil0, trivial⟩) ?_
        refine w_g_on rfl rfl hg2 ?_
        refine w_not rfl ?_
        refine w_pick_0 rfl hg2 (by constructor) ?_
        refine w_move (by constructor) ?_
        refine w_g rfl rfl (fun hg8 => ?_) (fun hg8 => ?_)
        · skip
          refine w_move (by constructor) ?_
          refine w_g_on rfl rfl hg8 ?_
          refine w_move (by constructor) ?_
          refine w_g_on rfl rfl hg8 ?_
          refine w_neq rfl rfl ?_
          refine w_pick_0 rfl hg8 (by constructor) ?_
          try simp only [Int.toNat_natCast] at hg2 hg8
          exact hRR _ (EL.cons (.inr (by first | rfl | (simp only [hg2, hg8, els]; done) | (simp only [hg2, hg8, els]; rfl) | simp [hg2, hg8])) (EL.cons (.inl rfl) (EL.cons (.inl rfl) (EL.cons (.inl rfl) (EL.cons (.inr (by first | rfl | (simp only [hg2, hg8, els]; done) | (simp only [hg2, hg8, els]; rfl) | simp [hg2, hg8])) (EL.cons (.inr (by first | rfl | (simp only [hg2, hg8, els]; done) | (simp only [hg2, hg8, els]; rfl) | simp [hg2, hg8])) (EL.cons (.inl rfl) (EL.cons (.inl rfl) (EL.cons (.inl rfl) (EL.cons (.inl rfl) (EL.cons (.inr rfl) (EL.cons (.inr rfl) (EL.cons (.inr rfl) (EL.refl _))))))))))))))
        · have hg8 := eq_true_of_ne_false hg8
          refine w_g_off rfl rfl (by rw [hg8]; decide) ?_
          refine w_g_off rfl rfl (by rw [hg8]; decide) ?_
          refine w_pick_1 rfl hg8 (by constructor) ?_
          try simp only [Int.toNat_natCast] at hg2 hg8
          exact hRR _ (EL.cons (.inr (by first | rfl | (simp only [hg2, hg8, els]; done) | (simp only [hg2, hg8, els]; rfl) | simp [hg2, hg8])) (EL.cons (.inl rfl) (EL.cons (.inl rfl) (EL.cons (.inl rfl) (EL.cons (.inr (by first | rfl | (simp only [hg2, hg8, els]; done) | (simp only [hg2, hg8, els]; rfl) | simp [hg2, hg8])) (EL.cons (.inr (by first | rfl | (simp only [hg2, hg8, els]; done) | (simp only [hg2, hg8, els]; rfl) | simp [hg2, hg8])) (EL.cons (.inl rfl) (EL.cons (.inl rfl) (EL.cons (.inl rfl) (EL.cons (.inl rfl) (EL.cons (.inr rfl) (EL.cons (.inr rfl) (EL.cons (.inr rfl) (EL.refl _))))))))))))))
      · have hg2 := eq_true_of_ne_false hg2
        refine w_g_off rfl rfl (by rw [hg2]; decide) ?_
        refine w_g_off rfl rfl (by rw [hg2]; decide) ?_
        refine w_g_off rfl rfl (by rw [hg2]; decide) ?_
        refine w_pick_1 rfl hg2 (by constructor) ?_
        refine w_move (by constructor) ?_
        refine w_g_off rfl rfl (by decide) ?_
        refine w_g_off rfl rfl (by decide) ?_
        refine w_g_off rfl rfl (by decide) ?_
        refine w_pick_1 rfl rfl (by constructor) ?_
        try simp only [Int.toNat_natCast] at hg2
        exact hRR _ (EL.cons (.inr (by first | rfl | (simp only [hg2, els]; done) | (simp only [hg2, els]; rfl) | simp [hg2])) (EL.cons (.inl rfl) (EL.cons (.inl rfl) (EL.cons (.inl rfl) (EL.cons (.inr (by first | rfl | (simp only [hg2, els]; done) | (simp only [hg2, els]; rfl) | simp [hg2])) (EL.cons (.inr (by first | rfl | (simp only [hg2, els]; done) | (simp only [hg2, els]; rfl) | simp [hg2])) (EL.cons (.inl rfl) (EL.cons (.inl rfl) (EL.cons (.inl rfl) (EL.cons (.inl rfl) (EL.cons (.inr rfl) (EL.cons (.inr rfl) (EL.cons (.inr rfl) (EL.refl _))))))))))))))
    refine snd_cond _ rfl (fun hc67 => ?_) (fun hc67 => ?_)
    · skip
      exact absurd hc67 (by rw [decide_eq_false (show ¬ (1 + (M * 6 : Nat) : Int) < 0 by omega)]; simp)
    · skip
      refine snd_skip ?_
      apply sr tokTB (by kernel_rfl)
      · intro RR hRR
        refine w_assign (by constructor) ?_
        exact hRR
      apply sr tokTB (by kernel_rfl)
      · intro RR hRR
        refine w_move (by constructor) ?_
        refine w_move (by constructor) ?_
        refine y_call rfl (ec (ec exn)) (c_markNilVectorS (k := 1)) ?_
        refine w_assign (by constructor) ?_
        exact hRR
      apply sr tokTB (by kernel_rfl)
      · intro RR hRR
        refine w_assign (by constructor) ?_
        exact hRR
      apply sr tokTB (by kernel_rfl)
      · intro RR hRR
        refine w_move (by constructor) ?_
        refine w_move (by constructor) ?_
        refine y_call rfl rfl ((c_heldVectorS (N := 0) (R := (fun _ _ => 0)) (k := 1) (by omega) (by omega) (fun i h => absurd h (by omega))).mt ⟨mt_nil0, mt_int0, trivial⟩) ?_
        refine w_assign (by constructor) ?_
        exact hRR
      refine snd_seq ?_
      apply sr tokTB (by kernel_rfl)
      · intro RR hRR
        refine w_move (by constructor) ?_
        refine w_lss rfl rfl ?_
        exact hRR
      refine snd_cond_false (by exact congrArg AV.bool (decide_eq_false (by omega))) ?_
      refine snd_skip ?_
      refine snd_seq ?_
      apply sr tokTB (by kernel_rfl)
      · intro RR hRR
        refine w_move (by constructor) ?_
        refine w_move (by constructor) ?_
        refine w_neq rfl rfl ?_
        exact hRR
      refine snd_cond_false (by exact congrArg AV.bool (decide_eq_false (by simp))) ?_
      refine snd_skip ?_
      apply sr tokTB (by kernel_rfl)
      · intro RR hRR
        refine w_ldc rfl kn26 (by constructor) (by exact sz26.symm) (by exact ag26.symm) ?_
        refine y_call rfl (ec exn) (c_toAlgebra) ?_
        refine w_move (by constructor) ?_
        refine w_call rfl (exc ex_vl exn) (c_toVectorS (F := F) (M := M) (by omega)) (.inl ⟨trivial, ⟨fun _ _ => trivial, trivial⟩⟩) rfl (by constructor) rfl ?_
        refine y_call rfl rfl ((c_iAnnihilatorOf_cm hv0 hM hF hz hc).mt ⟨mt_expc closed_alg (by simp), mt_vl0 rfl, trivial⟩) ?_
        refine w_move (by constructor) ?_
        refine w_ext rfl (by decide) (by constructor) ?_
        refine w_ext rfl (by decide) (by constructor) ?_
        refine w_assign (by constructor) ?_
        refine w_assign (by constructor) ?_
        exact hRR
      refine snd_seq ?_
      apply srG (env' := (95, .bool (!true || decide ((5 : Int) ≠ 5))) :: (94, .any) :: (93, .any) :: (92, .any) :: (91, _) :: (90, _) :: (89, _) :: (88, _) :: (87, _) :: _) tokTB (by kernel_rfl)
      · intro RR hRR
        refine w_move (by constructor) ?_
        refine w_move (by constructor) ?_
        refine y_call rfl rfl ((c_eqVectorS (N := 0) (R := (fun _ _ => 0)) (S := (fun _ _ => 0)) (by omega) (fun i h => absurd h (by omega))).mt ⟨mt_nil0, mt_nil0, trivial⟩) ?_
        refine w_not rfl ?_
        refine w_move (by constructor) ?_
        refine w_g rfl rfl (fun hg4 => ?_) (fun hg4 => ?_)
        · skip
          refine w_move (by constructor) ?_
          refine w_g_on rfl rfl hg4 ?_
          refine w_move (by constructor) ?_
          refine w_g_on rfl rfl hg4 ?_
          refine w_neq rfl rfl ?_
          refine w_pick_0 rfl hg4 (by constructor) ?_
          try simp only [Int.toNat_natCast] at hg4
          exact hRR _ (EL.cons (.inr (by first | rfl | (simp only [hg4, els]; done) | (simp only [hg4, els]; rfl) | simp [hg4])) (EL.cons (.inl rfl) (EL.cons (.inl rfl) (EL.cons (.inl rfl) (EL.cons (.inr rfl) (EL.cons (.inr rfl) (EL.cons (.inr rfl) (EL.cons (.inr rfl) (EL.cons (.inr rfl) (EL.refl _))))))))))
        · have hg4 := eq_true_of_ne_false hg4
          refine w_g_off rfl rfl (by rw [hg4]; decide) ?_
          refine w_g_off rfl rfl (by rw [hg4]; decide) ?_
          refine w_pick_1 rfl hg4 (by constructor) ?_
          try simp only [Int.toNat_natCast] at hg4
          exact hRR _ (EL.cons (.inr (by first | rfl | (simp only [hg4, els]; done) | (simp only [hg4, els]; rfl) | simp [hg4])) (EL.cons (.inl rfl) (EL.cons (.inl rfl) (EL.cons (.inl rfl) (EL.cons (.inr rfl) (EL.cons (.inr rfl) (EL.cons (.inr rfl) (EL.cons (.inr rfl) (EL.cons (.inr rfl) (EL.refl _))))))))))
      refine snd_cond _ rfl (fun hc95 => ?_) (fun hc95 => ?_)
      · skip
        exact absurd hc95 (by simp)
      · skip
        refine snd_skip ?_
        apply sr tokTB (by kernel_rfl)
        · intro RR hRR
          refine w_assign (by constructor) ?_
          exact hRR
        apply sr tokTB (by kernel_rfl)
        · intro RR hRR
          refine w_move (by constructor) ?_
          refine w_move (by constructor) ?_
          refine y_call rfl rfl ((c_heldVectorS (N := 0) (R := (fun _ _ => 0)) (k := 1) (by omega) (by omega) (fun i h => absurd h (by omega))).mt ⟨mt_nil0, mt_int0, trivial⟩) ?_
          refine w_assign (by constructor) ?_
          exact hRR
        refine snd_seq ?_
        apply sr tokTB (by kernel_rfl)
        · intro RR hRR
          refine w_move (by constructor) ?_
          refine w_lss rfl rfl ?_
          exact hRR
        refine snd_cond_false (by exact congrArg AV.bool (decide_eq_false (by omega))) ?_
        refine snd_skip ?_
        refine snd_seq ?_
        apply sr tokTB (by kernel_rfl)
        · intro RR hRR
          refine w_move (by constructor) ?_
          refine w_move (by constructor) ?_
          refine w_neq rfl rfl ?_
          exact hRR
        refine snd_cond_false (by exact congrArg AV.bool (decide_eq_false (by simp))) ?_
        refine snd_skip ?_
        apply sr tokTB (by kernel_rfl)
        · intro RR hRR
          refine w_assign (by constructor) ?_
          exact hRR
        refine snd_ret ?_
        exact rt (T := TB) (fun V => rfl)
theorem lAnnihilatorOf_bg {p : Int} {n : Nat} {T : Nat → Nat → Nat → Int} {fo : Nat → Int} (hv0 : VN p n T fo) {M : Nat} {F : Nat → Nat → Int} (hM : M ≤ 1048576) (hM6 : ¬ M ≤ 6) (hF : ∀ i, B8 (F i)) (hz : VZ p n T fo M F) : ACalls Try.prog TB 8 [algA p (n : Int) T fo, vlA M F] (.bool true) [] := by
  refine acalls_of tokTB Try.func8 rfl rfl (Nat.le_of_ble_eq_true rfl) ?_
  apply sr tokTB (by kernel_rfl)
  · intro RR hRR
    refine w_boxc (HV.eq (by constructor)) (by exact trivial) ?_
    refine w_assign (by constructor) ?_
    exact hRR
  apply sr tokTB (by kernel_rfl)
  · intro RR hRR
    refine w_assign (by constructor) ?_
    exact hRR
  apply sr tokTB (by kernel_rfl)
  · intro RR hRR
    refine w_move (by constructor) ?_
    refine w_move (by constructor) ?_
    refine y_call rfl (exc ex_vl (exc (by exact rfl) exn)) (c_szVectorS (F := F) (M := M) (by omega)) ?_
    refine w_assign (by constructor) ?_
    exact hRR
  refine snd_seq ?_
  apply sr tokTB (by kernel_rfl)
  · intro RR hRR
    refine w_move (by constructor) ?_
    refine w_lss rfl rfl ?_
    exact hRR
  refine snd_cond_false (by exact congrArg AV.bool (decide_eq_false (by omega))) ?_
  refine snd_skip ?_
  apply sr tokTB (by kernel_rfl)
  · intro RR hRR
    refine w_ldc rfl kn26 (by constructor) (by exact sz26.symm) (by exact ag26.symm) ?_
    refine y_call rfl (ec exn) (c_toAlgebra) ?_
    refine w_move (by constructor) ?_
    refine w_call rfl (exc ex_vl exn) (c_toVectorS (F := F) (M := M) (by omega)) (.inl ⟨trivial, ⟨fun _ _ => trivial, trivial⟩⟩) rfl (by constructor) rfl ?_
    refine y_call rfl rfl ((c_sAnnihilatorOf_bg hv0 (by omega) hM6 hF hz).mt ⟨mt_expc closed_alg (by simp), mt_vl0 rfl, trivial⟩) ?_
    refine w_move (by constructor) ?_
    refine w_ext rfl (by decide) (by constructor) ?_
    refine w_ext rfl (by decide) (by constructor) ?_
    refine w_assign (by constructor) ?_
    refine w_assign (by constructor) ?_
    exact hRR
  apply sr tokTB (by kernel_rfl)
  · intro RR hRR
    refine w_move (by constructor) ?_
    refine w_call rfl (exc ex_vl exn) (c_toVectorS (F := F) (M := M) (by omega)) (.inl ⟨trivial, ⟨fun _ _ => trivial, trivial⟩⟩) rfl (by constructor) rfl ?_
    refine w_assign (by constructor) ?_
    exact hRR
  apply sr tokTB (by kernel_rfl)
  · intro RR hRR
    refine w_ldc rfl kn26 (by constructor) (by exact sz26.symm) (by exact ag26.symm) ?_
    refine y_call rfl (ec exn) (c_toAlgebra) ?_
    refine w_move (by constructor) ?_
    refine y_call rfl rfl ((c_iAnnihilatorOf_bg hv0 (by omega) hM6 hF hz).mt ⟨mt_expc closed_alg (by simp), mt_vl0 rfl, trivial⟩) ?_
    refine w_move (by constructor) ?_
    refine w_ext rfl (by decide) (by constructor) ?_
    refine w_ext rfl (by decide) (by constructor) ?_
    refine w_assign (by constructor) ?_
    refine w_assign (by constructor) ?_
    exact hRR
  refine snd_seq ?_
  apply srG (env' := (46, .bool (!true || decide ((2 : Int) ≠ 2))) :: (45, .any) :: (44, .any) :: (43, .any) :: (42, _) :: (41, _) :: (40, _) :: (39, _) :: (38, _) :: _) tokTB (by kernel_rfl)
  · intro RR hRR
    refine w_move (by constructor) ?_
    refine w_move (by constructor) ?_
    refine y_call rfl rfl ((c_eqVectorS (N := 0) (R := (fun _ _ => 0)) (S := (fun _ _ => 0)) (by omega) (fun i h => absurd h (by omega))).mt ⟨mt_nil0, mt_nil0, trivial⟩) ?_
    refine w_not rfl ?_
    refine w_move (by constructor) ?_
    refine w_g rfl rfl (fun hg4 => ?_) (fun hg4 => ?_)
    · skip
      refine w_move (by constructor) ?_
      refine w_g_on rfl rfl hg4 ?_
      refine w_move (by constructor) ?_
      refine w_g_on rfl rfl hg4 ?_
      refine w_neq rfl rfl ?_
      refine w_pick_0 rfl hg4 (by constructor) ?_
      try simp only [Int.toNat_natCast] at hg4
      exact hRR _ (EL.cons (.inr (by first | rfl | (simp only [hg4, els]; done) | (simp only [hg4, els]; rfl) | simp [hg4])) (EL.cons (.inl rfl) (EL.cons (.inl rfl) (EL.cons (.inl rfl) (EL.cons (.inr rfl) (EL.cons (.inr rfl) (EL.cons (.inr rfl) (EL.cons (.inr rfl) (EL.cons (.inr rfl) (EL.refl _))))))))))
    · have hg4 := eq_true_of_ne_false hg4
      refine w_g_off rfl rfl (by rw [hg4]; decide) ?_
      refine w_g_off rfl rfl (by rw [hg4]; decide) ?_
      refine w_pick_1 rfl hg4 (by constructor) ?_
      try simp only [Int.toNat_natCast] at hg4
      exact hRR _ (EL.cons (.inr (by first | rfl | (simp only [hg4, els]; done) | (simp only [hg4, els]; rfl) | simp [hg4])) (EL.cons (.inl rfl) (EL.cons (.inl rfl) (EL.cons (.inl rfl) (EL.cons (.inr rfl) (EL.cons (.inr rfl) (EL.cons (.inr rfl) (EL.cons (.inr rfl) (EL.cons (.inr rfl) (EL.refl _))))))))))
  refine snd_cond _ rfl (fun hc46 => ?_) (fun hc46 => ?_)
  · skip
    exact absurd hc46 (by simp)
  · skip
    refine snd_skip ?_
    refine snd_seq ?_
    apply sr tokTB (by kernel_rfl)
    · intro RR hRR
      refine w_move (by constructor) ?_
      refine w_move (by constructor) ?_
      refine w_call rfl (exc ex_vl exn) (c_toVectorS (F := F) (M := M) (by omega)) (.inl ⟨trivial, ⟨fun _ _ => trivial, trivial⟩⟩) rfl (by constructor) rfl ?_
      refine y_call rfl rfl ((c_eqVectorS (N := M) (R := F) (S := F) (by omega) (fun i _ j _ => rfl)).mt ⟨mt_vl0 rfl, mt_vl0 rfl, trivial⟩) ?_
      refine w_not rfl ?_
      exact hRR
    refine snd_cond_false (by exact rfl) ?_
    refine snd_skip ?_
    apply sr tokTB (by kernel_rfl)
    · intro RR hRR
      refine w_assign (by constructor) ?_
      exact hRR
    apply srD tokTB (ops1 := [_, _]) (ops2 := [_]) (by kernel_rfl) rfl rfl
    · intro RR hRR
      refine w_move (by constructor) ?_
      refine w_move (by constructor) ?_
      exact hRR
    · exact mut_mid1 tokTB (c_markVectorS (N := M) (R := F) (k := 1) (by omega) (by omega)) (args := [.tmp 53]) (k := 31000) (i := 0) rfl rfl ⟨trivial, trivial⟩ trivial (fun _ _ => trivial) (fun _ _ => trivial) rfl
    · intro RR hRR
      refine w_assign (by constructor) ?_
      exact hRR
    refine snd_seq ?_
    apply srG (env' := (67, .bool ((decide ((1 + (M * 6 : Nat) : Int) < 0) || !true) || decide ((2 : Int) ≠ 2))) :: (66, .any) :: (65, .any) :: (64, .any) :: (63, .bool (decide ((1 + (M * 6 : Nat) : Int) < 0) || !true)) :: (62, .bool (decide ((1 + (M * 6 : Nat) : Int) < 0) || !true)) :: (61, .any) :: (60, .any) :: (59, .any) :: (58, .any) :: (57, _) :: (56, _) :: (55, _) :: _) tokTB (by kernel_rfl)
    · intro RR hRR
      refine w_move (by constructor) ?_
      refine w_lss rfl rfl ?_
      refine w_move (by constructor) ?_
      refine w_g rfl rfl (fun hg2 => ?_) (fun hg2 => ?_)
      · skip
        refine w_move (by constructor) ?_
        refine w_g_on rfl rfl hg2 ?_
        refine w_move (by constructor) ?_
        refine w_g_on rfl rfl hg2 ?_
        refine y_call rfl rfl ((c_eqVectorS (N := 0) (R := (fun _ _ => 0)) (S := (fun _ _ => 0)) (by omega) (fun i h => absurd h (by omega))).mt ⟨mt_nil0, mt_nil0, trivial⟩) ?_
        refine w_g_on rfl rfl hg2 ?_
        refine w_not rfl ?_
        refine w_pick_0 rfl hg2 (by constructor) ?_
        refine w_move (by constructor) ?_
        refine w_g rfl rfl (fun hg8 => ?_) (fun hg8 => ?_)
        · skip
          refine w_move (by constructor) ?_
          refine w_g_on rfl rfl hg8 ?_
          refine w_move (by constructor) ?_
          refine w_g_on rfl rfl hg8 ?_
          refine w_neq rfl rfl ?_
          refine w_pick_0 rfl hg8 (by constructor) ?_
          try simp only [Int.toNat_natCast] at hg2 hg8
          exact hRR _ (EL.cons (.inr (by first | rfl | (simp only [hg2, hg8, els]; done) | (simp only [hg2, hg8, els]; rfl) | simp [hg2, hg8])) (EL.cons (.inl rfl) (EL.cons (.inl rfl) (EL.cons (.inl rfl) (EL.cons (.inr (by first | rfl | (simp only [hg2, hg8, els]; done) | (simp only [hg2, hg8, els]; rfl) | simp [hg2, hg8])) (EL.cons (.inr (by first | rfl | (simp only [hg2, hg8, els]; done) | (simp only [hg2, hg8, els]; rfl) | simp [hg2, hg8])) (EL.cons (.inl rfl) (EL.cons (.inl rfl) (EL.cons (.inl rfl) (EL.cons (.inl rfl) (EL.cons (.inr rfl) (EL.cons (.inr rfl) (EL.cons (.inr rfl) (EL.refl _))))))))))))))
        · have hg8 := eq_true_of_ne_false hg8
          refine w_g_off rfl rfl (by rw [hg8]; decide) ?_
          refine w_g_off rfl rfl (by rw [hg8]; decide) ?_
          refine w_pick_1 rfl hg8 (by constructor) ?_
          try simp only [Int.toNat_natCast] at hg2 hg8
          exact hRR _ (EL.cons (.inr (by first | rfl | (simp only [hg2, hg8, els]; done) | (simp only [hg2, hg8, els]; rfl) | simp [hg2, hg8])) (EL.cons (.inl rfl) (EL.cons (.inl rfl) (EL.cons (.inl rfl) (EL.cons (.inr (by first | rfl | (simp only [hg2, hg8, els]; done) | (simp only [hg2, hg8, els]; rfl) | simp [hg2, hg8])) (EL.cons (.inr (by first | rfl | (simp only [hg2, hg8, els]; done) | (simp only [hg2, hg8, els]; rfl) | simp [hg2, hg8])) (EL.cons (.inl rfl) (EL.cons (.inl rfl) (EL.cons (.inl rfl) (EL.cons (.inl rfl) (EL.cons (.inr rfl) (EL.cons (.inr rfl) (EL.cons (.inr rfl) (EL.refl _))))))))))))))
      · have hg2 := eq_true_of_ne_false hg2
        refine w_g_off rfl rfl (by rw [hg2]; decide) ?_
        refine w_g_off rfl rfl (by rw [hg2]; decide) ?_
        refine w_g_off rfl rfl (by rw [hg2]; decide) ?_
        refine w_pick_1 rfl hg2 (by constructor) ?_
        refine w_move (by constructor) ?_
        refine w_g_off rfl rfl (by decide) ?_
        refine w_g_off rfl rfl (by decide) ?_
        refine w_g_off rfl rfl (by decide) ?_
        refine w_pick_1 rfl rfl (by constructor) ?_
        try simp only [Int.toNat_natCast] at hg2
        exact hRR _ (EL.cons (.inr (by first | rfl | (simp only [hg2, els]; done) | (simp only [hg2, els]; rfl) | simp [hg2])) (EL.cons (.inl rfl) (EL.cons (.inl rfl) (EL.cons (.inl rfl) (EL.cons (.inr (by first | rfl | (simp only [hg2, els]; done) | (simp only [hg2, els]; rfl) | simp [hg2])) (EL.cons (.inr (by first | rfl | (simp only [hg2, els]; done) | (simp only [hg2, els]; rfl) | simp [hg2])) (EL.cons (.inl rfl) (EL.cons (.inl rfl) (EL.cons (.inl rfl) (EL.cons (.inl rfl) (EL.cons (.inr rfl) (EL.cons (.inr rfl) (EL.cons (.inr rfl) (EL.refl _))))))))))))))
    refine snd_cond _ rfl (fun hc67 => ?_) (fun hc67 => ?_)
    · skip
      exact absurd hc67 (by rw [decide_eq_false (show ¬ (1 + (M * 6 : Nat) : Int) < 0 by omega)]; simp)
    · skip
      refine snd_skip ?_
      apply sr tokTB (by kernel_rfl)
      · intro RR hRR
        refine w_assign (by constructor) ?_
        exact hRR
      apply sr tokTB (by kernel_rfl)
      · intro RR hRR
        refine w_move (by constructor) ?_
        refine w_move (by constructor) ?_
        refine y_call rfl (ec (ec exn)) (c_markNilVectorS (k := 1)) ?_
        refine w_assign (by constructor) ?_
        exact hRR
      apply sr tokTB (by kernel_rfl)
      · intro RR hRR
        refine w_assign (by constructor) ?_
        exact hRR
      apply sr tokTB (by kernel_rfl)
      · intro RR hRR
        refine w_move (by constructor) ?_
        refine w_move (by constructor) ?_
        refine y_call rfl rfl ((c_heldVectorS (N := 0) (R := (fun _ _ => 0)) (k := 1) (by omega) (by omega) (fun i h => absurd h (by omega))).mt ⟨mt_nil0, mt_int0, trivial⟩) ?_
        refine w_assign (by constructor) ?_
        exact hRR
      refine snd_seq ?_
      apply sr tokTB (by kernel_rfl)
      · intro RR hRR
        refine w_move (by constructor) ?_
        refine w_lss rfl rfl ?_
        exact hRR
      refine snd_cond_false (by exact congrArg AV.bool (decide_eq_false (by omega))) ?_
      refine snd_skip ?_
      refine snd_seq ?_
      apply sr tokTB (by kernel_rfl)
      · intro RR hRR
        refine w_move (by constructor) ?_
        refine w_move (by constructor) ?_
        refine w_neq rfl rfl ?_
        exact hRR
      refine snd_cond_false (by exact congrArg AV.bool (decide_eq_false (by simp))) ?_
      refine snd_skip ?_
      apply sr tokTB (by kernel_rfl)
      · intro RR hRR
        refine w_ldc rfl kn26 (by constructor) (by exact sz26.symm) (by exact ag26.symm) ?_
        refine y_call rfl (ec exn) (c_toAlgebra) ?_
        refine w_move (by constructor) ?_
        refine w_call rfl (exc ex_vl exn) (c_toVectorS (F := F) (M := M) (by omega)) (.inl ⟨trivial, ⟨fun _ _ => trivial, trivial⟩⟩) rfl (by constructor) rfl ?_
        refine y_call rfl rfl ((c_iAnnihilatorOf_bg hv0 (by omega) hM6 hF hz).mt ⟨mt_expc closed_alg (by simp), mt_vl0 rfl, trivial⟩) ?_
        refine w_move (by constructor) ?_
        refine w_ext rfl (by decide) (by constructor) ?_
        refine w_ext rfl (by decide) (by constructor) ?_
        refine w_assign (by constructor) ?_
        refine w_assign (by constructor) ?_
        exact hRR
      refine snd_seq ?_
      apply srG (env' := (95, .bool (!true || decide ((2 : Int) ≠ 2))) :: (94, .any) :: (93, .any) :: (92, .any) :: (91, _) :: (90, _) :: (89, _) :: (88, _) :: (87, _) :: _) tokTB (by kernel_rfl)
      · intro RR hRR
        refine w_move (by constructor) ?_
        refine w_move (by constructor) ?_
        refine y_call rfl rfl ((c_eqVectorS (N := 0) (R := (fun _ _ => 0)) (S := (fun _ _ => 0)) (by omega) (fun i h => absurd h (by omega))).mt ⟨mt_nil0, mt_nil0, trivial⟩) ?_
        refine w_not rfl ?_
        refine w_move (by constructor) ?_
        refine w_g rfl rfl (fun hg4 => ?_) (fun hg4 => ?_)
        · skip
          refine w_move (by constructor) ?_
          refine w_g_on rfl rfl hg4 ?_
          refine w_move (by constructor) ?_
          refine w_g_on rfl rfl hg4 ?_
          refine w_neq rfl rfl ?_
          refine w_pick_0 rfl hg4 (by constructor) ?_
          try simp only [Int.toNat_natCast] at hg4
          exact hRR _ (EL.cons (.inr (by first | rfl | (simp only [hg4, els]; done) | (simp only [hg4, els]; rfl) | simp [hg4])) (EL.cons (.inl rfl) (EL.cons (.inl rfl) (EL.cons (.inl rfl) (EL.cons (.inr rfl) (EL.cons (.inr rfl) (EL.cons (.inr rfl) (EL.cons (.inr rfl) (EL.cons (.inr rfl) (EL.refl _))))))))))
        · have hg4 := eq_true_of_ne_false hg4
          refine w_g_off rfl rfl (by rw [hg4]; decide) ?_
          refine w_g_off rfl rfl (by rw [hg4]; decide) ?_
          refine w_pick_1 rfl hg4 (by constructor) ?_
          try simp only [Int.toNat_natCast] at hg4
          exact hRR _ (EL.cons (.inr (by first | rfl | (simp only [hg4, els]; done) | (simp only [hg4, els]; rfl) | simp [hg4])) (EL.cons (.inl rfl) (EL.cons (.inl rfl) (EL.cons (.inl rfl) (EL.cons (.inr rfl) (EL.cons (.inr rfl) (EL.cons (.inr rfl) (EL.cons (.inr rfl) (EL.cons (.inr rfl) (EL.refl _))))))))))
      refine snd_cond _ rfl (fun hc95 => ?_) (fun hc95 => ?_)
      · skip
        exact absurd hc95 (by simp)
      · skip
        refine snd_skip ?_
        apply sr tokTB (by kernel_rfl)
        · intro RR hRR
          refine w_assign (by constructor) ?_
          exact hRR
        apply sr tokTB (by kernel_rfl)
        · intro RR hRR
          refine w_move (by constructor) ?_
          refine w_move (by constructor) ?_
          refine y_call rfl rfl ((c_heldVectorS (N := 0) (R := (fun _ _ => 0)) (k := 1) (by omega) (by omega) (fun i h => absurd h (by omega))).mt ⟨mt_nil0, mt_int0, trivial⟩) ?_
          refine w_assign (by constructor) ?_
          exact hRR
        refine snd_seq ?_
        apply sr tokTB (by kernel_rfl)
        · intro RR hRR
          refine w_move (by constructor) ?_
          refine w_lss rfl rfl ?_
          exact hRR
        refine snd_cond_false (by exact congrArg AV.bool (decide_eq_false (by omega))) ?_
        refine snd_skip ?_
        refine snd_seq ?_
        apply sr tokTB (by kernel_rfl)
        · intro RR hRR
          refine w_move (by constructor) ?_
          refine w_move (by constructor) ?_
          refine w_neq rfl rfl ?_
          exact hRR
        refine snd_cond_false (by exact congrArg AV.bool (decide_eq_false (by simp))) ?_
        refine snd_skip ?_
        apply sr tokTB (by kernel_rfl)
        · intro RR hRR
          refine w_assign (by constructor) ?_
          exact hRR
        refine snd_ret ?_
        exact rt (T := TB) (fun V => rfl)
theorem lAnnihilatorOf_no {p n : Int} {T : Nat → Nat → Nat → Int} {fo : Nat → Int} (hT : RB T) (hf : RV fo) {M : Nat} {F : Nat → Nat → Int} (hM : M ≤ 1048576) (hF : ∀ i, B8 (F i)) (hz : ¬ VZ p n T fo M F) : ACalls Try.prog TB 8 [algA p n T fo, vlA M F] (.bool true) [] := by
  refine acalls_of tokTB Try.func8 rfl rfl (Nat.le_of_ble_eq_true rfl) ?_
  apply sr tokTB (by kernel_rfl)
  · intro RR hRR
    refine w_boxc (HV.eq (by constructor)) (by exact trivial) ?_
    refine w_assign (by constructor) ?_
    exact hRR
  apply sr tokTB (by kernel_rfl)
  · intro RR hRR
    refine w_assign (by constructor) ?_
    exact hRR
  apply sr tokTB (by kernel_rfl)
  · intro RR hRR
    refine w_move (by constructor) ?_
    refine w_move (by constructor) ?_
    refine y_call rfl (exc ex_vl (exc (by exact rfl) exn)) (c_szVectorS (F := F) (M := M) (by omega)) ?_
    refine w_assign (by constructor) ?_
    exact hRR
  refine snd_seq ?_
  apply sr tokTB (by kernel_rfl)
  · intro RR hRR
    refine w_move (by constructor) ?_
    refine w_lss rfl rfl ?_
    exact hRR
  refine snd_cond_false (by exact congrArg AV.bool (decide_eq_false (by omega))) ?_
  refine snd_skip ?_
  apply sr tokTB (by kernel_rfl)
  · intro RR hRR
    refine w_ldc rfl kn26 (by constructor) (by exact sz26.symm) (by exact ag26.symm) ?_
    refine y_call rfl (ec exn) (c_toAlgebra) ?_
    refine w_move (by constructor) ?_
    refine w_call rfl (exc ex_vl exn) (c_toVectorS (F := F) (M := M) (by omega)) (.inl ⟨trivial, ⟨fun _ _ => trivial, trivial⟩⟩) rfl (by constructor) rfl ?_
    refine y_call rfl rfl ((c_sAnnihilatorOf_no hT hf (by omega) hF hz).mt ⟨mt_expc closed_alg (by simp), mt_vl0 rfl, trivial⟩) ?_
    refine w_move (by constructor) ?_
    refine w_ext rfl (by decide) (by constructor) ?_
    refine w_ext rfl (by decide) (by constructor) ?_
    refine w_assign (by constructor) ?_
    refine w_assign (by constructor) ?_
    exact hRR
  apply sr tokTB (by kernel_rfl)
  · intro RR hRR
    refine w_move (by constructor) ?_
    refine w_call rfl (exc ex_vl exn) (c_toVectorS (F := F) (M := M) (by omega)) (.inl ⟨trivial, ⟨fun _ _ => trivial, trivial⟩⟩) rfl (by constructor) rfl ?_
    refine w_assign (by constructor) ?_
    exact hRR
  apply sr tokTB (by kernel_rfl)
  · intro RR hRR
    refine w_ldc rfl kn26 (by constructor) (by exact sz26.symm) (by exact ag26.symm) ?_
    refine y_call rfl (ec exn) (c_toAlgebra) ?_
    refine w_move (by constructor) ?_
    refine y_call rfl rfl ((c_iAnnihilatorOf_no hT hf (by omega) hF hz).mt ⟨mt_expc closed_alg (by simp), mt_vl0 rfl, trivial⟩) ?_
    refine w_move (by constructor) ?_
    refine w_ext rfl (by decide) (by constructor) ?_
    refine w_ext rfl (by decide) (by constructor) ?_
    refine w_assign (by constructor) ?_
    refine w_assign (by constructor) ?_
    exact hRR
  refine snd_seq ?_
  apply srG (env' := (46, .bool (!true || decide ((1 : Int) ≠ 1))) :: (45, .any) :: (44, .any) :: (43, .any) :: (42, _) :: (41, _) :: (40, _) :: (39, _) :: (38, _) :: _) tokTB (by kernel_rfl)
  · intro RR hRR
    refine w_move (by constructor) ?_
    refine w_move (by constructor) ?_
    refine y_call rfl rfl ((c_eqVectorS (N := 0) (R := (fun _ _ => 0)) (S := (fun _ _ => 0)) (by omega) (fun i h => absurd h (by omega))).mt ⟨mt_nil0, mt_nil0, trivial⟩) ?_
    refine w_not rfl ?_
    refine w_move (by constructor) ?_
    refine w_g rfl rfl (fun hg4 => ?_) (fun hg4 => ?_)
    · skip
      refine w_move (by constructor) ?_
      refine w_g_on rfl rfl hg4 ?_
      refine w_move (by constructor) ?_
      refine w_g_on rfl rfl hg4 ?_
      refine w_neq rfl rfl ?_
      refine w_pick_0 rfl hg4 (by constructor) ?_
      try simp only [Int.toNat_natCast] at hg4
      exact hRR _ (EL.cons (.inr (by first | rfl | (simp only [hg4, els]; done) | (simp only [hg4, els]; rfl) | simp [hg4])) (EL.cons (.inl rfl) (EL.cons (.inl rfl) (EL.cons (.inl rfl) (EL.cons (.inr rfl) (EL.cons (.inr rfl) (EL.cons (.inr rfl) (EL.cons (.inr rfl) (EL.cons (.inr rfl) (EL.refl _))))))))))
    · have hg4 := eq_true_of_ne_false hg4
      refine w_g_off rfl rfl (by rw [hg4]; decide) ?_
      refine w_g_off rfl rfl (by rw [hg4]; decide) ?_
      refine w_pick_1 rfl hg4 (by constructor) ?_
      try simp only [Int.toNat_natCast] at hg4
      exact hRR _ (EL.cons (.inr (by first | rfl | (simp only [hg4, els]; done) | (simp only [hg4, els]; rfl) | simp [hg4])) (EL.cons (.inl rfl) (EL.cons (.inl rfl) (EL.cons (.inl rfl) (EL.cons (.inr rfl) (EL.cons (.inr rfl) (EL.cons (.inr rfl) (EL.cons (.inr rfl) (EL.cons (.inr rfl) (EL.refl _))))))))))
  refine snd_cond _ rfl (fun hc46 => ?_) (fun hc46 => ?_)
  · skip
    exact absurd hc46 (by simp)
  · skip
    refine snd_skip ?_
    refine snd_seq ?_
    apply sr tokTB (by kernel_rfl)
    · intro RR hRR
      refine w_move (by constructor) ?_
      refine w_move (by constructor) ?_
      refine w_call rfl (exc ex_vl exn) (c_toVectorS (F := F) (M := M) (by omega)) (.inl ⟨trivial, ⟨fun _ _ => trivial, trivial⟩⟩) rfl (by constructor) rfl ?_
      refine y_call rfl rfl ((c_eqVectorS (N := M) (R := F) (S := F) (by omega) (fun i _ j _ => rfl)).mt ⟨mt_vl0 rfl, mt_vl0 rfl, trivial⟩) ?_
      refine w_not rfl ?_
      exact hRR
    refine snd_cond_false (by exact rfl) ?_
    refine snd_skip ?_
    apply sr tokTB (by kernel_rfl)
    · intro RR hRR
      refine w_assign (by constructor) ?_
      exact hRR
    apply srD tokTB (ops1 := [_, _]) (ops2 := [_]) (by kernel_rfl) rfl rfl
    · intro RR hRR
      refine w_move (by constructor) ?_
      refine w_move (by constructor) ?_
      exact hRR
    · exact mut_mid1 tokTB (c_markVectorS (N := M) (R := F) (k := 1) (by omega) (by omega)) (args := [.tmp 53]) (k := 31000) (i := 0) rfl rfl ⟨trivial, trivial⟩ trivial (fun _ _ => trivial) (fun _ _ => trivial) rfl
    · intro RR hRR
      refine w_assign (by constructor) ?_
      exact hRR
    refine snd_seq ?_
    apply srG (env' := (67, .bool ((decide ((1 + (M * 6 : Nat) : Int) < 0) || !true) || decide ((1 : Int) ≠ 1))) :: (66, .any) :: (65, .any) :: (64, .any) :: (63, .bool (decide ((1 + (M * 6 : Nat) : Int) < 0) || !true)) :: (62, .bool (decide ((1 + (M * 6 : Nat) : Int) < 0) || !true)) :: (61, .any) :: (60, .any) :: (59, .any) :: (58, .any) :: (57, _) :: (56, _) :: (55, _) :: _) tokTB (by kernel_rfl)
    · intro RR hRR
      refine w_move (by constructor) ?_
      refine w_lss rfl rfl ?_
      refine w_move (by constructor) ?_
      refine w_g rfl rfl (fun hg2 => ?_) (fun hg2 => ?_)
      · skip
        refine w_move (by constructor) ?_
        refine w_g_on rfl rfl hg2 ?_
        refine w_move (by constructor) ?_
        refine w_g_on rfl rfl hg2 ?_
        refine y_call rfl rfl ((c_eqVectorS (N := 0) (R := (fun _ _ => 0)) (S := (fun _ _ => 0)) (by omega) (fun i h => absurd h (by omega))).mt ⟨mt_nil0, mt_nil0, trivial⟩) ?_
        refine w_g_on rfl rfl hg2 ?_
        refine w_not rfl ?_
        refine w_pick_0 rfl hg2 (by constructor) ?_
        refine w_move (by constructor) ?_
        refine w_g rfl rfl (fun hg8 => ?_) (fun hg8 => ?_)
        · skip
          refine w_move (by constructor) ?_
          refine w_g_on rfl rfl hg8 ?_
          refine w_move (by constructor) ?_
          refine w_g_on rfl rfl hg8 ?_
          refine w_neq rfl rfl ?_
          refine w_pick_0 rfl hg8 (by constructor) ?_
          try simp only [Int.toNat_natCast] at hg2 hg8
          exact hRR _ (EL.cons (.inr (by first | rfl | (simp only [hg2, hg8, els]; done) | (simp only [hg2, hg8, els]; rfl) | simp [hg2, hg8])) (EL.cons (.inl rfl) (EL.cons (.inl rfl) (EL.cons (.inl rfl) (EL.cons (.inr (by first | rfl | (simp only [hg2, hg8, els]; done) | (simp only [hg2, hg8, els]; rfl) | simp [hg2, hg8])) (EL.cons (.inr (by first | rfl | (simp only [hg2, hg8, els]; done) | (simp only [hg2, hg8, els]; rfl) | simp [hg2, hg8])) (EL.cons (.inl rfl) (EL.cons (.inl rfl) (EL.cons (.inl rfl) (EL.cons (.inl rfl) (EL.cons (.inr rfl) (EL.cons (.inr rfl) (EL.cons (.inr rfl) (EL.refl _))))))))))))))
        · have hg8 := eq_true_of_ne_false hg8
          refine w_g_off rfl rfl (by rw [hg8]; decide) ?_
          refine w_g_off rfl rfl (by rw [hg8]; decide) ?_
          refine w_pick_1 rfl hg8 (by constructor) ?_
          try simp only [Int.toNat_natCast] at hg2 hg8
          exact hRR _ (EL.cons (.inr (by first | rfl | (simp only [hg2, hg8, els]; done) | (simp only [hg2, hg8, els]; rfl) | simp [hg2, hg8])) (EL.cons (.inl rfl) (EL.cons (.inl rfl) (EL.cons (.inl rfl) (EL.cons (.inr (by first | rfl | (simp only [hg2, hg8, els]; done) | (simp only [hg2, hg8, els]; rfl) | simp [hg2, hg8])) (EL.cons (.inr (by first | rfl | (simp only [hg2, hg8, els]; done) | (simp only [hg2, hg8, els]; rfl) | simp [hg2, hg8])) (EL.cons (.inl rfl) (EL.cons (.inl rfl) (EL.cons (.inl rfl) (EL.cons (.inl rfl) (EL.cons (.inr rfl) (EL.cons (.inr rfl) (EL.cons (.inr rfl) (EL.refl _))))))))))))))
      · have hg2 := eq_true_of_ne_false hg2
        refine w_g_off rfl rfl (by rw [hg2]; decide) ?_
        refine w_g_off rfl rfl (by rw [hg2]; decide) ?_
        refine w_g_off rfl rfl (by rw [hg2]; decide) ?_
        refine w_pick_1 rfl hg2 (by constructor) ?_
        refine w_move (by constructor) ?_
        refine w_g_off rfl rfl (by decide) ?_
        refine w_g_off rfl rfl (by decide) ?_
        refine w_g_off rfl rfl (by decide) ?_
        refine w_pick_1 rfl rfl (by constructor) ?_
        try simp only [Int.toNat_natCast] at hg2
        exact hRR _ (EL.cons (.inr (by first | rfl | (simp only [hg2, els]; done) | (simp only [hg2, els]; rfl) | simp [hg2])) (EL.cons (.inl rfl) (EL.cons (.inl rfl) (EL.cons (.inl rfl) (EL.cons (.inr (by first | rfl | (simp only [hg2, els]; done) | (simp only [hg2, els]; rfl) | simp [hg2])) (EL.cons (.inr (by first | rfl | (simp only [hg2, els]; done) | (simp only [hg2, els]; rfl) | simp [hg2])) (EL.cons (.inl rfl) (EL.cons (.inl rfl) (EL.cons (.inl rfl) (EL.cons (.inl rfl) (EL.cons (.inr rfl) (EL.cons (.inr rfl) (EL.cons (.inr rfl) (EL.refl _))))))))))))))
    refine snd_cond _ rfl (fun hc67 => ?_) (fun hc67 => ?_)
    · skip
      exact absurd hc67 (by rw [decide_eq_false (show ¬ (1 + (M * 6 : Nat) : Int) < 0 by omega)]; simp)
    · skip
      refine snd_skip ?_
      apply sr tokTB (by kernel_rfl)
      · intro RR hRR
        refine w_assign (by constructor) ?_
        exact hRR
      apply sr tokTB (by kernel_rfl)
      · intro RR hRR
        refine w_move (by constructor) ?_
        refine w_move (by constructor) ?_
        refine y_call rfl (ec (ec exn)) (c_markNilVectorS (k := 1)) ?_
        refine w_assign (by constructor) ?_
        exact hRR
      apply sr tokTB (by kernel_rfl)
      · intro RR hRR
        refine w_assign (by constructor) ?_
        exact hRR
      apply sr tokTB (by kernel_rfl)
      · intro RR hRR
        refine w_move (by constructor) ?_
        refine w_move (by constructor) ?_
        refine y_call rfl rfl ((c_heldVectorS (N := 0) (R := (fun _ _ => 0)) (k := 1) (by omega) (by omega) (fun i h => absurd h (by omega))).mt ⟨mt_nil0, mt_int0, trivial⟩) ?_
        refine w_assign (by constructor) ?_
        exact hRR
      refine snd_seq ?_
      apply sr tokTB (by kernel_rfl)
      · intro RR hRR
        refine w_move (by constructor) ?_
        refine w_lss rfl rfl ?_
        exact hRR
      refine snd_cond_false (by exact congrArg AV.bool (decide_eq_false (by omega))) ?_
      refine snd_skip ?_
      refine snd_seq ?_
      apply sr tokTB (by kernel_rfl)
      · intro RR hRR
        refine w_move (by constructor) ?_
        refine w_move (by constructor) ?_
        refine w_neq rfl rfl ?_
        exact hRR
      refine snd_cond_false (by exact congrArg AV.bool (decide_eq_false (by simp))) ?_
      refine snd_skip ?_
      apply sr tokTB (by kernel_rfl)
      · intro RR hRR
        refine w_ldc rfl kn26 (by constructor) (by exact sz26.symm) (by exact ag26.symm) ?_
        refine y_call rfl (ec exn) (c_toAlgebra) ?_
        refine w_move (by constructor) ?_
        refine w_call rfl (exc ex_vl exn) (c_toVectorS (F := F) (M := M) (by omega)) (.inl ⟨trivial, ⟨fun _ _ => trivial, trivial⟩⟩) rfl (by constructor) rfl ?_
        refine y_call rfl rfl ((c_iAnnihilatorOf_no hT hf (by omega) hF hz).mt ⟨mt_expc closed_alg (by simp), mt_vl0 rfl, trivial⟩) ?_
        refine w_move (by constructor) ?_
        refine w_ext rfl (by decide) (by constructor) ?_
        refine w_ext rfl (by decide) (by constructor) ?_
        refine w_assign (by constructor) ?_
        refine w_assign (by constructor) ?_
        exact hRR
      refine snd_seq ?_
      apply srG (env' := (95, .bool (!true || decide ((1 : Int) ≠ 1))) :: (94, .any) :: (93, .any) :: (92, .any) :: (91, _) :: (90, _) :: (89, _) :: (88, _) :: (87, _) :: _) tokTB (by kernel_rfl)
      · intro RR hRR
        refine w_move (by constructor) ?_
        refine w_move (by constructor) ?_
        refine y_call rfl rfl ((c_eqVectorS (N := 0) (R := (fun _ _ => 0)) (S := (fun _ _ => 0)) (by omega) (fun i h => absurd h (by omega))).mt ⟨mt_nil0, mt_nil0, trivial⟩) ?_
        refine w_not rfl ?_
        refine w_move (by constructor) ?_
        refine w_g rfl rfl (fun hg4 => ?_) (fun hg4 => ?_)
        · skip
          refine w_move (by constructor) ?_
          refine w_g_on rfl rfl hg4 ?_
          refine w_move (by constructor) ?_
          refine w_g_on rfl rfl hg4 ?_
          refine w_neq rfl rfl ?_
          refine w_pick_0 rfl hg4 (by constructor) ?_
          try simp only [Int.toNat_natCast] at hg4
          exact hRR _ (EL.cons (.inr (by first | rfl | (simp only [hg4, els]; done) | (simp only [hg4, els]; rfl) | simp [hg4])) (EL.cons (.inl rfl) (EL.cons (.inl rfl) (EL.cons (.inl rfl) (EL.cons (.inr rfl) (EL.cons (.inr rfl) (EL.cons (.inr rfl) (EL.cons (.inr rfl) (EL.cons (.inr rfl) (EL.refl _))))))))))
        · have hg4 := eq_true_of_ne_false hg4
          refine w_g_off rfl rfl (by rw [hg4]; decide) ?_
          refine w_g_off rfl rfl (by rw [hg4]; decide) ?_
          refine w_pick_1 rfl hg4 (by constructor) ?_
          try simp only [Int.toNat_natCast] at hg4
          exact hRR _ (EL.cons (.inr (by first | rfl | (simp only [hg4, els]; done) | (simp only [hg4, els]; rfl) | simp [hg4])) (EL.cons (.inl rfl) (EL.cons (.inl rfl) (EL.cons (.inl rfl) (EL.cons (.inr rfl) (EL.cons (.inr rfl) (EL.cons (.inr rfl) (EL.cons (.inr rfl) (EL.cons (.inr rfl) (EL.refl _))))))))))
      refine snd_cond _ rfl (fun hc95 => ?_) (fun hc95 => ?_)
      · skip
        exact absurd hc95 (by simp)
      · skip
        refine snd_skip ?_
        apply sr tokTB (by kernel_rfl)
        · intro RR hRR
          refine w_assign (by constructor) ?_
          exact hRR
        apply sr tokTB (by kernel_rfl)
        · intro RR hRR
          refine w_move (by constructor) ?_
          refine w_move (by constructor) ?_
          refine y_call rfl rfl ((c_heldVectorS (N := 0) (R := (fun _ _ => 0)) (k := 1) (by omega) (by omega) (fun i h => absurd h (by omega))).mt ⟨mt_nil0, mt_int0, trivial⟩) ?_
          refine w_assign (by constructor) ?_
          exact hRR
        refine snd_seq ?_
        apply sr tokTB (by kernel_rfl)
        · intro RR hRR
          refine w_move (by constructor) ?_
          refine w_lss rfl rfl ?_
          exact hRR
        refine snd_cond_false (by exact congrArg AV.bool (decide_eq_false (by omega))) ?_
        refine snd_skip ?_
        refine snd_seq ?_
        apply sr tokTB (by kernel_rfl)
        · intro RR hRR
          refine w_move (by constructor) ?_
          refine w_move (by constructor) ?_
          refine w_neq rfl rfl ?_
          exact hRR
        refine snd_cond_false (by exact congrArg AV.bool (decide_eq_false (by simp))) ?_
        refine snd_skip ?_
        apply sr tokTB (by kernel_rfl)
        · intro RR hRR
          refine w_assign (by constructor) ?_
          exact hRR
        refine snd_ret ?_
        exact rt (T := TB) (fun V => rfl)
theorem lAnnihilatorOf_big {p n : Int} {T : Nat → Nat → Nat → Int} {fo : Nat → Int} {M : Nat} {F : Nat → Nat → Int} (hM : 1048576 < M) (hM2 : M ≤ 9223372036854775807) : ACalls Try.prog TB 8 [algA p n T fo, vlA M F] (.bool true) [] := by
  refine acalls_of tokTB Try.func8 rfl rfl (Nat.le_of_ble_eq_true rfl) ?_
  apply sr tokTB (by kernel_rfl)
  · intro RR hRR
    refine w_boxc (HV.eq (by constructor)) (by exact trivial) ?_
    refine w_assign (by constructor) ?_
    exact hRR
  apply sr tokTB (by kernel_rfl)
  · intro RR hRR
    refine w_assign (by constructor) ?_
    exact hRR
  apply sr tokTB (by kernel_rfl)
  · intro RR hRR
    refine w_move (by constructor) ?_
    refine w_move (by constructor) ?_
    refine y_call rfl (exc ex_vl (exc (by exact rfl) exn)) (c_szVectorS_big (F := F) hM hM2) ?_
    refine w_assign (by constructor) ?_
    exact hRR
  refine snd_seq ?_
  apply sr tokTB (by kernel_rfl)
  · intro RR hRR
    refine w_move (by constructor) ?_
    refine w_lss rfl rfl ?_
    exact hRR
  refine snd_cond_true (by exact congrArg AV.bool (decide_eq_true (by omega))) ?_
  apply sr tokTB (by kernel_rfl)
  · intro RR hRR
    refine w_assign (by constructor) ?_
    exact hRR
  refine snd_ret ?_
  exact rt (T := TB) (fun V => rfl)
theorem law_AnnihilatorOf {p n : Int} {T : Nat → Nat → Nat → Int} {fo : Nat → Int} (hT : RB T) (hf : RV fo) {M : Nat} {F : Nat → Nat → Int} (hM0 : M ≤ maxLen) (hF : ∀ i, RV (F i)) : ACalls Try.prog TB 8 [algA p n T fo, vlA M F] (.bool true) [] := by
  rcases Nat.lt_or_ge 1048576 M with hM | hM
  · exact lAnnihilatorOf_big hM hM0
  have hF8 : ∀ i, B8 (F i) := fun i => (hF i).b
  by_cases hz : VZ p n T fo M F
  · obtain ⟨hv0, hn⟩ := VN_of hT hf hz.1
    obtain ⟨m, rfl⟩ : ∃ m : Nat, n = (m : Int) := ⟨n.toNat, hn⟩
    have hv0 : VN p m T fo := hv0
    by_cases hM6 : M ≤ 6
    · by_cases hc : comN m T
      · exact lAnnihilatorOf_ok hv0 hM6 hF8 hz hc
      · exact lAnnihilatorOf_cm hv0 hM6 hF8 hz hc
    · exact lAnnihilatorOf_bg hv0 hM hM6 hF8 hz
  · exact lAnnihilatorOf_no hT hf hM hF8 hz
end Go.Am

