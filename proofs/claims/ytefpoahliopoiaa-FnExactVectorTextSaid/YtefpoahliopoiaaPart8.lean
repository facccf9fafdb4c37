/- Part 8 of what the law stands on: abstract values, their walk, contracts of functions. My own work. Conditions: none. -/
import Derived.Test.YtefpoahliopoiaaPart4
import Derived.Test.YtefpoahliopoiaaPart3
import Derived.Test.YtefpoahliopoiaaPart7
set_option linter.unusedVariables false
set_option linter.unusedSimpArgs false
set_option maxRecDepth 4000
namespace Go.Am
attribute [local irreducible] retQ
open Go.Proofs
theorem c_valid0_ok {p : Int} {n : Nat} {T : Nat → Nat → Nat → Int} {fo : Nat → Int} (hv0 : VN p n T fo) : ACalls Try.prog TB 45 [algA p (n : Int) T fo, .nilsl] (.int .i64 0) [] := by
  have hp : p ≤ 256 := by have := hv0.p0; omega
  have h := c_valid0 hv0.rb hv0.rv (p := p) (n := (n : Int)) (T := T) (fo := fo)
  rwa [cZ_ok (VZ_0.2 hv0.va)] at h
theorem c_valid0_no {p n : Int} {T : Nat → Nat → Nat → Int} {fo : Nat → Int} (hT : RB T) (hf : RV fo) (hz : ¬ VZ p n T fo 0 (fun _ _ => 0)) : ACalls Try.prog TB 45 [algA p n T fo, .nilsl] (.int .i64 1) [] := by
  have h := c_valid0 hT hf (p := p) (n := n) (T := T) (fo := fo)
  rwa [cZ_no hz] at h
theorem c_valid1_ok {p : Int} {n : Nat} {T : Nat → Nat → Nat → Int} {fo : Nat → Int} (hv0 : VN p n T fo) {v : Nat → Int} (hv : VV p n v) : ACalls Try.prog TB 45 [algA p (n : Int) T fo, vlA 1 (vs1 v)] (.int .i64 0) [] := by
  have hp : p ≤ 256 := by have := hv0.p0; omega
  have h := c_valid hv0.rb hv0.rv (M := 1) (by omega) (vs1_B8 (hv.B8 hp)) (p := p) (n := (n : Int)) (T := T) (fo := fo)
  rwa [cZ_ok (VZ_1.2 ⟨hv0.va, hv.sm⟩)] at h
theorem c_valid1_no {p n : Int} {T : Nat → Nat → Nat → Int} {fo : Nat → Int} (hT : RB T) (hf : RV fo) {v : Nat → Int} (hv : B8 v) (hz : ¬ VZ p n T fo 1 (vs1 v)) : ACalls Try.prog TB 45 [algA p n T fo, vlA 1 (vs1 v)] (.int .i64 1) [] := by
  have h := c_valid hT hf (M := 1) (by omega) (vs1_B8 hv) (p := p) (n := n) (T := T) (fo := fo)
  rwa [cZ_no hz] at h
theorem c_valid2_ok {p : Int} {n : Nat} {T : Nat → Nat → Nat → Int} {fo : Nat → Int} (hv0 : VN p n T fo) {v : Nat → Int} (hv : VV p n v) {w : Nat → Int} (hw : VV p n w) : ACalls Try.prog TB 45 [algA p (n : Int) T fo, vlA 2 (vs2 v w)] (.int .i64 0) [] := by
  have hp : p ≤ 256 := by have := hv0.p0; omega
  have h := c_valid hv0.rb hv0.rv (M := 2) (by omega) (vs2_B8 (hv.B8 hp) (hw.B8 hp)) (p := p) (n := (n : Int)) (T := T) (fo := fo)
  rwa [cZ_ok (VZ_2.2 ⟨hv0.va, hv.sm, hw.sm⟩)] at h
theorem c_valid2_no {p n : Int} {T : Nat → Nat → Nat → Int} {fo : Nat → Int} (hT : RB T) (hf : RV fo) {v : Nat → Int} (hv : B8 v) {w : Nat → Int} (hw : B8 w) (hz : ¬ VZ p n T fo 2 (vs2 v w)) : ACalls Try.prog TB 45 [algA p n T fo, vlA 2 (vs2 v w)] (.int .i64 1) [] := by
  have h := c_valid hT hf (M := 2) (by omega) (vs2_B8 hv hw) (p := p) (n := n) (T := T) (fo := fo)
  rwa [cZ_no hz] at h
theorem c_l01Code0_ok {p : Int} {n : Nat} {T : Nat → Nat → Nat → Int} {fo : Nat → Int} (hv0 : VN p n T fo) : ACalls Try.prog TB 42 [algA p (n : Int) T fo, .nilsl] (.int .i64 0) [] := by
  have hp : p ≤ 256 := by have := hv0.p0; omega
  have h := c_l01Code0 hv0.rb hv0.rv (p := p) (n := (n : Int)) (T := T) (fo := fo)
  rwa [cZ_ok (VZ_0.2 hv0.va)] at h
theorem c_l01Code0_no {p n : Int} {T : Nat → Nat → Nat → Int} {fo : Nat → Int} (hT : RB T) (hf : RV fo) (hz : ¬ VZ p n T fo 0 (fun _ _ => 0)) : ACalls Try.prog TB 42 [algA p n T fo, .nilsl] (.int .i64 1) [] := by
  have h := c_l01Code0 hT hf (p := p) (n := n) (T := T) (fo := fo)
  rwa [cZ_no hz] at h
theorem c_l01Code1_ok {p : Int} {n : Nat} {T : Nat → Nat → Nat → Int} {fo : Nat → Int} (hv0 : VN p n T fo) {v : Nat → Int} (hv : VV p n v) : ACalls Try.prog TB 42 [algA p (n : Int) T fo, vlA 1 (vs1 v)] (.int .i64 0) [] := by
  have hp : p ≤ 256 := by have := hv0.p0; omega
  have h := c_l01Code hv0.rb hv0.rv (M := 1) (by omega) (vs1_B8 (hv.B8 hp)) (p := p) (n := (n : Int)) (T := T) (fo := fo)
  rwa [cZ_ok (VZ_1.2 ⟨hv0.va, hv.sm⟩)] at h
theorem c_l01Code1_no {p n : Int} {T : Nat → Nat → Nat → Int} {fo : Nat → Int} (hT : RB T) (hf : RV fo) {v : Nat → Int} (hv : B8 v) (hz : ¬ VZ p n T fo 1 (vs1 v)) : ACalls Try.prog TB 42 [algA p n T fo, vlA 1 (vs1 v)] (.int .i64 1) [] := by
  have h := c_l01Code hT hf (M := 1) (by omega) (vs1_B8 hv) (p := p) (n := n) (T := T) (fo := fo)
  rwa [cZ_no hz] at h
theorem c_l01Code2_ok {p : Int} {n : Nat} {T : Nat → Nat → Nat → Int} {fo : Nat → Int} (hv0 : VN p n T fo) {v : Nat → Int} (hv : VV p n v) {w : Nat → Int} (hw : VV p n w) : ACalls Try.prog TB 42 [algA p (n : Int) T fo, vlA 2 (vs2 v w)] (.int .i64 0) [] := by
  have hp : p ≤ 256 := by have := hv0.p0; omega
  have h := c_l01Code hv0.rb hv0.rv (M := 2) (by omega) (vs2_B8 (hv.B8 hp) (hw.B8 hp)) (p := p) (n := (n : Int)) (T := T) (fo := fo)
  rwa [cZ_ok (VZ_2.2 ⟨hv0.va, hv.sm, hw.sm⟩)] at h
theorem c_l01Code2_no {p n : Int} {T : Nat → Nat → Nat → Int} {fo : Nat → Int} (hT : RB T) (hf : RV fo) {v : Nat → Int} (hv : B8 v) {w : Nat → Int} (hw : B8 w) (hz : ¬ VZ p n T fo 2 (vs2 v w)) : ACalls Try.prog TB 42 [algA p n T fo, vlA 2 (vs2 v w)] (.int .i64 1) [] := by
  have h := c_l01Code hT hf (M := 2) (by omega) (vs2_B8 hv hw) (p := p) (n := n) (T := T) (fo := fo)
  rwa [cZ_no hz] at h

theorem c_idempotent {p : Int} {n : Nat} {T : Nat → Nat → Nat → Int} {fo : Nat → Int} (hv0 : VN p n T fo) {v : Nat → Int} (hv : VV p n v) : ACalls Try.prog TB 46 [.cptr (algA p (n : Int) T fo), vecA v] (.bool (decide (eqN 6 (timesF p n T v v) v))) [] := by
  have hp8 := hv0.p0
  refine acalls_of tokTB Try.func46 rfl rfl (Nat.le_of_ble_eq_true rfl) ?_
  apply sr tokTB (by kernel_rfl)
  · intro RR hRR
    refine w_boxc (HV.eq (by constructor)) (by exact trivial) ?_
    refine w_assign (by constructor) ?_
    exact hRR
  apply sd tokTB mixed (by kernel_rfl) (by kernel_rfl)
  · intro RR hRR
    refine w_move (by constructor) ?_
    refine w_ldc rfl kn29 (by constructor) (by exact sz29.symm) (by exact ag29.symm) ?_
    refine w_ldc rfl kn29 (by constructor) (by exact sz29.symm) (by exact ag29.symm) ?_
    refine y_call rfl (ec (ec (ec exn))) (c_times (u := v) (v := v) (by omega) (by omega) hv0.n6 hv0.T8 (hv.B8 (by omega)) (hv.B8 (by omega))) ?_
    refine w_ldc rfl kn29 (by constructor) (by exact sz29.symm) (by exact ag29.symm) ?_
    refine w_aeql rfl rfl und29 und5 ?_
    refine w_assign (by constructor) ?_
    exact hRR
  refine snd_ret ?_
  exact rt (T := TB) (fun V => by first | exact m_bool rfl | exact m_int rfl)
theorem c_sIsIdempotent_ok {p : Int} {n : Nat} {T : Nat → Nat → Nat → Int} {fo : Nat → Int} (hv0 : VN p n T fo) {v : Nat → Int} (hv : VV p n v) : ACalls Try.prog TB 15 [algA p (n : Int) T fo, vecA v] (.tup 2 (pairA (.bool (decide (eqN 6 (timesF p n T v v) v))) (.int .i64 0))) [] := by
  have hp8 := hv0.p0
  refine acalls_of tokTB Try.func15 rfl rfl (Nat.le_of_ble_eq_true rfl) ?_
  apply sr tokTB (by kernel_rfl)
  · intro RR hRR
    refine w_boxc (HV.eq (by constructor)) (by exact trivial) ?_
    refine w_boxc (HV.eq (by constructor)) (by exact trivial) ?_
    refine w_assign (by constructor) ?_
    refine w_assign (by constructor) ?_
    exact hRR
  refine snd_seq ?_
  apply sr tokTB (by kernel_rfl)
  · intro RR hRR
    refine w_ldc rfl kn31 (by constructor) (by exact sz31.symm) (by exact ag31.symm) ?_
    refine w_ldc rfl kn29 (by constructor) (by exact sz29.symm) (by exact ag29.symm) ?_
    refine w_bsl1 und74 kn29 (by rw [sz29]; rfl) rfl (by constructor) (by exact trivial) (by exact sz29.symm) (by first | exact trivial | exact ssh_vec | exact ⟨rfl, fun _ => trivial⟩) ?_
    refine y_call rfl (exc exp_alg (exc (ex_l1 zr29 rfl) exn)) (c_l01Code1_ok hv0 hv) ?_
    refine w_assign (by constructor) ?_
    exact hRR
  apply sr tokTB (by kernel_rfl)
  · intro RR hRR
    refine w_move (by constructor) ?_
    refine w_neq rfl rfl ?_
    exact hRR
  refine snd_cond_false rfl ?_
  refine snd_skip ?_
  apply sd tokTB mixed (by kernel_rfl) (by kernel_rfl)
  · intro RR hRR
    refine w_ldc rfl kn31 (by constructor) (by exact sz31.symm) (by exact ag31.symm) ?_
    refine w_ldc rfl kn29 (by constructor) (by exact sz29.symm) (by exact ag29.symm) ?_
    refine w_ldc rfl kn29 (by constructor) (by exact sz29.symm) (by exact ag29.symm) ?_
    refine y_call rfl (ec (ec (ec exn))) (c_l01Times (u := v) (v := v) (by omega) (by omega) hv0.n6 hv0.T8 (hv.B8 (by omega)) (hv.B8 (by omega))) ?_
    refine w_ldc rfl kn29 (by constructor) (by exact sz29.symm) (by exact ag29.symm) ?_
    refine w_aeql rfl rfl und29 und5 ?_
    refine w_assign (by constructor) ?_
    refine w_assign (by constructor) ?_
    exact hRR
  refine snd_ret ?_
  exact rt_tt (T := TB) (fun V => rfl) (fun V => rfl)
theorem c_sIsIdempotent_no {p n : Int} {T : Nat → Nat → Nat → Int} {fo : Nat → Int} (hT : RB T) (hf : RV fo) {v : Nat → Int} (hv : B8 v) (hz : ¬ VZ p n T fo 1 (vs1 v)) : ACalls Try.prog TB 15 [algA p n T fo, vecA v] (.tup 2 (pairA (.bool false) (.int .i64 1))) [] := by
  refine acalls_of tokTB Try.func15 rfl rfl (Nat.le_of_ble_eq_true rfl) ?_
  apply sr tokTB (by kernel_rfl)
  · intro RR hRR
    refine w_boxc (HV.eq (by constructor)) (by exact trivial) ?_
    refine w_boxc (HV.eq (by constructor)) (by exact trivial) ?_
    refine w_assign (by constructor) ?_
    refine w_assign (by constructor) ?_
    exact hRR
  refine snd_seq ?_
  apply sr tokTB (by kernel_rfl)
  · intro RR hRR
    refine w_ldc rfl kn31 (by constructor) (by exact sz31.symm) (by exact ag31.symm) ?_
    refine w_ldc rfl kn29 (by constructor) (by exact sz29.symm) (by exact ag29.symm) ?_
    refine w_bsl1 und74 kn29 (by rw [sz29]; rfl) rfl (by constructor) (by exact trivial) (by exact sz29.symm) (by first | exact trivial | exact ssh_vec | exact ⟨rfl, fun _ => trivial⟩) ?_
    refine y_call rfl (exc exp_alg (exc (ex_l1 zr29 rfl) exn)) (c_l01Code1_no hT hf hv hz) ?_
    refine w_assign (by constructor) ?_
    exact hRR
  apply sr tokTB (by kernel_rfl)
  · intro RR hRR
    refine w_move (by constructor) ?_
    refine w_neq rfl rfl ?_
    exact hRR
  refine snd_cond_true rfl ?_
  apply sr tokTB (by kernel_rfl)
  · intro RR hRR
    refine w_move (by constructor) ?_
    refine w_assign (by constructor) ?_
    refine w_assign (by constructor) ?_
    exact hRR
  refine snd_ret ?_
  exact rt_tt (T := TB) (fun V => rfl) (fun V => rfl)
theorem c_iIsIdempotent_ok {p : Int} {n : Nat} {T : Nat → Nat → Nat → Int} {fo : Nat → Int} (hv0 : VN p n T fo) {v : Nat → Int} (hv : VV p n v) : ACalls Try.prog TB 18 [algA p (n : Int) T fo, vecA v] (.tup 2 (pairA (.bool (decide (eqN 6 (timesF p n T v v) v))) (.int .i64 0))) [] := by
  have hp8 := hv0.p0
  refine acalls_of tokTB Try.func18 rfl rfl (Nat.le_of_ble_eq_true rfl) ?_
  apply sr tokTB (by kernel_rfl)
  · intro RR hRR
    refine w_boxc (HV.eq (by constructor)) (by exact trivial) ?_
    refine w_boxc (HV.eq (by constructor)) (by exact trivial) ?_
    refine w_assign (by constructor) ?_
    refine w_assign (by constructor) ?_
    exact hRR
  refine snd_seq ?_
  apply sr tokTB (by kernel_rfl)
  · intro RR hRR
    refine w_ldc rfl kn31 (by constructor) (by exact sz31.symm) (by exact ag31.symm) ?_
    refine w_ldc rfl kn29 (by constructor) (by exact sz29.symm) (by exact ag29.symm) ?_
    refine w_bsl1 und74 kn29 (by rw [sz29]; rfl) rfl (by constructor) (by exact trivial) (by exact sz29.symm) (by first | exact trivial | exact ssh_vec | exact ⟨rfl, fun _ => trivial⟩) ?_
    refine y_call rfl (exc exp_alg (exc (ex_l1 zr29 rfl) exn)) (c_valid1_ok hv0 hv) ?_
    refine w_assign (by constructor) ?_
    exact hRR
  apply sr tokTB (by kernel_rfl)
  · intro RR hRR
    refine w_move (by constructor) ?_
    refine w_neq rfl rfl ?_
    exact hRR
  refine snd_cond_false rfl ?_
  refine snd_skip ?_
  apply sr tokTB (by kernel_rfl)
  · intro RR hRR
    refine w_ldc rfl kn29 (by constructor) (by exact sz29.symm) (by exact ag29.symm) ?_
    refine y_call rfl (ec (ec exn)) (c_idempotent hv0 hv) ?_
    refine w_assign (by constructor) ?_
    refine w_assign (by constructor) ?_
    exact hRR
  refine snd_ret ?_
  exact rt_tt (T := TB) (fun V => rfl) (fun V => rfl)
theorem c_iIsIdempotent_no {p n : Int} {T : Nat → Nat → Nat → Int} {fo : Nat → Int} (hT : RB T) (hf : RV fo) {v : Nat → Int} (hv : B8 v) (hz : ¬ VZ p n T fo 1 (vs1 v)) : ACalls Try.prog TB 18 [algA p n T fo, vecA v] (.tup 2 (pairA (.bool false) (.int .i64 1))) [] := by
  refine acalls_of tokTB Try.func18 rfl rfl (Nat.le_of_ble_eq_true rfl) ?_
  apply sr tokTB (by kernel_rfl)
  · intro RR hRR
    refine w_boxc (HV.eq (by constructor)) (by exact trivial) ?_
    refine w_boxc (HV.eq (by constructor)) (by exact trivial) ?_
    refine w_assign (by constructor) ?_
    refine w_assign (by constructor) ?_
    exact hRR
  refine snd_seq ?_
  apply sr tokTB (by kernel_rfl)
  · intro RR hRR
    refine w_ldc rfl kn31 (by constructor) (by exact sz31.symm) (by exact ag31.symm) ?_
    refine w_ldc rfl kn29 (by constructor) (by exact sz29.symm) (by exact ag29.symm) ?_
    refine w_bsl1 und74 kn29 (by rw [sz29]; rfl) rfl (by constructor) (by exact trivial) (by exact sz29.symm) (by first | exact trivial | exact ssh_vec | exact ⟨rfl, fun _ => trivial⟩) ?_
    refine y_call rfl (exc exp_alg (exc (ex_l1 zr29 rfl) exn)) (c_valid1_no hT hf hv hz) ?_
    refine w_assign (by constructor) ?_
    exact hRR
  apply sr tokTB (by kernel_rfl)
  · intro RR hRR
    refine w_move (by constructor) ?_
    refine w_neq rfl rfl ?_
    exact hRR
  refine snd_cond_true rfl ?_
  apply sr tokTB (by kernel_rfl)
  · intro RR hRR
    refine w_move (by constructor) ?_
    refine w_assign (by constructor) ?_
    refine w_assign (by constructor) ?_
    exact hRR
  refine snd_ret ?_
  exact rt_tt (T := TB) (fun V => rfl) (fun V => rfl)
end Go.Am
set_option linter.unusedVariables false
set_option linter.unusedSimpArgs false
set_option maxRecDepth 4000
namespace Go.Am
attribute [local irreducible] retQ
open Go.Proofs
theorem c_l01VectorText {p : Int} {n : Nat} {T : Nat → Nat → Nat → Int} {fo v : Nat → Int} (hn : n ≤ 6) (h13 : ∀ i, 0 ≤ v i ∧ v i < 13) : ACalls Try.prog TB 58 [algA p (n : Int) T fo, vecA v] (.strg (txtF n v)) [] := by
  refine acalls_of tokTB Try.func58 rfl rfl (Nat.le_of_ble_eq_true rfl) ?_
  apply sr tokTB (by kernel_rfl)
  · intro RR hRR
    refine w_boxc (HV.eq (by constructor)) (by exact trivial) ?_
    refine w_boxc (HV.eq (by constructor)) (by exact trivial) ?_
    refine w_assign (by constructor) ?_
    exact hRR
  apply sr tokTB (by kernel_rfl)
  · intro RR hRR
    refine w_bsl und83 kn5 (by rw [sz5]; rfl) rfl trivial trivial rfl ?_
    refine w_assign (by constructor) ?_
    exact hRR
  refine snd_seq ?_
  apply sr tokTB (by kernel_rfl)
  · intro RR hRR
    refine w_assign (by constructor) ?_
    exact hRR
  refine snd_block ?_
  refine snd_loop (S := Nat) (fun i => ([(2, .cptr (algA p (n : Int) T fo)), (3, .cptr (vecA v)), (5, .own 905 0 i 5), (6, .int .i64 (i : Int))], [(905, .one (.arr i (fun _ => .int .u8 0)) (.arr i (fun a => .int .u8 (digF (v a)))))])) (fun i => i ≤ n) (fun i => n - i) (0) (fun k i => bif Nat.beq k 905 then (7, i) else (k, i)) ?_ ?_ ?_
  · exact ⟨⟨m_calg, (m_cvec (fun _ _ => rfl)), (by first | exact ⟨rfl, rfl, rfl, rfl⟩ | exact ⟨rfl, by omega, rfl, rfl⟩), (by first | exact m_int rfl | exact m_int (by omega) | exact m_int (by simp; done) | (exact m_int (by simp; omega))), trivial⟩, ⟨⟨rfl, (by first | exact trivial | exact ssh_vec | exact ssh_alg | exact ssh_tab | exact ssh_mat | exact ⟨rfl, fun _ => trivial⟩ | exact ⟨rfl, fun _ => by rw [zr29]; exact ssh_vec⟩), (by exact mt_arr0)⟩, trivial⟩, ⟨⟨(fun h => by first | exact ⟨rfl, rfl⟩ | exact absurd h (by decide)), trivial⟩, trivial⟩⟩
  · exact Nat.zero_le _
  intro i hi0
  refine sq (env2 := [(2, .cptr (algA p (n : Int) T fo)), (3, .cptr (vecA v)), (5, .own 905 0 i 5), (6, .int .i64 (i : Int))]) (ol2 := [(905, .one (.arr i (fun _ => .int .u8 0)) (.arr i (fun a => .int .u8 (digF (v a)))))]) rfl rfl ?_
  refine snd_seq ?_
  apply sr tokTB (by kernel_rfl)
  · intro RR hRR
    refine w_move (by constructor) ?_
    refine w_fac rfl und31 rfl kn2 nz2 (by decide) rfl (by constructor) ?_
    refine w_ldc rfl kn2 (by constructor) (by exact sz2.symm) (by exact ag2.symm) ?_
    refine w_lss rfl rfl ?_
    exact hRR
  refine snd_cond _ rfl (fun hc11 => ?_) (fun hc11 => ?_)
  · try simp only [hcs] at hc11
    have lt_i : i < n := by omega
    refine snd_skip ?_
    refine snd_seq ?_
    refine snd_block ?_
    apply sr tokTB (by kernel_rfl)
    · intro RR hRR
      refine w_move (by constructor) ?_
      refine w_iac rfl rfl und29 kn5 (by exact sz5.symm) ?_ rfl ?_
      · exact ⟨by omega, by omega⟩
      first | refine w_ldc rfl kn5 (by constructor) (by exact sz5.symm) (by exact ag5.symm) ?_ | refine w_ldp rfl kn5 rfl (by constructor) (by exact sz5.symm) (by exact ag5.symm) ?_
      refine w_lss rfl rfl ?_
      exact hRR
    refine snd_cond _ rfl (fun hc17 => ?_) (fun hc17 => ?_)
    · try simp only [hcs] at hc17
      apply lr tokTB (by kernel_rfl)
      · intro RR hRR
        refine w_move (by constructor) ?_
        refine w_move (by constructor) ?_
        refine w_iac rfl rfl und29 kn5 (by exact sz5.symm) ?_ rfl ?_
        · exact ⟨by omega, by omega⟩
        first | refine w_ldc rfl kn5 (by constructor) (by exact sz5.symm) (by exact ag5.symm) ?_ | refine w_ldp rfl kn5 rfl (by constructor) (by exact sz5.symm) (by exact ag5.symm) ?_
        refine w_add rfl rfl (by exact rfl) ?_
        refine w_bsl1 und83 kn5 (by rw [sz5]; rfl) rfl (by constructor) (by exact trivial) (by exact sz5.symm) (by first | exact trivial | exact ssh_vec | exact ⟨rfl, fun _ => trivial⟩) ?_
        refine w_app_o und83 rfl rfl kn5 rfl rfl (fun C h => ⟨rfl, rfl, rfl, h⟩) (by rw [by5]; omega) (by omega) rfl ?_
        refine w_assign (by constructor) ?_
        exact hRR
      apply lr tokTB (by kernel_rfl)
      · intro RR hRR
        refine w_move (by constructor) ?_
        refine y_add rfl rfl ?_
        refine w_assign (by constructor) ?_
        exact hRR
      refine ⟨i + 1, (fun k i => bif Nat.beq k 905 then (24, i) else (k, i)), ?_, (by omega), (by dsimp only; omega)⟩
      exact ⟨⟨m_calg, (m_cvec (fun _ _ => rfl)), (by first | exact ⟨rfl, rfl, rfl, rfl⟩ | exact ⟨rfl, by omega, rfl, rfl⟩), (by first | exact m_int rfl | exact m_int (by omega) | exact m_int (by simp; done) | (exact m_int (by simp; omega))), trivial⟩, ⟨⟨rfl, (by first | exact trivial | exact ssh_vec | exact ssh_alg | exact ssh_tab | exact ssh_mat | exact ⟨rfl, fun _ => trivial⟩ | exact ⟨rfl, fun _ => by rw [zr29]; exact ssh_vec⟩), (by exact mt_app (fun _ _ => rfl) (congrArg (AV.int .u8) (dig_lo ⟨(h13 i).1, hc17⟩)))⟩, trivial⟩, ⟨⟨(fun h => by first | exact ⟨rfl, rfl⟩ | exact absurd h (by decide)), trivial⟩, trivial⟩⟩
    · try simp only [hcs] at hc17
      apply lr tokTB (by kernel_rfl)
      · intro RR hRR
        refine w_move (by constructor) ?_
        refine w_move (by constructor) ?_
        refine w_iac rfl rfl und29 kn5 (by exact sz5.symm) ?_ rfl ?_
        · exact ⟨by omega, by omega⟩
        first | refine w_ldc rfl kn5 (by constructor) (by exact sz5.symm) (by exact ag5.symm) ?_ | refine w_ldp rfl kn5 rfl (by constructor) (by exact sz5.symm) (by exact ag5.symm) ?_
        refine w_add rfl rfl (by exact rfl) ?_
        refine w_sub rfl rfl (by exact rfl) ?_
        refine w_bsl1 und83 kn5 (by rw [sz5]; rfl) rfl (by constructor) (by exact trivial) (by exact sz5.symm) (by first | exact trivial | exact ssh_vec | exact ⟨rfl, fun _ => trivial⟩) ?_
        refine w_app_o und83 rfl rfl kn5 rfl rfl (fun C h => ⟨rfl, rfl, rfl, h⟩) (by rw [by5]; omega) (by omega) rfl ?_
        refine w_assign (by constructor) ?_
        exact hRR
      apply lr tokTB (by kernel_rfl)
      · intro RR hRR
        refine w_move (by constructor) ?_
        refine y_add rfl rfl ?_
        refine w_assign (by constructor) ?_
        exact hRR
      refine ⟨i + 1, (fun k i => bif Nat.beq k 905 then (32, i) else (k, i)), ?_, (by omega), (by dsimp only; omega)⟩
      exact ⟨⟨m_calg, (m_cvec (fun _ _ => rfl)), (by first | exact ⟨rfl, rfl, rfl, rfl⟩ | exact ⟨rfl, by omega, rfl, rfl⟩), (by first | exact m_int rfl | exact m_int (by omega) | exact m_int (by simp; done) | (exact m_int (by simp; omega))), trivial⟩, ⟨⟨rfl, (by first | exact trivial | exact ssh_vec | exact ssh_alg | exact ssh_tab | exact ssh_mat | exact ⟨rfl, fun _ => trivial⟩ | exact ⟨rfl, fun _ => by rw [zr29]; exact ssh_vec⟩), (by exact mt_app (fun _ _ => rfl) (congrArg (AV.int .u8) (dig_hi ⟨hc17, (h13 i).2⟩)))⟩, trivial⟩, ⟨⟨(fun h => by first | exact ⟨rfl, rfl⟩ | exact absurd h (by decide)), trivial⟩, trivial⟩⟩
  · try simp only [hcs] at hc11
    have ge_i : n = i := by omega
    subst ge_i
    refine snd_exit ?_
    refine snd_emb (ρ := ρ0) (env2 := [(5, .ro n (fun i => .int .u8 (digF (v i))))]) (ol2 := []) ?_ ?_
    · exact ⟨⟨mt_fz trivial rfl (fun j hj => rfl), trivial⟩, trivial, trivial⟩
    apply sr tokTB (by kernel_rfl)
    · intro RR hRR
      refine w_move (by constructor) ?_
      refine w_cstr rfl und83 und5 und9 (by exact digF_B8 h13) ?_
      refine w_assign (by constructor) ?_
      exact hRR
    refine snd_ret ?_
    exact rt (T := TB) (fun V => rfl)
theorem c_vectorText {n : Nat} {v : Nat → Int} (hn : n ≤ 6) (h13 : ∀ i, 0 ≤ v i ∧ v i < 13) : ACalls Try.prog TB 59 [vecA v, .int .i64 (n : Int)] (.strg (txtF n v)) [] := by
  refine acalls_of tokTB Try.func59 rfl rfl (Nat.le_of_ble_eq_true rfl) ?_
  apply sr tokTB (by kernel_rfl)
  · intro RR hRR
    refine w_boxc (HV.eq (by constructor)) (by exact trivial) ?_
    refine w_assign (by constructor) ?_
    exact hRR
  apply sr tokTB (by kernel_rfl)
  · intro RR hRR
    refine w_bsl und83 kn5 (by rw [sz5]; rfl) rfl trivial trivial rfl ?_
    refine w_assign (by constructor) ?_
    exact hRR
  refine snd_seq ?_
  apply sr tokTB (by kernel_rfl)
  · intro RR hRR
    refine w_move (by constructor) ?_
    refine w_sl_ah rfl rfl und29 kn5 (by exact sz5.symm) (by decide) (by omega) ?_
    refine w_len_r rfl rfl und83 ?_
    refine w_move (by constructor) ?_
    exact hRR
  refine snd_block ?_
  refine snd_loop (S := Nat) (fun i => ([(5, .own 905 0 i 5), (10, .ro n (fun i => .int .u8 (v i))), (11, .int .i64 (n : Int)), (12, .int .i64 (i : Int))], [(905, .one (.arr i (fun _ => .int .u8 0)) (.arr i (fun a => .int .u8 (digF (v a)))))])) (fun i => i ≤ n) (fun i => n - i) (0) (fun k i => bif Nat.beq k 905 then (8, i) else (k, i)) ?_ ?_ ?_
  · exact ⟨⟨(by first | exact ⟨rfl, rfl, rfl, rfl⟩ | exact ⟨rfl, by omega, rfl, rfl⟩), (by first | exact ⟨rfl, fun _ _ => rfl⟩ | exact mt_fz (by exact ⟨(ne_fst rfl), trivial⟩) rfl (fun _ _ => rfl)), (by first | exact m_int rfl | exact m_int (by omega) | exact m_int (by simp; done) | (exact m_int (by simp; omega))), (by first | exact m_int rfl | exact m_int (by omega) | exact m_int (by simp; done) | (exact m_int (by simp; omega))), trivial⟩, ⟨⟨rfl, (by first | exact trivial | exact ssh_vec | exact ssh_alg | exact ssh_tab | exact ssh_mat | exact ⟨rfl, fun _ => trivial⟩ | exact ⟨rfl, fun _ => by rw [zr29]; exact ssh_vec⟩), (by exact mt_arr0)⟩, trivial⟩, ⟨⟨(fun h => by first | exact ⟨rfl, rfl⟩ | exact absurd h (by decide)), trivial⟩, trivial⟩⟩
  · exact Nat.zero_le _
  intro i hi0
  refine sq (env2 := [(5, .own 905 0 i 5), (10, .ro n (fun i => .int .u8 (v i))), (11, .int .i64 (n : Int)), (12, .int .i64 (i : Int))]) (ol2 := [(905, .one (.arr i (fun _ => .int .u8 0)) (.arr i (fun a => .int .u8 (digF (v a)))))]) rfl rfl ?_
  apply sr tokTB (by kernel_rfl)
  · intro RR hRR
    refine w_lss rfl rfl ?_
    exact hRR
  refine snd_seq ?_
  refine snd_cond _ rfl (fun hc13 => ?_) (fun hc13 => ?_)
  · try simp only [hcs] at hc13
    have lt_i : i < n := by omega
    refine snd_skip ?_
    refine snd_seq ?_
    refine snd_block ?_
    apply sr tokTB (by kernel_rfl)
    · intro RR hRR
      refine w_iar rfl rfl und83 kn5 (by exact sz5.symm) ?_ rfl ?_
      · exact ⟨by omega, by omega⟩
      first | refine w_ldc rfl kn5 (by constructor) (by exact sz5.symm) (by exact ag5.symm) ?_ | refine w_ldp rfl kn5 rfl (by constructor) (by exact sz5.symm) (by exact ag5.symm) ?_
      refine w_assign (by constructor) ?_
      exact hRR
    apply lr tokTB (by kernel_rfl)
    · intro RR hRR
      refine w_move (by constructor) ?_
      refine w_move (by constructor) ?_
      refine w_ixs rfl rfl und9 ?_ ?_
      · exact ⟨(h13 _).1, Int.lt_of_lt_of_le (h13 _).2 (by decide)⟩
      refine w_bsl1 und83 kn5 (by rw [sz5]; rfl) rfl (by constructor) (by exact trivial) (by exact sz5.symm) (by first | exact trivial | exact ssh_vec | exact ⟨rfl, fun _ => trivial⟩) ?_
      refine w_app_o und83 rfl rfl kn5 rfl rfl (fun C h => ⟨rfl, rfl, rfl, h⟩) (by rw [by5]; omega) (by omega) rfl ?_
      refine w_assign (by constructor) ?_
      exact hRR
    apply lr tokTB (by kernel_rfl)
    · intro RR hRR
      refine y_add rfl rfl ?_
      refine w_move (by constructor) ?_
      exact hRR
    refine ⟨i + 1, (fun k i => bif Nat.beq k 905 then (20, i) else (k, i)), ?_, (by omega), (by dsimp only; omega)⟩
    exact ⟨⟨(by first | exact ⟨rfl, rfl, rfl, rfl⟩ | exact ⟨rfl, by omega, rfl, rfl⟩), (by first | exact ⟨rfl, fun _ _ => rfl⟩ | exact mt_fz (by exact ⟨(ne_fst rfl), trivial⟩) rfl (fun _ _ => rfl)), (by first | exact m_int rfl | exact m_int (by omega) | exact m_int (by simp; done) | (exact m_int (by simp; omega))), (by first | exact m_int rfl | exact m_int (by omega) | exact m_int (by simp; done) | (exact m_int (by simp; omega))), trivial⟩, ⟨⟨rfl, (by first | exact trivial | exact ssh_vec | exact ssh_alg | exact ssh_tab | exact ssh_mat | exact ⟨rfl, fun _ => trivial⟩ | exact ⟨rfl, fun _ => by rw [zr29]; exact ssh_vec⟩), (by exact mt_app (fun _ _ => rfl) (congrArg (AV.int .u8) (dig_at (h13 i))))⟩, trivial⟩, ⟨⟨(fun h => by first | exact ⟨rfl, rfl⟩ | exact absurd h (by decide)), trivial⟩, trivial⟩⟩
  · try simp only [hcs] at hc13
    have ge_i : n = i := by omega
    subst ge_i
    refine snd_exit ?_
    refine snd_emb (ρ := ρ0) (env2 := [(5, .ro n (fun i => .int .u8 (digF (v i))))]) (ol2 := []) ?_ ?_
    · exact ⟨⟨mt_fz trivial rfl (fun j hj => rfl), trivial⟩, trivial, trivial⟩
    apply sr tokTB (by kernel_rfl)
    · intro RR hRR
      refine w_move (by constructor) ?_
      refine w_cstr rfl und83 und5 und9 (by exact digF_B8 h13) ?_
      refine w_assign (by constructor) ?_
      exact hRR
    refine snd_ret ?_
    exact rt (T := TB) (fun V => rfl)
theorem c_sVectorText_ok {p : Int} {n : Nat} {T : Nat → Nat → Nat → Int} {fo : Nat → Int} (hv0 : VN p n T fo) {v : Nat → Int} (hv : VV p n v) : ACalls Try.prog TB 32 [algA p (n : Int) T fo, vecA v] (.tup 2 (pairA (.strg (txtF n v)) (.int .i64 0))) [] := by
  have hp8 := hv0.p0
  refine acalls_of tokTB Try.func32 rfl rfl (Nat.le_of_ble_eq_true rfl) ?_
  apply sr tokTB (by kernel_rfl)
  · intro RR hRR
    refine w_boxc (HV.eq (by constructor)) (by exact trivial) ?_
    refine w_boxc (HV.eq (by constructor)) (by exact trivial) ?_
    refine w_assign (by constructor) ?_
    refine w_assign (by constructor) ?_
    exact hRR
  refine snd_seq ?_
  apply sr tokTB (by kernel_rfl)
  · intro RR hRR
    refine w_ldc rfl kn31 (by constructor) (by exact sz31.symm) (by exact ag31.symm) ?_
    refine w_ldc rfl kn29 (by constructor) (by exact sz29.symm) (by exact ag29.symm) ?_
    refine w_bsl1 und74 kn29 (by rw [sz29]; rfl) rfl (by constructor) (by exact trivial) (by exact sz29.symm) (by first | exact trivial | exact ssh_vec | exact ⟨rfl, fun _ => trivial⟩) ?_
    refine y_call rfl (exc exp_alg (exc (ex_l1 zr29 rfl) exn)) (c_l01Code1_ok hv0 hv) ?_
    refine w_assign (by constructor) ?_
    exact hRR
  apply sr tokTB (by kernel_rfl)
  · intro RR hRR
    refine w_move (by constructor) ?_
    refine w_neq rfl rfl ?_
    exact hRR
  refine snd_cond_false rfl ?_
  refine snd_skip ?_
  apply sr tokTB (by kernel_rfl)
  · intro RR hRR
    refine w_ldc rfl kn31 (by constructor) (by exact sz31.symm) (by exact ag31.symm) ?_
    refine w_ldc rfl kn29 (by constructor) (by exact sz29.symm) (by exact ag29.symm) ?_
    refine y_call rfl (ec (ec exn)) (c_l01VectorText hv0.n6 (hv.v13 (by omega))) ?_
    refine w_assign (by constructor) ?_
    refine w_assign (by constructor) ?_
    exact hRR
  refine snd_ret ?_
  exact rt_tt (T := TB) (fun V => rfl) (fun V => rfl)
theorem c_sVectorText_no {p n : Int} {T : Nat → Nat → Nat → Int} {fo : Nat → Int} (hT : RB T) (hf : RV fo) {v : Nat → Int} (hv : B8 v) (hz : ¬ VZ p n T fo 1 (vs1 v)) : ACalls Try.prog TB 32 [algA p n T fo, vecA v] (.tup 2 (pairA (.strg (⟨#[]⟩ : ByteArray)) (.int .i64 1))) [] := by
  refine acalls_of tokTB Try.func32 rfl rfl (Nat.le_of_ble_eq_true rfl) ?_
  apply sr tokTB (by kernel_rfl)
  · intro RR hRR
    refine w_boxc (HV.eq (by constructor)) (by exact trivial) ?_
    refine w_boxc (HV.eq (by constructor)) (by exact trivial) ?_
    refine w_assign (by constructor) ?_
    refine w_assign (by constructor) ?_
    exact hRR
  refine snd_seq ?_
  apply sr tokTB (by kernel_rfl)
  · intro RR hRR
    refine w_ldc rfl kn31 (by constructor) (by exact sz31.symm) (by exact ag31.symm) ?_
    refine w_ldc rfl kn29 (by constructor) (by exact sz29.symm) (by exact ag29.symm) ?_
    refine w_bsl1 und74 kn29 (by rw [sz29]; rfl) rfl (by constructor) (by exact trivial) (by exact sz29.symm) (by first | exact trivial | exact ssh_vec | exact ⟨rfl, fun _ => trivial⟩) ?_
    refine y_call rfl (exc exp_alg (exc (ex_l1 zr29 rfl) exn)) (c_l01Code1_no hT hf hv hz) ?_
    refine w_assign (by constructor) ?_
    exact hRR
  apply sr tokTB (by kernel_rfl)
  · intro RR hRR
    refine w_move (by constructor) ?_
    refine w_neq rfl rfl ?_
    exact hRR
  refine snd_cond_true rfl ?_
  apply sr tokTB (by kernel_rfl)
  · intro RR hRR
    refine w_move (by constructor) ?_
    refine w_assign (by constructor) ?_
    refine w_assign (by constructor) ?_
    exact hRR
  refine snd_ret ?_
  exact rt_tt (T := TB) (fun V => rfl) (fun V => rfl)
theorem c_iVectorText_ok {p : Int} {n : Nat} {T : Nat → Nat → Nat → Int} {fo : Nat → Int} (hv0 : VN p n T fo) {v : Nat → Int} (hv : VV p n v) : ACalls Try.prog TB 33 [algA p (n : Int) T fo, vecA v] (.tup 2 (pairA (.strg (txtF n v)) (.int .i64 0))) [] := by
  have hp8 := hv0.p0
  refine acalls_of tokTB Try.func33 rfl rfl (Nat.le_of_ble_eq_true rfl) ?_
  apply sr tokTB (by kernel_rfl)
  · intro RR hRR
    refine w_boxc (HV.eq (by constructor)) (by exact trivial) ?_
    refine w_boxc (HV.eq (by constructor)) (by exact trivial) ?_
    refine w_assign (by constructor) ?_
    refine w_assign (by constructor) ?_
    exact hRR
  refine snd_seq ?_
  apply sr tokTB (by kernel_rfl)
  · intro RR hRR
    refine w_ldc rfl kn31 (by constructor) (by exact sz31.symm) (by exact ag31.symm) ?_
    refine w_ldc rfl kn29 (by constructor) (by exact sz29.symm) (by exact ag29.symm) ?_
    refine w_bsl1 und74 kn29 (by rw [sz29]; rfl) rfl (by constructor) (by exact trivial) (by exact sz29.symm) (by first | exact trivial | exact ssh_vec | exact ⟨rfl, fun _ => trivial⟩) ?_
    refine y_call rfl (exc exp_alg (exc (ex_l1 zr29 rfl) exn)) (c_valid1_ok hv0 hv) ?_
    refine w_assign (by constructor) ?_
    exact hRR
  apply sr tokTB (by kernel_rfl)
  · intro RR hRR
    refine w_move (by constructor) ?_
    refine w_neq rfl rfl ?_
    exact hRR
  refine snd_cond_false rfl ?_
  refine snd_skip ?_
  apply sd tokTB mixed (by kernel_rfl) (by kernel_rfl)
  · intro RR hRR
    refine w_ldc rfl kn29 (by constructor) (by exact sz29.symm) (by exact ag29.symm) ?_
    refine y_call rfl (ec exn) (c_n) ?_
    refine y_call rfl (ec (ec exn)) (c_vectorText hv0.n6 (hv.v13 (by omega))) ?_
    refine w_assign (by constructor) ?_
    refine w_assign (by constructor) ?_
    exact hRR
  refine snd_ret ?_
  exact rt_tt (T := TB) (fun V => rfl) (fun V => rfl)
theorem c_iVectorText_no {p n : Int} {T : Nat → Nat → Nat → Int} {fo : Nat → Int} (hT : RB T) (hf : RV fo) {v : Nat → Int} (hv : B8 v) (hz : ¬ VZ p n T fo 1 (vs1 v)) : ACalls Try.prog TB 33 [algA p n T fo, vecA v] (.tup 2 (pairA (.strg (⟨#[]⟩ : ByteArray)) (.int .i64 1))) [] := by
  refine acalls_of tokTB Try.func33 rfl rfl (Nat.le_of_ble_eq_true rfl) ?_
  apply sr tokTB (by kernel_rfl)
  · intro RR hRR
    refine w_boxc (HV.eq (by constructor)) (by exact trivial) ?_
    refine w_boxc (HV.eq (by constructor)) (by exact trivial) ?_
    refine w_assign (by constructor) ?_
    refine w_assign (by constructor) ?_
    exact hRR
  refine snd_seq ?_
  apply sr tokTB (by kernel_rfl)
  · intro RR hRR
    refine w_ldc rfl kn31 (by constructor) (by exact sz31.symm) (by exact ag31.symm) ?_
    refine w_ldc rfl kn29 (by constructor) (by exact sz29.symm) (by exact ag29.symm) ?_
    refine w_bsl1 und74 kn29 (by rw [sz29]; rfl) rfl (by constructor) (by exact trivial) (by exact sz29.symm) (by first | exact trivial | exact ssh_vec | exact ⟨rfl, fun _ => trivial⟩) ?_
    refine y_call rfl (exc exp_alg (exc (ex_l1 zr29 rfl) exn)) (c_valid1_no hT hf hv hz) ?_
    refine w_assign (by constructor) ?_
    exact hRR
  apply sr tokTB (by kernel_rfl)
  · intro RR hRR
    refine w_move (by constructor) ?_
    refine w_neq rfl rfl ?_
    exact hRR
  refine snd_cond_true rfl ?_
  apply sr tokTB (by kernel_rfl)
  · intro RR hRR
    refine w_move (by constructor) ?_
    refine w_assign (by constructor) ?_
    refine w_assign (by constructor) ?_
    exact hRR
  refine snd_ret ?_
  exact rt_tt (T := TB) (fun V => rfl) (fun V => rfl)
theorem lVectorText_ok {p : Int} {n : Nat} {T : Nat → Nat → Nat → Int} {fo : Nat → Int} (hv0 : VN p n T fo) {v : Nat → Int} (hv : VV p n v) : ACalls Try.prog TB 10 [algA p (n : Int) T fo, vecA v] (.bool true) [] := by
  refine acalls_of tokTB Try.func10 rfl rfl (Nat.le_of_ble_eq_true rfl) ?_
  apply sr tokTB (by kernel_rfl)
  · intro RR hRR
    refine w_boxc (HV.eq (by constructor)) (by exact trivial) ?_
    refine w_boxc (HV.eq (by constructor)) (by exact trivial) ?_
    refine w_assign (by constructor) ?_
    exact hRR
  apply sd tokTB mixed (by kernel_rfl) (by kernel_rfl)
  · intro RR hRR
    refine w_ldc rfl kn26 (by constructor) (by exact sz26.symm) (by exact ag26.symm) ?_
    refine y_call rfl (ec exn) (c_toAlgebra) ?_
    refine w_ldc rfl kn22 (by constructor) (by exact sz22.symm) (by exact ag22.symm) ?_
    refine y_call rfl (ec exn) (c_toVector) ?_
    refine y_call rfl (ec (ec exn)) (c_sVectorText_ok hv0 hv) ?_
    refine w_move (by constructor) ?_
    refine w_ext rfl (by decide) (by constructor) ?_
    refine w_ext rfl (by decide) (by constructor) ?_
    refine w_assign (by constructor) ?_
    refine w_assign (by constructor) ?_
    exact hRR
  apply sd tokTB mixed (by kernel_rfl) (by kernel_rfl)
  · intro RR hRR
    refine w_ldc rfl kn26 (by constructor) (by exact sz26.symm) (by exact ag26.symm) ?_
    refine y_call rfl (ec exn) (c_toAlgebra) ?_
    refine w_ldc rfl kn22 (by constructor) (by exact sz22.symm) (by exact ag22.symm) ?_
    refine y_call rfl (ec exn) (c_toVector) ?_
    refine y_call rfl (ec (ec exn)) (c_iVectorText_ok hv0 hv) ?_
    refine w_move (by constructor) ?_
    refine w_ext rfl (by decide) (by constructor) ?_
    refine w_ext rfl (by decide) (by constructor) ?_
    refine w_assign (by constructor) ?_
    refine w_assign (by constructor) ?_
    exact hRR
  refine snd_seq ?_
  apply srG (env' := (32, .bool (decide ((txtF n v).toList ≠ (txtF n v).toList) || decide ((0 : Int) ≠ 0))) :: (31, .any) :: (30, .any) :: (29, .any) :: (28, _) :: (27, _) :: (26, _) :: (25, _) :: _) tokTB (by kernel_rfl)
  · intro RR hRR
    refine w_move (by constructor) ?_
    refine w_move (by constructor) ?_
    refine w_sneq rfl rfl und9 ?_
    refine w_move (by constructor) ?_
    refine w_g rfl rfl (fun hg3 => ?_) (fun hg3 => ?_)
    · skip
      refine w_move (by constructor) ?_
      refine w_g_on rfl rfl hg3 ?_
      refine w_move (by constructor) ?_
      refine w_g_on rfl rfl hg3 ?_
      refine w_neq rfl rfl ?_
      refine w_pick_0 rfl hg3 (by constructor) ?_
      try simp only [Int.toNat_natCast] at hg3
      exact hRR _ (EL.cons (.inr (by first | rfl | (simp only [hg3, els]; done) | (simp only [hg3, els]; rfl) | simp [hg3])) (EL.cons (.inl rfl) (EL.cons (.inl rfl) (EL.cons (.inl rfl) (EL.cons (.inr rfl) (EL.cons (.inr rfl) (EL.cons (.inr rfl) (EL.cons (.inr rfl) (EL.refl _)))))))))
    · have hg3 := eq_true_of_ne_false hg3
      refine w_g_off rfl rfl (by rw [hg3]; decide) ?_
      refine w_g_off rfl rfl (by rw [hg3]; decide) ?_
      refine w_pick_1 rfl hg3 (by constructor) ?_
      try simp only [Int.toNat_natCast] at hg3
      exact hRR _ (EL.cons (.inr (by first | rfl | (simp only [hg3, els]; done) | (simp only [hg3, els]; rfl) | simp [hg3])) (EL.cons (.inl rfl) (EL.cons (.inl rfl) (EL.cons (.inl rfl) (EL.cons (.inr rfl) (EL.cons (.inr rfl) (EL.cons (.inr rfl) (EL.cons (.inr rfl) (EL.refl _)))))))))
  refine snd_cond _ rfl (fun hc32 => ?_) (fun hc32 => ?_)
  · skip
    exact absurd hc32 (by simp [eqN])
  · skip
    refine snd_skip ?_
    apply sr tokTB (by kernel_rfl)
    · intro RR hRR
      refine w_assign (by constructor) ?_
      exact hRR
    refine snd_ret ?_
    exact rt (T := TB) (fun V => by first | exact m_bool rfl | exact m_int rfl)
theorem lVectorText_no {p n : Int} {T : Nat → Nat → Nat → Int} {fo : Nat → Int} (hT : RB T) (hf : RV fo) {v : Nat → Int} (hv : B8 v) (hz : ¬ VZ p n T fo 1 (vs1 v)) : ACalls Try.prog TB 10 [algA p n T fo, vecA v] (.bool true) [] := by
  refine acalls_of tokTB Try.func10 rfl rfl (Nat.le_of_ble_eq_true rfl) ?_
  apply sr tokTB (by kernel_rfl)
  · intro RR hRR
    refine w_boxc (HV.eq (by constructor)) (by exact trivial) ?_
    refine w_boxc (HV.eq (by constructor)) (by exact trivial) ?_
    refine w_assign (by constructor) ?_
    exact hRR
  apply sd tokTB mixed (by kernel_rfl) (by kernel_rfl)
  · intro RR hRR
    refine w_ldc rfl kn26 (by constructor) (by exact sz26.symm) (by exact ag26.symm) ?_
    refine y_call rfl (ec exn) (c_toAlgebra) ?_
    refine w_ldc rfl kn22 (by constructor) (by exact sz22.symm) (by exact ag22.symm) ?_
    refine y_call rfl (ec exn) (c_toVector) ?_
    refine y_call rfl (ec (ec exn)) (c_sVectorText_no hT hf hv hz) ?_
    refine w_move (by constructor) ?_
    refine w_ext rfl (by decide) (by constructor) ?_
    refine w_ext rfl (by decide) (by constructor) ?_
    refine w_assign (by constructor) ?_
    refine w_assign (by constructor) ?_
    exact hRR
  apply sd tokTB mixed (by kernel_rfl) (by kernel_rfl)
  · intro RR hRR
    refine w_ldc rfl kn26 (by constructor) (by exact sz26.symm) (by exact ag26.symm) ?_
    refine y_call rfl (ec exn) (c_toAlgebra) ?_
    refine w_ldc rfl kn22 (by constructor) (by exact sz22.symm) (by exact ag22.symm) ?_
    refine y_call rfl (ec exn) (c_toVector) ?_
    refine y_call rfl (ec (ec exn)) (c_iVectorText_no hT hf hv hz) ?_
    refine w_move (by constructor) ?_
    refine w_ext rfl (by decide) (by constructor) ?_
    refine w_ext rfl (by decide) (by constructor) ?_
    refine w_assign (by constructor) ?_
    refine w_assign (by constructor) ?_
    exact hRR
  refine snd_seq ?_
  apply srG (env' := (32, .bool (decide ((⟨#[]⟩ : ByteArray).toList ≠ (⟨#[]⟩ : ByteArray).toList) || decide ((1 : Int) ≠ 1))) :: (31, .any) :: (30, .any) :: (29, .any) :: (28, _) :: (27, _) :: (26, _) :: (25, _) :: _) tokTB (by kernel_rfl)
  · intro RR hRR
    refine w_move (by constructor) ?_
    refine w_move (by constructor) ?_
    refine w_sneq rfl rfl und9 ?_
    refine w_move (by constructor) ?_
    refine w_g rfl rfl (fun hg3 => ?_) (fun hg3 => ?_)
    · skip
      refine w_move (by constructor) ?_
      refine w_g_on rfl rfl hg3 ?_
      refine w_move (by constructor) ?_
      refine w_g_on rfl rfl hg3 ?_
      refine w_neq rfl rfl ?_
      refine w_pick_0 rfl hg3 (by constructor) ?_
      try simp only [Int.toNat_natCast] at hg3
      exact hRR _ (EL.cons (.inr (by first | rfl | (simp only [hg3, els]; done) | (simp only [hg3, els]; rfl) | simp [hg3])) (EL.cons (.inl rfl) (EL.cons (.inl rfl) (EL.cons (.inl rfl) (EL.cons (.inr rfl) (EL.cons (.inr rfl) (EL.cons (.inr rfl) (EL.cons (.inr rfl) (EL.refl _)))))))))
    · have hg3 := eq_true_of_ne_false hg3
      refine w_g_off rfl rfl (by rw [hg3]; decide) ?_
      refine w_g_off rfl rfl (by rw [hg3]; decide) ?_
      refine w_pick_1 rfl hg3 (by constructor) ?_
      try simp only [Int.toNat_natCast] at hg3
      exact hRR _ (EL.cons (.inr (by first | rfl | (simp only [hg3, els]; done) | (simp only [hg3, els]; rfl) | simp [hg3])) (EL.cons (.inl rfl) (EL.cons (.inl rfl) (EL.cons (.inl rfl) (EL.cons (.inr rfl) (EL.cons (.inr rfl) (EL.cons (.inr rfl) (EL.cons (.inr rfl) (EL.refl _)))))))))
  refine snd_cond _ rfl (fun hc32 => ?_) (fun hc32 => ?_)
  · skip
    exact absurd hc32 (by simp [eqN])
  · skip
    refine snd_skip ?_
    apply sr tokTB (by kernel_rfl)
    · intro RR hRR
      refine w_assign (by constructor) ?_
      exact hRR
    refine snd_ret ?_
    exact rt (T := TB) (fun V => by first | exact m_bool rfl | exact m_int rfl)
theorem law_VectorText {p n : Int} {T : Nat → Nat → Nat → Int} {fo : Nat → Int} {v : Nat → Int} (hT : RB T) (hf : RV fo) (hv : RV v) : ACalls Try.prog TB 10 [algA p n T fo, vecA v] (.bool true) [] := by
  by_cases hz : VZ p n T fo 1 (vs1 v)
  · obtain ⟨h1, h2⟩ := VZ_1.1 hz
    obtain ⟨hv0, hn⟩ := VN_of hT hf h1
    obtain ⟨m, rfl⟩ : ∃ m : Nat, n = (m : Int) := ⟨n.toNat, hn⟩
    have hv0 : VN p m T fo := hv0
    have hp0 : 0 < p := by have := hv0.p0; omega
    exact lVectorText_ok hv0 (VV_of hp0 hv0.n6 hv h2)
  · exact lVectorText_no hT hf hv.b hz
end Go.Am
