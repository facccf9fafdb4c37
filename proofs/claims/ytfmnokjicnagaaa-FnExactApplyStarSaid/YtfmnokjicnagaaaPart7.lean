/- Part 7 of what the law stands on: abstract values, their walk, contracts of functions. My own work. Conditions: none. -/
import Derived.Test.YtfmnokjicnagaaaPart6
set_option linter.unusedVariables false
set_option linter.unusedSimpArgs false
set_option maxRecDepth 4000
namespace Go.Am
attribute [local irreducible] retQ
open Go.Proofs
theorem c_valid1_ok {p : Int} {n : Nat} {T : Nat → Nat → Nat → Int} {fo : Nat → Int} (hv0 : VN p n T fo) {v : Nat → Int} (hv : VV p n v) : ACalls Try.prog TB 57 [algA p (n : Int) T fo, vlA 1 (vs1 v)] (.int .i64 0) [] := by
  have hp : p ≤ 256 := by have := hv0.p0; omega
  have h := c_valid hv0.rb hv0.rv (M := 1) (by omega) (vs1_B8 (hv.B8 hp)) (p := p) (n := (n : Int)) (T := T) (fo := fo)
  rwa [cZ_ok (VZ_1.2 ⟨hv0.va, hv.sm⟩)] at h
theorem c_valid1_no {p n : Int} {T : Nat → Nat → Nat → Int} {fo : Nat → Int} (hT : RB T) (hf : RV fo) {v : Nat → Int} (hv : B8 v) (hz : ¬ VZ p n T fo 1 (vs1 v)) : ACalls Try.prog TB 57 [algA p n T fo, vlA 1 (vs1 v)] (.int .i64 1) [] := by
  have h := c_valid hT hf (M := 1) (by omega) (vs1_B8 hv) (p := p) (n := n) (T := T) (fo := fo)
  rwa [cZ_no hz] at h
theorem c_l01Code1_ok {p : Int} {n : Nat} {T : Nat → Nat → Nat → Int} {fo : Nat → Int} (hv0 : VN p n T fo) {v : Nat → Int} (hv : VV p n v) : ACalls Try.prog TB 54 [algA p (n : Int) T fo, vlA 1 (vs1 v)] (.int .i64 0) [] := by
  have hp : p ≤ 256 := by have := hv0.p0; omega
  have h := c_l01Code hv0.rb hv0.rv (M := 1) (by omega) (vs1_B8 (hv.B8 hp)) (p := p) (n := (n : Int)) (T := T) (fo := fo)
  rwa [cZ_ok (VZ_1.2 ⟨hv0.va, hv.sm⟩)] at h
theorem c_l01Code1_no {p n : Int} {T : Nat → Nat → Nat → Int} {fo : Nat → Int} (hT : RB T) (hf : RV fo) {v : Nat → Int} (hv : B8 v) (hz : ¬ VZ p n T fo 1 (vs1 v)) : ACalls Try.prog TB 54 [algA p n T fo, vlA 1 (vs1 v)] (.int .i64 1) [] := by
  have h := c_l01Code hT hf (M := 1) (by omega) (vs1_B8 hv) (p := p) (n := n) (T := T) (fo := fo)
  rwa [cZ_no hz] at h
end Go.Am

set_option linter.unusedVariables false
set_option linter.unusedSimpArgs false
set_option maxRecDepth 4000
namespace Go.Am
attribute [local irreducible] retQ
open Go.Proofs
theorem c_eqVector {u v : Nat → Int} : ACalls Try.prog TB 23 [vecA u, vecA v] (.bool (decide (eqN 6 u v))) [] := by
  refine acalls_of tokTB Try.func23 rfl rfl (Nat.le_of_ble_eq_true rfl) ?_
  apply sr tokTB (by kernel_rfl)
  · intro RR hRR
    refine w_boxc (HV.eq (by constructor)) (by exact trivial) ?_
    refine w_boxc (HV.eq (by constructor)) (by exact trivial) ?_
    refine w_assign (by constructor) ?_
    exact hRR
  refine snd_seq ?_
  apply sr tokTB (by kernel_rfl)
  · intro RR hRR
    refine w_assign (by constructor) ?_
    exact hRR
  refine snd_block ?_
  refine snd_loop (S := Nat) (fun i => ([(2, .cptr (vecA u)), (3, .cptr (vecA v)), (5, .int .i64 (i : Int))], [])) (fun i => i ≤ 6 ∧ (∀ a, a < i → u a = v a)) (fun i => 6 - i) (0) ρ0 ?_ ?_ ?_
  · exact ⟨⟨(m_cvec (fun _ _ => rfl)), (m_cvec (fun _ _ => rfl)), (by first | exact m_int rfl | exact m_int (by omega) | exact m_int (by simp; done) | (exact m_int (by simp; omega))), trivial⟩, trivial, trivial⟩
  · exact ⟨Nat.zero_le _, fun j hj => absurd hj (Nat.not_lt_zero _)⟩
  intro i hi0
  refine sq (env2 := [(2, .cptr (vecA u)), (3, .cptr (vecA v)), (5, .int .i64 (i : Int))]) (ol2 := []) rfl rfl ?_
  obtain ⟨le_i, inv_i⟩ := hi0
  refine snd_seq ?_
  apply sr tokTB (by kernel_rfl)
  · intro RR hRR
    refine w_move (by constructor) ?_
    refine w_lss rfl rfl ?_
    exact hRR
  refine snd_cond _ rfl (fun hc7 => ?_) (fun hc7 => ?_)
  · try simp only [hcs] at hc7
    have lt_i : i < 6 := by omega
    refine snd_skip ?_
    refine snd_seq ?_
    refine snd_block ?_
    apply sd tokTB mixed (by kernel_rfl) (by kernel_rfl)
    · intro RR hRR
      refine w_move (by constructor) ?_
      refine w_iac rfl rfl und29 kn5 (by exact sz5.symm) ?_ rfl ?_
      · exact ⟨by omega, by omega⟩
      first | refine w_ldc rfl kn5 (by constructor) (by exact sz5.symm) (by exact ag5.symm) ?_ | refine w_ldp rfl kn5 rfl (by constructor) (by exact sz5.symm) (by exact ag5.symm) ?_
      refine w_move (by constructor) ?_
      refine w_iac rfl rfl und29 kn5 (by exact sz5.symm) ?_ rfl ?_
      · exact ⟨by omega, by omega⟩
      first | refine w_ldc rfl kn5 (by constructor) (by exact sz5.symm) (by exact ag5.symm) ?_ | refine w_ldp rfl kn5 rfl (by constructor) (by exact sz5.symm) (by exact ag5.symm) ?_
      refine w_neq rfl rfl ?_
      exact hRR
    refine snd_cond _ rfl (fun hc16 => ?_) (fun hc16 => ?_)
    · skip
      apply sr tokTB (by kernel_rfl)
      · intro RR hRR
        refine w_assign (by constructor) ?_
        exact hRR
      refine snd_ret ?_
      exact rt (T := TB) (fun V => m_bool (by symm; rw [decide_eq_false_iff_not]; intro h; exact of_decide_eq_true hc16 (h i (by omega))))
    · skip
      refine snd_skip ?_
      apply lr tokTB (by kernel_rfl)
      · intro RR hRR
        refine w_move (by constructor) ?_
        refine y_add rfl rfl ?_
        refine w_assign (by constructor) ?_
        exact hRR
      refine ⟨i + 1, ρ0, ?_, ⟨by omega, all_step inv_i (Classical.not_not.1 (of_decide_eq_false hc16))⟩, (by dsimp only; omega)⟩
      exact ⟨⟨(m_cvec (fun _ _ => rfl)), (m_cvec (fun _ _ => rfl)), (by first | exact m_int rfl | exact m_int (by omega) | exact m_int (by simp; done) | (exact m_int (by simp; omega))), trivial⟩, trivial, trivial⟩
  · try simp only [hcs] at hc7
    have ge_i : 6 = i := by omega
    subst ge_i
    refine snd_exit ?_
    apply sr tokTB (by kernel_rfl)
    · intro RR hRR
      refine w_assign (by constructor) ?_
      exact hRR
    refine snd_ret ?_
    exact rt (T := TB) (fun V => m_bool (by symm; rw [decide_eq_true_eq]; exact inv_i))
end Go.Am

set_option linter.unusedVariables false
set_option linter.unusedSimpArgs false
set_option maxRecDepth 4000
namespace Go.Am
attribute [local irreducible] retQ
open Go.Proofs
theorem c_l01Add {p k : Int} {u v : Nat → Int} (hp : 2 ≤ p ∧ p ≤ 13) (hu : B8 u) (hv : B8 v) (hk : -1000000000000 ≤ k ∧ k ≤ 1000000000000) : ACalls Try.prog TB 118 [.int .i64 p, vecA u, vecA v, .int .i64 k] (vecA (addF p u v k)) [] := by
  refine acalls_of tokTB Try.func118 rfl rfl (Nat.le_of_ble_eq_true rfl) ?_
  apply sr tokTB (by kernel_rfl)
  · intro RR hRR
    refine w_boxp (HV.eq (by constructor)) (by exact trivial) rfl (by first | exact trivial | exact ssh_vec | exact ssh_alg | exact ssh_tab | exact ssh_mat | exact ⟨rfl, fun _ => trivial⟩ | exact ⟨rfl, fun _ => by rw [zr29]; exact ssh_vec⟩) ?_
    refine w_boxc (HV.eq (by constructor)) (by exact trivial) ?_
    refine w_alloc kn29 rfl zr29 ?_
    exact hRR
  refine snd_seq ?_
  apply sr tokTB (by kernel_rfl)
  · intro RR hRR
    refine w_assign (by constructor) ?_
    exact hRR
  refine snd_block ?_
  refine snd_loop (S := Nat) (fun i => ([(0, .int .i64 p), (3, .int .i64 k), (5, .ptr 5 0 [] 0 (vecA u)), (6, .cptr (vecA v)), (8, .ptr 8 0 [] 0 (vecA (fun _ => 0))), (9, .int .i64 (i : Int))], [(5, .one (vecA u) (vecA (mixF (addF p u v k) u i))), (8, .one (vecA (fun _ => 0)) (vecA (fun _ => 0)))])) (fun i => i ≤ 6) (fun i => 6 - i) (0) ρ0 ?_ ?_ ?_
  · exact ⟨⟨(by first | exact m_int rfl | exact m_int (by omega) | exact m_int (by simp; done) | (exact m_int (by simp; omega))), (by first | exact m_int rfl | exact m_int (by omega) | exact m_int (by simp; done) | (exact m_int (by simp; omega))), ⟨rfl, rfl, rfl, rfl, rfl⟩, (m_cvec (fun _ _ => rfl)), ⟨rfl, rfl, rfl, rfl, rfl⟩, (by first | exact m_int rfl | exact m_int (by omega) | exact m_int (by simp; done) | (exact m_int (by simp; omega))), trivial⟩, ⟨⟨rfl, (by first | exact trivial | exact ssh_vec | exact ssh_alg | exact ssh_tab | exact ssh_mat | exact ⟨rfl, fun _ => trivial⟩ | exact ⟨rfl, fun _ => by rw [zr29]; exact ssh_vec⟩), (by exact mt_vec (fun z _ => by simp [mixF]))⟩, ⟨rfl, (by first | exact trivial | exact ssh_vec | exact ssh_alg | exact ssh_tab | exact ssh_mat | exact ⟨rfl, fun _ => trivial⟩ | exact ⟨rfl, fun _ => by rw [zr29]; exact ssh_vec⟩), (by first | exact mt_vec (fun _ _ => rfl) | exact mt_mat (fun _ _ _ _ => rfl) | exact mt_tab (fun _ _ _ _ _ _ => rfl) | exact mt_arr0 | exact mt_app (fun _ _ => rfl) rfl | exact ⟨rfl, fun _ _ => mt_row (fun _ _ => rfl)⟩ | exact Mt_closed (V := _) closed_alg (fun _ _ _ => trivial) (by simp))⟩, trivial⟩, ⟨⟨(fun h => by first | exact ⟨rfl, rfl⟩ | exact absurd h (by decide)), (fun h => by first | exact ⟨rfl, rfl⟩ | exact absurd h (by decide)), trivial⟩, ⟨(fun h => by first | exact ⟨rfl, rfl⟩ | exact absurd h (by decide)), (fun h => by first | exact ⟨rfl, rfl⟩ | exact absurd h (by decide)), trivial⟩, trivial⟩⟩
  · exact Nat.zero_le _
  intro i hi0
  refine sq (env2 := [(0, .int .i64 p), (3, .int .i64 k), (5, .ptr 5 0 [] 0 (vecA u)), (6, .cptr (vecA v)), (8, .ptr 8 0 [] 0 (vecA (fun _ => 0))), (9, .int .i64 (i : Int))]) (ol2 := [(5, .one (vecA u) (vecA (mixF (addF p u v k) u i))), (8, .one (vecA (fun _ => 0)) (vecA (fun _ => 0)))]) rfl rfl ?_
  have hkv := kv_bd hv hk i
  have hui := hu i
  refine snd_seq ?_
  apply sr tokTB (by kernel_rfl)
  · intro RR hRR
    refine w_move (by constructor) ?_
    refine w_lss rfl rfl ?_
    exact hRR
  refine snd_cond _ rfl (fun hc11 => ?_) (fun hc11 => ?_)
  · try simp only [hcs] at hc11
    have lt_i : i < 6 := by omega
    refine snd_skip ?_
    refine snd_seq ?_
    refine snd_block ?_
    apply ld tokTB mixed (by kernel_rfl) (by kernel_rfl)
    · intro RR hRR
      refine w_move (by constructor) ?_
      refine w_move (by constructor) ?_
      refine w_move (by constructor) ?_
      refine w_iap rfl rfl und29 kn5 rfl (by exact sz5.symm) rfl ?_ ?_
      · exact ⟨by omega, by omega⟩
      first | refine w_ldc rfl kn5 (by constructor) (by exact sz5.symm) (by exact ag5.symm) ?_ | refine w_ldp rfl kn5 rfl (by constructor) (by exact sz5.symm) (by exact ag5.symm) ?_
      refine w_conv rfl und5 und2 (by exact w_mixc hu i) ?_
      refine w_move (by constructor) ?_
      refine w_move (by constructor) ?_
      refine w_iac rfl rfl und29 kn5 (by exact sz5.symm) ?_ rfl ?_
      · exact ⟨by omega, by omega⟩
      first | refine w_ldc rfl kn5 (by constructor) (by exact sz5.symm) (by exact ag5.symm) ?_ | refine w_ldp rfl kn5 rfl (by constructor) (by exact sz5.symm) (by exact ag5.symm) ?_
      refine w_conv rfl und5 und2 (by exact w64b hv _) ?_
      refine w_mul rfl rfl (by exact w64 (n := k * v i) (by omega) (by omega)) ?_
      refine w_add rfl rfl (by exact w64 (n := u i + k * v i) (by omega) (by omega)) ?_
      refine y_call rfl (ec (ec exn)) (c_l01Mod (p := p) (x := u i + k * v i) (by omega) (by omega)) ?_
      refine w_conv rfl und2 und5 (by exact w_addF hp u v k i) ?_
      refine w_iap rfl rfl und29 kn5 rfl (by exact sz5.symm) rfl ?_ ?_
      · exact ⟨by omega, by omega⟩
      first | refine w_stw rfl (by constructor) kn5 rfl (by exact trivial) (by first | exact trivial | exact ssh_vec | exact ssh_alg | exact ssh_tab | exact ssh_mat | exact ⟨rfl, fun _ => trivial⟩ | exact ⟨rfl, fun _ => by rw [zr29]; exact ssh_vec⟩) (by exact sz5.symm) ?_ | refine w_sti rfl rfl kn5 rfl (by exact trivial) (by exact sz5.symm) ?_ | refine w_store rfl (HV.eq (by constructor)) kn5 rfl (by exact trivial) (by first | exact trivial | exact ssh_vec | exact ssh_alg | exact ssh_tab | exact ssh_mat | exact ⟨rfl, fun _ => trivial⟩ | exact ⟨rfl, fun _ => by rw [zr29]; exact ssh_vec⟩) (by exact sz5.symm) (put_in (by first | exact put_mat | exact put_tab | exact put_alg0 | exact put_alg1 | exact put_alg2 | exact put_alg3 | exact put_alg3i | exact put_alg2ij | exact put_alg2ijk | exact put_mat2 | exact put_tab2 | exact put_tab3)) ?_ | refine w_store rfl (HV.eq (by constructor)) kn5 rfl (by exact trivial) (by exact trivial) (by exact sz5.symm) rfl ?_
      exact hRR
    apply lr tokTB (by kernel_rfl)
    · intro RR hRR
      refine w_move (by constructor) ?_
      refine y_add rfl rfl ?_
      refine w_assign (by constructor) ?_
      exact hRR
    refine ⟨i + 1, ρ0, ?_, (by omega), (by dsimp only; omega)⟩
    exact ⟨⟨(by first | exact m_int rfl | exact m_int (by omega) | exact m_int (by simp; done) | (exact m_int (by simp; omega))), (by first | exact m_int rfl | exact m_int (by omega) | exact m_int (by simp; done) | (exact m_int (by simp; omega))), ⟨rfl, rfl, rfl, rfl, rfl⟩, (m_cvec (fun _ _ => rfl)), ⟨rfl, rfl, rfl, rfl, rfl⟩, (by first | exact m_int rfl | exact m_int (by omega) | exact m_int (by simp; done) | (exact m_int (by simp; omega))), trivial⟩, ⟨⟨rfl, (by first | exact trivial | exact ssh_vec | exact ssh_alg | exact ssh_tab | exact ssh_mat | exact ⟨rfl, fun _ => trivial⟩ | exact ⟨rfl, fun _ => by rw [zr29]; exact ssh_vec⟩), (by exact mt_vec (fun z _ => upd_mix _ _ i z))⟩, ⟨rfl, (by first | exact trivial | exact ssh_vec | exact ssh_alg | exact ssh_tab | exact ssh_mat | exact ⟨rfl, fun _ => trivial⟩ | exact ⟨rfl, fun _ => by rw [zr29]; exact ssh_vec⟩), (by first | exact mt_vec (fun _ _ => rfl) | exact mt_mat (fun _ _ _ _ => rfl) | exact mt_tab (fun _ _ _ _ _ _ => rfl) | exact mt_arr0 | exact mt_app (fun _ _ => rfl) rfl | exact ⟨rfl, fun _ _ => mt_row (fun _ _ => rfl)⟩ | exact Mt_closed (V := _) closed_alg (fun _ _ _ => trivial) (by simp))⟩, trivial⟩, ⟨⟨(fun h => by first | exact ⟨rfl, rfl⟩ | exact absurd h (by decide)), (fun h => by first | exact ⟨rfl, rfl⟩ | exact absurd h (by decide)), trivial⟩, ⟨(fun h => by first | exact ⟨rfl, rfl⟩ | exact absurd h (by decide)), (fun h => by first | exact ⟨rfl, rfl⟩ | exact absurd h (by decide)), trivial⟩, trivial⟩⟩
  · try simp only [hcs] at hc11
    have ge_i : 6 = i := by omega
    subst ge_i
    refine snd_exit ?_
    apply sr tokTB (by kernel_rfl)
    · intro RR hRR
      refine w_ldp rfl kn29 rfl (by constructor) (by exact sz29.symm) (by exact ag29.symm) ?_
      refine w_stw rfl (by constructor) kn29 rfl (by exact trivial) (by first | exact trivial | exact ssh_vec | exact ssh_alg | exact ssh_tab | exact ssh_mat | exact ⟨rfl, fun _ => trivial⟩ | exact ⟨rfl, fun _ => by rw [zr29]; exact ssh_vec⟩) (by exact sz29.symm) ?_
      exact hRR
    refine snd_ret ?_
    exact rt_c (T := TB) rfl kn29 rfl sz29.symm ag29.symm (fun V => m_vec (fun j hj => by simp [mixF, hj]))
theorem c_add {p n k : Int} {T : Nat → Nat → Nat → Int} {fo u v : Nat → Int} (hp : 2 ≤ p ∧ p ≤ 13) (hu : B8 u) (hv : B8 v) (hk : 0 ≤ k ∧ k ≤ 1000000000000) : ACalls Try.prog TB 119 [.cptr (algA p n T fo), vecA u, vecA v, .int .i64 k] (vecA (addF p u v k)) [] := by
  refine acalls_of tokTB Try.func119 rfl rfl (Nat.le_of_ble_eq_true rfl) ?_
  apply sr tokTB (by kernel_rfl)
  · intro RR hRR
    refine w_boxp (HV.eq (by constructor)) (by exact trivial) rfl (by first | exact trivial | exact ssh_vec | exact ssh_alg | exact ssh_tab | exact ssh_mat | exact ⟨rfl, fun _ => trivial⟩ | exact ⟨rfl, fun _ => by rw [zr29]; exact ssh_vec⟩) ?_
    refine w_boxc (HV.eq (by constructor)) (by exact trivial) ?_
    refine w_alloc kn29 rfl zr29 ?_
    exact hRR
  refine snd_seq ?_
  apply sr tokTB (by kernel_rfl)
  · intro RR hRR
    refine w_move (by constructor) ?_
    exact hRR
  refine snd_block ?_
  refine snd_loop (S := Nat) (fun i => ([(0, .cptr (algA p n T fo)), (3, .int .i64 k), (5, .ptr 5 0 [] 0 (vecA u)), (6, .cptr (vecA v)), (8, .ptr 8 0 [] 0 (vecA (fun _ => 0))), (10, .int .i64 (i : Int))], [(5, .one (vecA u) (vecA (mixF (addF p u v k) u i))), (8, .one (vecA (fun _ => 0)) (vecA (fun _ => 0)))])) (fun i => i ≤ 6) (fun i => 6 - i) (0) ρ0 ?_ ?_ ?_
  · exact ⟨⟨m_calg, (by first | exact m_int rfl | exact m_int (by omega) | exact m_int (by simp; done) | (exact m_int (by simp; omega))), ⟨rfl, rfl, rfl, rfl, rfl⟩, (m_cvec (fun _ _ => rfl)), ⟨rfl, rfl, rfl, rfl, rfl⟩, (by first | exact m_int rfl | exact m_int (by omega) | exact m_int (by simp; done) | (exact m_int (by simp; omega))), trivial⟩, ⟨⟨rfl, (by first | exact trivial | exact ssh_vec | exact ssh_alg | exact ssh_tab | exact ssh_mat | exact ⟨rfl, fun _ => trivial⟩ | exact ⟨rfl, fun _ => by rw [zr29]; exact ssh_vec⟩), (by exact mt_vec (fun z _ => by simp [mixF]))⟩, ⟨rfl, (by first | exact trivial | exact ssh_vec | exact ssh_alg | exact ssh_tab | exact ssh_mat | exact ⟨rfl, fun _ => trivial⟩ | exact ⟨rfl, fun _ => by rw [zr29]; exact ssh_vec⟩), (by first | exact mt_vec (fun _ _ => rfl) | exact mt_mat (fun _ _ _ _ => rfl) | exact mt_tab (fun _ _ _ _ _ _ => rfl) | exact mt_arr0 | exact mt_app (fun _ _ => rfl) rfl | exact ⟨rfl, fun _ _ => mt_row (fun _ _ => rfl)⟩ | exact Mt_closed (V := _) closed_alg (fun _ _ _ => trivial) (by simp))⟩, trivial⟩, ⟨⟨(fun h => by first | exact ⟨rfl, rfl⟩ | exact absurd h (by decide)), (fun h => by first | exact ⟨rfl, rfl⟩ | exact absurd h (by decide)), trivial⟩, ⟨(fun h => by first | exact ⟨rfl, rfl⟩ | exact absurd h (by decide)), (fun h => by first | exact ⟨rfl, rfl⟩ | exact absurd h (by decide)), trivial⟩, trivial⟩⟩
  · exact Nat.zero_le _
  intro i hi0
  refine sq (env2 := [(0, .cptr (algA p n T fo)), (3, .int .i64 k), (5, .ptr 5 0 [] 0 (vecA u)), (6, .cptr (vecA v)), (8, .ptr 8 0 [] 0 (vecA (fun _ => 0))), (10, .int .i64 (i : Int))]) (ol2 := [(5, .one (vecA u) (vecA (mixF (addF p u v k) u i))), (8, .one (vecA (fun _ => 0)) (vecA (fun _ => 0)))]) rfl rfl ?_
  have hkv := kv_bd hv (k := k) (by omega) i
  have hui := hu i
  apply sr tokTB (by kernel_rfl)
  · intro RR hRR
    refine w_lss rfl rfl ?_
    exact hRR
  refine snd_seq ?_
  refine snd_cond _ rfl (fun hc11 => ?_) (fun hc11 => ?_)
  · try simp only [hcs] at hc11
    have lt_i : i < 6 := by omega
    refine snd_skip ?_
    refine snd_seq ?_
    refine snd_block ?_
    apply sr tokTB (by kernel_rfl)
    · intro RR hRR
      refine w_move (by constructor) ?_
      refine w_assign (by constructor) ?_
      exact hRR
    apply ld tokTB mixed (by kernel_rfl) (by kernel_rfl)
    · intro RR hRR
      refine w_move (by constructor) ?_
      refine w_move (by constructor) ?_
      refine w_iap rfl rfl und29 kn5 rfl (by exact sz5.symm) rfl ?_ ?_
      · exact ⟨by omega, by omega⟩
      first | refine w_ldc rfl kn5 (by constructor) (by exact sz5.symm) (by exact ag5.symm) ?_ | refine w_ldp rfl kn5 rfl (by constructor) (by exact sz5.symm) (by exact ag5.symm) ?_
      refine w_conv rfl und5 und2 (by exact w_mixc hu i) ?_
      refine w_move (by constructor) ?_
      refine w_move (by constructor) ?_
      refine w_iac rfl rfl und29 kn5 (by exact sz5.symm) ?_ rfl ?_
      · exact ⟨by omega, by omega⟩
      first | refine w_ldc rfl kn5 (by constructor) (by exact sz5.symm) (by exact ag5.symm) ?_ | refine w_ldp rfl kn5 rfl (by constructor) (by exact sz5.symm) (by exact ag5.symm) ?_
      refine w_conv rfl und5 und2 (by exact w64b hv _) ?_
      refine w_mul rfl rfl (by exact w64 (n := k * v i) (by omega) (by omega)) ?_
      refine w_add rfl rfl (by exact w64 (n := u i + k * v i) (by omega) (by omega)) ?_
      refine w_move (by constructor) ?_
      refine w_nilc rfl ?_
      refine w_fac rfl und31 rfl kn2 nz2 (by decide) rfl (by constructor) ?_
      refine w_ldc rfl kn2 (by constructor) (by exact sz2.symm) (by exact ag2.symm) ?_
      refine w_rem rfl rfl (by first | assumption | omega) ?_
      refine w_conv rfl und2 und5 (by exact (congrArg IntKind.u8.wrap (add_tmod hu hv hk.1 i)).trans (w_addF hp u v k i)) ?_
      refine w_iap rfl rfl und29 kn5 rfl (by exact sz5.symm) rfl ?_ ?_
      · exact ⟨by omega, by omega⟩
      first | refine w_stw rfl (by constructor) kn5 rfl (by exact trivial) (by first | exact trivial | exact ssh_vec | exact ssh_alg | exact ssh_tab | exact ssh_mat | exact ⟨rfl, fun _ => trivial⟩ | exact ⟨rfl, fun _ => by rw [zr29]; exact ssh_vec⟩) (by exact sz5.symm) ?_ | refine w_sti rfl rfl kn5 rfl (by exact trivial) (by exact sz5.symm) ?_ | refine w_store rfl (HV.eq (by constructor)) kn5 rfl (by exact trivial) (by first | exact trivial | exact ssh_vec | exact ssh_alg | exact ssh_tab | exact ssh_mat | exact ⟨rfl, fun _ => trivial⟩ | exact ⟨rfl, fun _ => by rw [zr29]; exact ssh_vec⟩) (by exact sz5.symm) (put_in (by first | exact put_mat | exact put_tab | exact put_alg0 | exact put_alg1 | exact put_alg2 | exact put_alg3 | exact put_alg3i | exact put_alg2ij | exact put_alg2ijk | exact put_mat2 | exact put_tab2 | exact put_tab3)) ?_ | refine w_store rfl (HV.eq (by constructor)) kn5 rfl (by exact trivial) (by exact trivial) (by exact sz5.symm) rfl ?_
      exact hRR
    apply lr tokTB (by kernel_rfl)
    · intro RR hRR
      refine y_add rfl rfl ?_
      refine w_move (by constructor) ?_
      exact hRR
    refine ⟨i + 1, ρ0, ?_, (by omega), (by dsimp only; omega)⟩
    exact ⟨⟨m_calg, (by first | exact m_int rfl | exact m_int (by omega) | exact m_int (by simp; done) | (exact m_int (by simp; omega))), ⟨rfl, rfl, rfl, rfl, rfl⟩, (m_cvec (fun _ _ => rfl)), ⟨rfl, rfl, rfl, rfl, rfl⟩, (by first | exact m_int rfl | exact m_int (by omega) | exact m_int (by simp; done) | (exact m_int (by simp; omega))), trivial⟩, ⟨⟨rfl, (by first | exact trivial | exact ssh_vec | exact ssh_alg | exact ssh_tab | exact ssh_mat | exact ⟨rfl, fun _ => trivial⟩ | exact ⟨rfl, fun _ => by rw [zr29]; exact ssh_vec⟩), (by exact mt_vec (fun z _ => upd_mix _ _ i z))⟩, ⟨rfl, (by first | exact trivial | exact ssh_vec | exact ssh_alg | exact ssh_tab | exact ssh_mat | exact ⟨rfl, fun _ => trivial⟩ | exact ⟨rfl, fun _ => by rw [zr29]; exact ssh_vec⟩), (by first | exact mt_vec (fun _ _ => rfl) | exact mt_mat (fun _ _ _ _ => rfl) | exact mt_tab (fun _ _ _ _ _ _ => rfl) | exact mt_arr0 | exact mt_app (fun _ _ => rfl) rfl | exact ⟨rfl, fun _ _ => mt_row (fun _ _ => rfl)⟩ | exact Mt_closed (V := _) closed_alg (fun _ _ _ => trivial) (by simp))⟩, trivial⟩, ⟨⟨(fun h => by first | exact ⟨rfl, rfl⟩ | exact absurd h (by decide)), (fun h => by first | exact ⟨rfl, rfl⟩ | exact absurd h (by decide)), trivial⟩, ⟨(fun h => by first | exact ⟨rfl, rfl⟩ | exact absurd h (by decide)), (fun h => by first | exact ⟨rfl, rfl⟩ | exact absurd h (by decide)), trivial⟩, trivial⟩⟩
  · try simp only [hcs] at hc11
    have ge_i : 6 = i := by omega
    subst ge_i
    refine snd_exit ?_
    apply sr tokTB (by kernel_rfl)
    · intro RR hRR
      refine w_ldp rfl kn29 rfl (by constructor) (by exact sz29.symm) (by exact ag29.symm) ?_
      refine w_stw rfl (by constructor) kn29 rfl (by exact trivial) (by first | exact trivial | exact ssh_vec | exact ssh_alg | exact ssh_tab | exact ssh_mat | exact ⟨rfl, fun _ => trivial⟩ | exact ⟨rfl, fun _ => by rw [zr29]; exact ssh_vec⟩) (by exact sz29.symm) ?_
      exact hRR
    refine snd_ret ?_
    exact rt_c (T := TB) rfl kn29 rfl sz29.symm ag29.symm (fun V => m_vec (fun j hj => by simp [mixF, hj]))
end Go.Am

set_option linter.unusedVariables false
set_option linter.unusedSimpArgs false
set_option maxRecDepth 4000
namespace Go.Am
attribute [local irreducible] retQ retQp
open Go.Proofs
theorem c_eqVectorS {N : Nat} {R S : Nat → Nat → Int} (hN : N ≤ 16777216) (h : ∀ i, i < N → eqN 6 (R i) (S i)) : ACalls Try.prog TB 38 [vlA N R, vlA N S] (.bool true) [] := by
  refine acalls_of tokTB Try.func38 rfl rfl (Nat.le_of_ble_eq_true rfl) ?_
  apply sr tokTB (by kernel_rfl)
  · intro RR hRR
    refine w_assign (by constructor) ?_
    exact hRR
  refine snd_seq ?_
  apply sr tokTB (by kernel_rfl)
  · intro RR hRR
    refine w_move (by constructor) ?_
    refine w_len_r rfl rfl und52 ?_
    refine w_move (by constructor) ?_
    refine w_len_r rfl rfl und52 ?_
    refine w_neq rfl rfl ?_
    exact hRR
  refine snd_cond_false (by exact congrArg AV.bool (decide_eq_false (by simp))) ?_
  refine snd_skip ?_
  refine snd_seq ?_
  apply sr tokTB (by kernel_rfl)
  · intro RR hRR
    refine w_assign (by constructor) ?_
    exact hRR
  refine snd_block ?_
  refine snd_loop (S := Nat) (fun i => ([(0, vlA N R), (1, vlA N S), (5, .int .i64 (i : Int))], [])) (fun i => i ≤ N) (fun i => N - i) (0) ρ0 ?_ ?_ ?_
  · exact ⟨⟨(by first | exact m_vl | exact mt_fz (by exact trivial) rfl (fun _ _ => mt_vec (fun _ _ => rfl))), (by first | exact m_vl | exact mt_fz (by exact trivial) rfl (fun _ _ => mt_vec (fun _ _ => rfl))), (by first | exact m_int rfl | exact m_int (by omega) | exact m_int (by simp; done) | (exact m_int (by simp; omega))), trivial⟩, trivial, trivial⟩
  · exact Nat.zero_le _
  intro i hi0
  refine sq (env2 := [(0, vlA N R), (1, vlA N S), (5, .int .i64 (i : Int))]) (ol2 := []) rfl rfl ?_
  refine snd_seq ?_
  apply sr tokTB (by kernel_rfl)
  · intro RR hRR
    refine w_move (by constructor) ?_
    refine w_move (by constructor) ?_
    refine w_len_r rfl rfl und52 ?_
    refine w_lss rfl rfl ?_
    exact hRR
  refine snd_cond _ rfl (fun hc14 => ?_) (fun hc14 => ?_)
  · try simp only [hcs] at hc14
    have lt_i : i < N := by omega
    refine snd_skip ?_
    refine snd_seq ?_
    refine snd_block ?_
    apply sd tokTB mixed (by kernel_rfl) (by kernel_rfl)
    · intro RR hRR
      refine w_move (by constructor) ?_
      refine w_move (by constructor) ?_
      refine w_iar rfl rfl und52 kn29 (by exact sz29.symm) ?_ rfl ?_
      · exact ⟨by omega, by omega⟩
      first | refine w_ldc rfl kn29 (by constructor) (by exact sz29.symm) (by exact ag29.symm) ?_ | refine w_ldp rfl kn29 rfl (by constructor) (by exact sz29.symm) (by exact ag29.symm) ?_
      refine w_move (by constructor) ?_
      refine w_move (by constructor) ?_
      refine w_iar rfl rfl und52 kn29 (by exact sz29.symm) ?_ rfl ?_
      · exact ⟨by omega, by omega⟩
      first | refine w_ldc rfl kn29 (by constructor) (by exact sz29.symm) (by exact ag29.symm) ?_ | refine w_ldp rfl kn29 rfl (by constructor) (by exact sz29.symm) (by exact ag29.symm) ?_
      refine y_call rfl (ec (ec exn)) ((decide_eq_true (h i (by omega)) ▸ c_eqVector (u := R i) (v := S i))) ?_
      refine w_not rfl ?_
      exact hRR
    refine snd_cond_false (by exact rfl) ?_
    refine snd_skip ?_
    apply lr tokTB (by kernel_rfl)
    · intro RR hRR
      refine w_move (by constructor) ?_
      refine y_add rfl rfl ?_
      refine w_assign (by constructor) ?_
      exact hRR
    refine ⟨i + 1, ρ0, ?_, (by omega), (by dsimp only; omega)⟩
    exact ⟨⟨(by first | exact m_vl | exact mt_fz (by exact trivial) rfl (fun _ _ => mt_vec (fun _ _ => rfl))), (by first | exact m_vl | exact mt_fz (by exact trivial) rfl (fun _ _ => mt_vec (fun _ _ => rfl))), (by first | exact m_int rfl | exact m_int (by omega) | exact m_int (by simp; done) | (exact m_int (by simp; omega))), trivial⟩, trivial, trivial⟩
  · try simp only [hcs] at hc14
    have ge_i : N = i := by omega
    subst ge_i
    refine snd_exit ?_
    apply sr tokTB (by kernel_rfl)
    · intro RR hRR
      refine w_assign (by constructor) ?_
      exact hRR
    refine snd_ret ?_
    exact rt (T := TB) (fun V => rfl)
end Go.Am

set_option linter.unusedVariables false
set_option linter.unusedSimpArgs false
set_option maxRecDepth 4000
namespace Go.Am
attribute [local irreducible] retQ retQp
open Go.Proofs
theorem c_l08Apply {p : Int} {n : Nat} {T : Nat → Nat → Nat → Int} {fo : Nat → Int} (hv0 : VN p n T fo) {F : Nat → Nat → Int} {v : Nat → Int} (hF : ∀ i, B8 (F i)) (hv : B8 v) : ACalls Try.prog TB 93 [algA p (n : Int) T fo, vlA n F, vecA v] (vecA (apF p F v n)) [] := by
  have hp8 := hv0.p0
  have hn6 := hv0.n6
  refine acalls_of tokTB Try.func93 rfl rfl (Nat.le_of_ble_eq_true rfl) ?_
  apply sr tokTB (by kernel_rfl)
  · intro RR hRR
    refine w_boxc (HV.eq (by constructor)) (by exact trivial) ?_
    refine w_boxc (HV.eq (by constructor)) (by exact trivial) ?_
    refine w_alloc kn29 rfl zr29 ?_
    exact hRR
  apply sr tokTB (by kernel_rfl)
  · intro RR hRR
    refine w_bld_a kn29 zr29 und29 kn5 (fun _ => (by exact sz5.symm)) trivial rfl (by exact sz5.symm) ?_
    refine w_alloc kn29 rfl zr29 ?_
    refine w_stw rfl (by constructor) kn29 rfl (by exact trivial) (by first | exact trivial | exact ssh_vec | exact ssh_alg | exact ssh_tab | exact ssh_mat | exact ⟨rfl, fun _ => trivial⟩ | exact ⟨rfl, fun _ => by rw [zr29]; exact ssh_vec⟩) (by exact sz29.symm) ?_
    exact hRR
  refine snd_seq ?_
  apply sr tokTB (by kernel_rfl)
  · intro RR hRR
    refine w_assign (by constructor) ?_
    exact hRR
  refine snd_block ?_
  refine snd_loop (S := Nat) (fun i => ([(1, vlA n F), (3, .cptr (algA p (n : Int) T fo)), (5, .cptr (vecA v)), (6, .ptr 6 0 [] 0 (vecA (fun _ => 0))), (7, .ptr 7 0 [] 0 (vecA (fun _ => 0))), (8, .int .i64 (i : Int))], [(6, .one (vecA (fun _ => 0)) (vecA (fun _ => 0))), (7, .one (vecA (fun _ => 0)) (vecA (apF p F v i)))])) (fun i => i ≤ n) (fun i => n - i) (0) ρ0 ?_ ?_ ?_
  · exact ⟨⟨(by first | exact m_vl | exact mt_fz (by exact ⟨(ne_fst rfl), (ne_fst rfl), trivial⟩) rfl (fun _ _ => mt_vec (fun _ _ => rfl))), m_calg, (m_cvec (fun _ _ => rfl)), ⟨rfl, rfl, rfl, rfl, rfl⟩, ⟨rfl, rfl, rfl, rfl, rfl⟩, (by first | exact m_int rfl | exact m_int (by omega) | exact m_int (by simp; done) | (exact m_int (by simp; omega))), trivial⟩, ⟨⟨rfl, (by first | exact trivial | exact ssh_vec | exact ssh_alg | exact ssh_tab | exact ssh_mat | exact ⟨rfl, fun _ => trivial⟩ | exact ⟨rfl, fun _ => by rw [zr29]; exact ssh_vec⟩), (by first | exact mt_vec (fun _ _ => rfl) | exact mt_mat (fun _ _ _ _ => rfl) | exact mt_tab (fun _ _ _ _ _ _ => rfl) | exact mt_arr0 | exact mt_app (fun _ _ => rfl) rfl | exact ⟨rfl, fun _ _ => mt_row (fun _ _ => rfl)⟩ | exact Mt_closed (V := _) closed_alg (fun _ _ _ => trivial) (by simp))⟩, ⟨rfl, (by first | exact trivial | exact ssh_vec | exact ssh_alg | exact ssh_tab | exact ssh_mat | exact ⟨rfl, fun _ => trivial⟩ | exact ⟨rfl, fun _ => by rw [zr29]; exact ssh_vec⟩), (by first | exact mt_vec (fun _ _ => rfl) | exact mt_mat (fun _ _ _ _ => rfl) | exact mt_tab (fun _ _ _ _ _ _ => rfl) | exact mt_arr0 | exact mt_app (fun _ _ => rfl) rfl | exact ⟨rfl, fun _ _ => mt_row (fun _ _ => rfl)⟩ | exact Mt_closed (V := _) closed_alg (fun _ _ _ => trivial) (by simp))⟩, trivial⟩, ⟨⟨(fun h => by first | exact ⟨rfl, rfl⟩ | exact absurd h (by decide)), (fun h => by first | exact ⟨rfl, rfl⟩ | exact absurd h (by decide)), trivial⟩, ⟨(fun h => by first | exact ⟨rfl, rfl⟩ | exact absurd h (by decide)), (fun h => by first | exact ⟨rfl, rfl⟩ | exact absurd h (by decide)), trivial⟩, trivial⟩⟩
  · exact Nat.zero_le _
  intro i hi0
  refine sq (env2 := [(1, vlA n F), (3, .cptr (algA p (n : Int) T fo)), (5, .cptr (vecA v)), (6, .ptr 6 0 [] 0 (vecA (fun _ => 0))), (7, .ptr 7 0 [] 0 (vecA (fun _ => 0))), (8, .int .i64 (i : Int))]) (ol2 := [(6, .one (vecA (fun _ => 0)) (vecA (fun _ => 0))), (7, .one (vecA (fun _ => 0)) (vecA (apF p F v i)))]) rfl rfl ?_
  refine snd_seq ?_
  apply sr tokTB (by kernel_rfl)
  · intro RR hRR
    refine w_move (by constructor) ?_
    refine w_fac rfl und31 rfl kn2 nz2 (by decide) rfl (by constructor) ?_
    refine w_ldc rfl kn2 (by constructor) (by exact sz2.symm) (by exact ag2.symm) ?_
    refine w_lss rfl rfl ?_
    exact hRR
  refine snd_cond _ rfl (fun hc13 => ?_) (fun hc13 => ?_)
  · try simp only [hcs] at hc13
    have lt_i : i < n := by omega
    refine snd_skip ?_
    refine snd_seq ?_
    refine snd_block ?_
    apply ld tokTB mixed (by kernel_rfl) (by kernel_rfl)
    · intro RR hRR
      refine w_fac rfl und31 rfl kn2 nz2 (by decide) rfl (by constructor) ?_
      refine w_ldc rfl kn2 (by constructor) (by exact sz2.symm) (by exact ag2.symm) ?_
      refine w_ldp rfl kn29 rfl (by constructor) (by exact sz29.symm) (by exact ag29.symm) ?_
      refine w_move (by constructor) ?_
      refine w_move (by constructor) ?_
      refine w_iar rfl rfl und52 kn29 (by exact sz29.symm) ?_ rfl ?_
      · exact ⟨by omega, by omega⟩
      first | refine w_ldc rfl kn29 (by constructor) (by exact sz29.symm) (by exact ag29.symm) ?_ | refine w_ldp rfl kn29 rfl (by constructor) (by exact sz29.symm) (by exact ag29.symm) ?_
      refine w_move (by constructor) ?_
      refine w_iac rfl rfl und29 kn5 (by exact sz5.symm) ?_ rfl ?_
      · exact ⟨by omega, by omega⟩
      first | refine w_ldc rfl kn5 (by constructor) (by exact sz5.symm) (by exact ag5.symm) ?_ | refine w_ldp rfl kn5 rfl (by constructor) (by exact sz5.symm) (by exact ag5.symm) ?_
      refine w_conv rfl und5 und2 (by exact w64b hv _) ?_
      refine y_call rfl (ec (ec (ec (ec exn)))) (c_l01Add (u := apF p F v i) (v := F i) (k := v i) hp8 (B8_of (by omega) (apF_Bp (by omega) F v i)) (hF i) (by have := hv i; omega)) ?_
      refine w_stw rfl (by constructor) kn29 rfl (by exact trivial) (by first | exact trivial | exact ssh_vec | exact ssh_alg | exact ssh_tab | exact ssh_mat | exact ⟨rfl, fun _ => trivial⟩ | exact ⟨rfl, fun _ => by rw [zr29]; exact ssh_vec⟩) (by exact sz29.symm) ?_
      exact hRR
    apply lr tokTB (by kernel_rfl)
    · intro RR hRR
      refine w_move (by constructor) ?_
      refine y_add rfl rfl ?_
      refine w_assign (by constructor) ?_
      exact hRR
    refine ⟨i + 1, ρ0, ?_, (by omega), (by dsimp only; omega)⟩
    exact ⟨⟨(by first | exact m_vl | exact mt_fz (by exact ⟨(ne_fst rfl), (ne_fst rfl), trivial⟩) rfl (fun _ _ => mt_vec (fun _ _ => rfl))), m_calg, (m_cvec (fun _ _ => rfl)), ⟨rfl, rfl, rfl, rfl, rfl⟩, ⟨rfl, rfl, rfl, rfl, rfl⟩, (by first | exact m_int rfl | exact m_int (by omega) | exact m_int (by simp; done) | (exact m_int (by simp; omega))), trivial⟩, ⟨⟨rfl, (by first | exact trivial | exact ssh_vec | exact ssh_alg | exact ssh_tab | exact ssh_mat | exact ⟨rfl, fun _ => trivial⟩ | exact ⟨rfl, fun _ => by rw [zr29]; exact ssh_vec⟩), (by first | exact mt_vec (fun _ _ => rfl) | exact mt_mat (fun _ _ _ _ => rfl) | exact mt_tab (fun _ _ _ _ _ _ => rfl) | exact mt_arr0 | exact mt_app (fun _ _ => rfl) rfl | exact ⟨rfl, fun _ _ => mt_row (fun _ _ => rfl)⟩ | exact Mt_closed (V := _) closed_alg (fun _ _ _ => trivial) (by simp))⟩, ⟨rfl, (by first | exact trivial | exact ssh_vec | exact ssh_alg | exact ssh_tab | exact ssh_mat | exact ⟨rfl, fun _ => trivial⟩ | exact ⟨rfl, fun _ => by rw [zr29]; exact ssh_vec⟩), (by first | exact mt_vec (fun _ _ => rfl) | exact mt_mat (fun _ _ _ _ => rfl) | exact mt_tab (fun _ _ _ _ _ _ => rfl) | exact mt_arr0 | exact mt_app (fun _ _ => rfl) rfl | exact ⟨rfl, fun _ _ => mt_row (fun _ _ => rfl)⟩ | exact Mt_closed (V := _) closed_alg (fun _ _ _ => trivial) (by simp))⟩, trivial⟩, ⟨⟨(fun h => by first | exact ⟨rfl, rfl⟩ | exact absurd h (by decide)), (fun h => by first | exact ⟨rfl, rfl⟩ | exact absurd h (by decide)), trivial⟩, ⟨(fun h => by first | exact ⟨rfl, rfl⟩ | exact absurd h (by decide)), (fun h => by first | exact ⟨rfl, rfl⟩ | exact absurd h (by decide)), trivial⟩, trivial⟩⟩
  · try simp only [hcs] at hc13
    have ge_i : n = i := by omega
    subst ge_i
    refine snd_exit ?_
    apply sr tokTB (by kernel_rfl)
    · intro RR hRR
      refine w_ldp rfl kn29 rfl (by constructor) (by exact sz29.symm) (by exact ag29.symm) ?_
      refine w_stw rfl (by constructor) kn29 rfl (by exact trivial) (by first | exact trivial | exact ssh_vec | exact ssh_alg | exact ssh_tab | exact ssh_mat | exact ⟨rfl, fun _ => trivial⟩ | exact ⟨rfl, fun _ => by rw [zr29]; exact ssh_vec⟩) (by exact sz29.symm) ?_
      exact hRR
    refine snd_ret ?_
    exact rt_c (T := TB) rfl kn29 rfl sz29.symm ag29.symm (fun V => m_vec (fun j hj => rfl))
theorem c_starred {p : Int} {n : Nat} {T : Nat → Nat → Nat → Int} {fo : Nat → Int} (hv0 : VN p n T fo) {F : Nat → Nat → Int} {v : Nat → Int} (hF : ∀ i, B8 (F i)) (hv : B8 v) : ACalls Try.prog TB 94 [.cptr (algA p (n : Int) T fo), vlA n F, vecA v] (vecA (apF p F v n)) [] := by
  have hp8 := hv0.p0
  have hn6 := hv0.n6
  refine acalls_of tokTB Try.func94 rfl rfl (Nat.le_of_ble_eq_true rfl) ?_
  apply sr tokTB (by kernel_rfl)
  · intro RR hRR
    refine w_boxc (HV.eq (by constructor)) (by exact trivial) ?_
    refine w_alloc kn29 rfl zr29 ?_
    exact hRR
  apply sr tokTB (by kernel_rfl)
  · intro RR hRR
    refine w_bld_a kn29 zr29 und29 kn5 (fun _ => (by exact sz5.symm)) trivial rfl (by exact sz5.symm) ?_
    refine w_alloc kn29 rfl zr29 ?_
    refine w_stw rfl (by constructor) kn29 rfl (by exact trivial) (by first | exact trivial | exact ssh_vec | exact ssh_alg | exact ssh_tab | exact ssh_mat | exact ⟨rfl, fun _ => trivial⟩ | exact ⟨rfl, fun _ => by rw [zr29]; exact ssh_vec⟩) (by exact sz29.symm) ?_
    exact hRR
  refine snd_seq ?_
  apply sr tokTB (by kernel_rfl)
  · intro RR hRR
    refine w_move (by constructor) ?_
    refine w_len_r rfl rfl und52 ?_
    refine w_move (by constructor) ?_
    exact hRR
  refine snd_block ?_
  refine snd_loop (S := Nat) (fun i => ([(0, .cptr (algA p (n : Int) T fo)), (5, .cptr (vecA v)), (6, .ptr 6 0 [] 0 (vecA (fun _ => 0))), (7, .ptr 7 0 [] 0 (vecA (fun _ => 0))), (11, vlA n F), (12, .int .i64 (n : Int)), (13, .int .i64 (i : Int))], [(6, .one (vecA (fun _ => 0)) (vecA (fun _ => 0))), (7, .one (vecA (fun _ => 0)) (vecA (apF p F v i)))])) (fun i => i ≤ n) (fun i => n - i) (0) ρ0 ?_ ?_ ?_
  · exact ⟨⟨m_calg, (m_cvec (fun _ _ => rfl)), ⟨rfl, rfl, rfl, rfl, rfl⟩, ⟨rfl, rfl, rfl, rfl, rfl⟩, (by first | exact m_vl | exact mt_fz (by exact ⟨(ne_fst rfl), (ne_fst rfl), trivial⟩) rfl (fun _ _ => mt_vec (fun _ _ => rfl))), (by first | exact m_int rfl | exact m_int (by omega) | exact m_int (by simp; done) | (exact m_int (by simp; omega))), (by first | exact m_int rfl | exact m_int (by omega) | exact m_int (by simp; done) | (exact m_int (by simp; omega))), trivial⟩, ⟨⟨rfl, (by first | exact trivial | exact ssh_vec | exact ssh_alg | exact ssh_tab | exact ssh_mat | exact ⟨rfl, fun _ => trivial⟩ | exact ⟨rfl, fun _ => by rw [zr29]; exact ssh_vec⟩), (by first | exact mt_vec (fun _ _ => rfl) | exact mt_mat (fun _ _ _ _ => rfl) | exact mt_tab (fun _ _ _ _ _ _ => rfl) | exact mt_arr0 | exact mt_app (fun _ _ => rfl) rfl | exact ⟨rfl, fun _ _ => mt_row (fun _ _ => rfl)⟩ | exact Mt_closed (V := _) closed_alg (fun _ _ _ => trivial) (by simp))⟩, ⟨rfl, (by first | exact trivial | exact ssh_vec | exact ssh_alg | exact ssh_tab | exact ssh_mat | exact ⟨rfl, fun _ => trivial⟩ | exact ⟨rfl, fun _ => by rw [zr29]; exact ssh_vec⟩), (by first | exact mt_vec (fun _ _ => rfl) | exact mt_mat (fun _ _ _ _ => rfl) | exact mt_tab (fun _ _ _ _ _ _ => rfl) | exact mt_arr0 | exact mt_app (fun _ _ => rfl) rfl | exact ⟨rfl, fun _ _ => mt_row (fun _ _ => rfl)⟩ | exact Mt_closed (V := _) closed_alg (fun _ _ _ => trivial) (by simp))⟩, trivial⟩, ⟨⟨(fun h => by first | exact ⟨rfl, rfl⟩ | exact absurd h (by decide)), (fun h => by first | exact ⟨rfl, rfl⟩ | exact absurd h (by decide)), trivial⟩, ⟨(fun h => by first | exact ⟨rfl, rfl⟩ | exact absurd h (by decide)), (fun h => by first | exact ⟨rfl, rfl⟩ | exact absurd h (by decide)), trivial⟩, trivial⟩⟩
  · exact Nat.zero_le _
  intro i hi0
  refine sq (env2 := [(0, .cptr (algA p (n : Int) T fo)), (5, .cptr (vecA v)), (6, .ptr 6 0 [] 0 (vecA (fun _ => 0))), (7, .ptr 7 0 [] 0 (vecA (fun _ => 0))), (11, vlA n F), (12, .int .i64 (n : Int)), (13, .int .i64 (i : Int))]) (ol2 := [(6, .one (vecA (fun _ => 0)) (vecA (fun _ => 0))), (7, .one (vecA (fun _ => 0)) (vecA (apF p F v i)))]) rfl rfl ?_
  apply sr tokTB (by kernel_rfl)
  · intro RR hRR
    refine w_lss rfl rfl ?_
    exact hRR
  refine snd_seq ?_
  refine snd_cond _ rfl (fun hc14 => ?_) (fun hc14 => ?_)
  · try simp only [hcs] at hc14
    have lt_i : i < n := by omega
    refine snd_skip ?_
    refine snd_seq ?_
    refine snd_block ?_
    apply sr tokTB (by kernel_rfl)
    · intro RR hRR
      refine w_move (by constructor) ?_
      refine w_iar rfl rfl und52 kn29 (by exact sz29.symm) ?_ rfl ?_
      · exact ⟨by omega, by omega⟩
      first | refine w_ldc rfl kn29 (by constructor) (by exact sz29.symm) (by exact ag29.symm) ?_ | refine w_ldp rfl kn29 rfl (by constructor) (by exact sz29.symm) (by exact ag29.symm) ?_
      refine w_alloc kn29 rfl zr29 ?_
      refine w_assign (by constructor) ?_
      refine w_stw rfl (by constructor) kn29 rfl (by exact trivial) (by first | exact trivial | exact ssh_vec | exact ssh_alg | exact ssh_tab | exact ssh_mat | exact ⟨rfl, fun _ => trivial⟩ | exact ⟨rfl, fun _ => by rw [zr29]; exact ssh_vec⟩) (by exact sz29.symm) ?_
      exact hRR
    apply ld tokTB mixed (by kernel_rfl) (by kernel_rfl)
    · intro RR hRR
      refine w_move (by constructor) ?_
      refine w_ldp rfl kn29 rfl (by constructor) (by exact sz29.symm) (by exact ag29.symm) ?_
      refine w_ldp rfl kn29 rfl (by constructor) (by exact sz29.symm) (by exact ag29.symm) ?_
      refine w_move (by constructor) ?_
      refine w_iac rfl rfl und29 kn5 (by exact sz5.symm) ?_ rfl ?_
      · exact ⟨by omega, by omega⟩
      first | refine w_ldc rfl kn5 (by constructor) (by exact sz5.symm) (by exact ag5.symm) ?_ | refine w_ldp rfl kn5 rfl (by constructor) (by exact sz5.symm) (by exact ag5.symm) ?_
      refine w_conv rfl und5 und2 (by exact w64b hv _) ?_
      refine y_call rfl (ec (ec (ec (ec exn)))) (c_add (u := apF p F v i) (v := F i) (k := v i) hp8 (B8_of (by omega) (apF_Bp (by omega) F v i)) (hF i) (by have := hv i; omega)) ?_
      refine w_stw rfl (by constructor) kn29 rfl (by exact trivial) (by first | exact trivial | exact ssh_vec | exact ssh_alg | exact ssh_tab | exact ssh_mat | exact ⟨rfl, fun _ => trivial⟩ | exact ⟨rfl, fun _ => by rw [zr29]; exact ssh_vec⟩) (by exact sz29.symm) ?_
      exact hRR
    apply lr tokTB (by kernel_rfl)
    · intro RR hRR
      refine y_add rfl rfl ?_
      refine w_move (by constructor) ?_
      exact hRR
    refine ⟨i + 1, ρ0, ?_, (by omega), (by dsimp only; omega)⟩
    exact ⟨⟨m_calg, (m_cvec (fun _ _ => rfl)), ⟨rfl, rfl, rfl, rfl, rfl⟩, ⟨rfl, rfl, rfl, rfl, rfl⟩, (by first | exact m_vl | exact mt_fz (by exact ⟨(ne_fst rfl), (ne_fst rfl), trivial⟩) rfl (fun _ _ => mt_vec (fun _ _ => rfl))), (by first | exact m_int rfl | exact m_int (by omega) | exact m_int (by simp; done) | (exact m_int (by simp; omega))), (by first | exact m_int rfl | exact m_int (by omega) | exact m_int (by simp; done) | (exact m_int (by simp; omega))), trivial⟩, ⟨⟨rfl, (by first | exact trivial | exact ssh_vec | exact ssh_alg | exact ssh_tab | exact ssh_mat | exact ⟨rfl, fun _ => trivial⟩ | exact ⟨rfl, fun _ => by rw [zr29]; exact ssh_vec⟩), (by first | exact mt_vec (fun _ _ => rfl) | exact mt_mat (fun _ _ _ _ => rfl) | exact mt_tab (fun _ _ _ _ _ _ => rfl) | exact mt_arr0 | exact mt_app (fun _ _ => rfl) rfl | exact ⟨rfl, fun _ _ => mt_row (fun _ _ => rfl)⟩ | exact Mt_closed (V := _) closed_alg (fun _ _ _ => trivial) (by simp))⟩, ⟨rfl, (by first | exact trivial | exact ssh_vec | exact ssh_alg | exact ssh_tab | exact ssh_mat | exact ⟨rfl, fun _ => trivial⟩ | exact ⟨rfl, fun _ => by rw [zr29]; exact ssh_vec⟩), (by first | exact mt_vec (fun _ _ => rfl) | exact mt_mat (fun _ _ _ _ => rfl) | exact mt_tab (fun _ _ _ _ _ _ => rfl) | exact mt_arr0 | exact mt_app (fun _ _ => rfl) rfl | exact ⟨rfl, fun _ _ => mt_row (fun _ _ => rfl)⟩ | exact Mt_closed (V := _) closed_alg (fun _ _ _ => trivial) (by simp))⟩, trivial⟩, ⟨⟨(fun h => by first | exact ⟨rfl, rfl⟩ | exact absurd h (by decide)), (fun h => by first | exact ⟨rfl, rfl⟩ | exact absurd h (by decide)), trivial⟩, ⟨(fun h => by first | exact ⟨rfl, rfl⟩ | exact absurd h (by decide)), (fun h => by first | exact ⟨rfl, rfl⟩ | exact absurd h (by decide)), trivial⟩, trivial⟩⟩
  · try simp only [hcs] at hc14
    have ge_i : n = i := by omega
    subst ge_i
    refine snd_exit ?_
    apply sr tokTB (by kernel_rfl)
    · intro RR hRR
      refine w_ldp rfl kn29 rfl (by constructor) (by exact sz29.symm) (by exact ag29.symm) ?_
      refine w_stw rfl (by constructor) kn29 rfl (by exact trivial) (by first | exact trivial | exact ssh_vec | exact ssh_alg | exact ssh_tab | exact ssh_mat | exact ⟨rfl, fun _ => trivial⟩ | exact ⟨rfl, fun _ => by rw [zr29]; exact ssh_vec⟩) (by exact sz29.symm) ?_
      exact hRR
    refine snd_ret ?_
    exact rt_c (T := TB) rfl kn29 rfl sz29.symm ag29.symm (fun V => m_vec (fun j hj => rfl))
theorem c_l08Star {p : Int} {n : Nat} {T : Nat → Nat → Nat → Int} {fo : Nat → Int} (hv0 : VN p n T fo) {F : Nat → Nat → Int} (hF : ∀ i, B8 (F i)) : ACalls Try.prog TB 90 [algA p (n : Int) T fo, vlA n F] (.bool (decide (starP p n T fo F))) [] := by
  have hp8 := hv0.p0
  have hn6 := hv0.n6
  refine acalls_of tokTB Try.func90 rfl rfl (Nat.le_of_ble_eq_true rfl) ?_
  apply sr tokTB (by kernel_rfl)
  · intro RR hRR
    refine w_boxc (HV.eq (by constructor)) (by exact trivial) ?_
    refine w_assign (by constructor) ?_
    exact hRR
  refine snd_seq ?_
  apply sr tokTB (by kernel_rfl)
  · intro RR hRR
    refine w_assign (by constructor) ?_
    exact hRR
  refine snd_block ?_
  refine snd_loop (S := Nat) (fun i => ([(1, vlA n F), (2, .cptr (algA p (n : Int) T fo)), (5, .int .i64 (i : Int))], [])) (fun i => i ≤ n ∧ (∀ a, a < i → (eqN 6 (apF p F (F a) n) (eF a) ∧ formF p fo (F a) = fo a) ∧ ∀ j, j < n → eqN 6 (apF p F (T a j) n) (timesF p n T (F j) (F a)))) (fun i => n - i) (0) ρ0 ?_ ?_ ?_
  · exact ⟨⟨(by first | exact m_vl | exact mt_fz (by exact trivial) rfl (fun _ _ => mt_vec (fun _ _ => rfl))), m_calg, (by first | exact m_int rfl | exact m_int (by omega) | exact m_int (by simp; done) | (exact m_int (by simp; omega))), trivial⟩, trivial, trivial⟩
  · exact ⟨Nat.zero_le _, fun j hj => absurd hj (Nat.not_lt_zero _)⟩
  intro i hi0
  refine sq (env2 := [(1, vlA n F), (2, .cptr (algA p (n : Int) T fo)), (5, .int .i64 (i : Int))]) (ol2 := []) rfl rfl ?_
  obtain ⟨le_i, inv_i⟩ := hi0
  refine snd_seq ?_
  apply sr tokTB (by kernel_rfl)
  · intro RR hRR
    refine w_move (by constructor) ?_
    refine w_fac rfl und31 rfl kn2 nz2 (by decide) rfl (by constructor) ?_
    refine w_ldc rfl kn2 (by constructor) (by exact sz2.symm) (by exact ag2.symm) ?_
    refine w_lss rfl rfl ?_
    exact hRR
  refine snd_cond _ rfl (fun hc10 => ?_) (fun hc10 => ?_)
  · try simp only [hcs] at hc10
    have lt_i : i < n := by omega
    refine snd_skip ?_
    refine snd_seq ?_
    refine snd_block ?_
    refine snd_seq ?_
    apply sdG (env' := (35, .bool (decide (¬ eqN 6 (apF p F (F i) n) (eF i)) || decide (formF p fo (F i) ≠ fo i))) :: (34, .any) :: (33, .any) :: (32, .any) :: (31, .any) :: (30, .any) :: (29, .any) :: (28, .any) :: (27, .any) :: (26, .any) :: (25, .any) :: (24, .any) :: (23, _) :: (22, _) :: (21, _) :: (20, _) :: (19, _) :: (18, _) :: (17, _) :: (16, _) :: (15, _) :: (14, _) :: (13, _) :: _) tokTB mixed (by kernel_rfl) (by kernel_rfl)
    · intro RR hRR
      refine w_ldc rfl kn31 (by constructor) (by exact sz31.symm) (by exact ag31.symm) ?_
      refine w_move (by constructor) ?_
      refine w_move (by constructor) ?_
      refine w_move (by constructor) ?_
      first | refine w_iar rfl rfl und52 kn29 (by exact sz29.symm) ?_ rfl ?_ | refine w_iao rfl rfl und52 kn29 ?_ ?_
      · exact ⟨by omega, by omega⟩
      first | refine w_ldc rfl kn29 (by constructor) (by exact sz29.symm) (by exact ag29.symm) ?_ | refine w_ldp rfl kn29 rfl (by constructor) (by exact sz29.symm) (by exact ag29.symm) ?_
      refine y_call rfl (ec (ec (ec exn))) (c_l08Apply (v := F i) hv0 hF (hF i)) ?_
      refine w_move (by constructor) ?_
      refine y_call rfl (ec exn) (c_l01Basis (i := i) (by omega)) ?_
      refine w_aneq rfl rfl und29 und5 ?_
      refine w_move (by constructor) ?_
      refine w_g rfl rfl (fun hg10 => ?_) (fun hg10 => ?_)
      · skip
        refine w_ldc rfl kn31 (by constructor) (by exact sz31.symm) (by exact ag31.symm) ?_
        refine w_g_on rfl rfl hg10 ?_
        refine w_move (by constructor) ?_
        refine w_g_on rfl rfl hg10 ?_
        refine w_move (by constructor) ?_
        refine w_g_on rfl rfl hg10 ?_
        first | refine w_iar rfl rfl und52 kn29 (by exact sz29.symm) ?_ rfl ?_ | refine w_iao rfl rfl und52 kn29 ?_ ?_
        · exact ⟨by omega, by omega⟩
        refine w_g_on rfl rfl hg10 ?_
        first | refine w_ldc rfl kn29 (by constructor) (by exact sz29.symm) (by exact ag29.symm) ?_ | refine w_ldp rfl kn29 rfl (by constructor) (by exact sz29.symm) (by exact ag29.symm) ?_
        refine w_g_on rfl rfl hg10 ?_
        refine y_call rfl (ec (ec exn)) (c_l01Form (v := F i) (by omega) hv0.f8 (hF i)) ?_
        refine w_g_on rfl rfl hg10 ?_
        refine w_ldc rfl kn31 (by constructor) (by exact sz31.symm) (by exact ag31.symm) ?_
        refine w_g_on rfl rfl hg10 ?_
        refine w_move (by constructor) ?_
        refine w_g_on rfl rfl hg10 ?_
        refine y_call rfl (ec exn) (c_l01Basis (i := i) (by omega)) ?_
        refine w_g_on rfl rfl hg10 ?_
        refine y_call rfl (ec (ec exn)) ((hv0.form_e (by omega)) ▸ c_l01Form (v := eF i) (by omega) hv0.f8 (eF_B8 i)) ?_
        refine w_g_on rfl rfl hg10 ?_
        refine w_neq rfl rfl ?_
        refine w_pick_0 rfl hg10 (by constructor) ?_
        try simp only [Int.toNat_natCast] at hg10
        exact hRR _ (EL.cons (.inr (by first | rfl | (simp only [hg10, els]; done) | (simp only [hg10, els]; rfl) | simp [hg10])) (EL.cons (.inl rfl) (EL.cons (.inl rfl) (EL.cons (.inl rfl) (EL.cons (.inl rfl) (EL.cons (.inl rfl) (EL.cons (.inl rfl) (EL.cons (.inl rfl) (EL.cons (.inl rfl) (EL.cons (.inl rfl) (EL.cons (.inl rfl) (EL.cons (.inl rfl) (EL.cons (.inr rfl) (EL.cons (.inr rfl) (EL.cons (.inr rfl) (EL.cons (.inr rfl) (EL.cons (.inr rfl) (EL.cons (.inr rfl) (EL.cons (.inr rfl) (EL.cons (.inr rfl) (EL.cons (.inr rfl) (EL.cons (.inr rfl) (EL.cons (.inr rfl) (EL.refl _))))))))))))))))))))))))
      · have hg10 := eq_true_of_ne_false hg10
        refine w_g_off rfl rfl (by rw [hg10]; decide) ?_
        refine w_g_off rfl rfl (by rw [hg10]; decide) ?_
        refine w_g_off rfl rfl (by rw [hg10]; decide) ?_
        refine w_g_off rfl rfl (by rw [hg10]; decide) ?_
        refine w_g_off rfl rfl (by rw [hg10]; decide) ?_
        refine w_g_off rfl rfl (by rw [hg10]; decide) ?_
        refine w_g_off rfl rfl (by rw [hg10]; decide) ?_
        refine w_g_off rfl rfl (by rw [hg10]; decide) ?_
        refine w_g_off rfl rfl (by rw [hg10]; decide) ?_
        refine w_g_off rfl rfl (by rw [hg10]; decide) ?_
        refine w_pick_1 rfl hg10 (by constructor) ?_
        try simp only [Int.toNat_natCast] at hg10
        exact hRR _ (EL.cons (.inr (by first | rfl | (simp only [hg10, els]; done) | (simp only [hg10, els]; rfl) | simp [hg10])) (EL.cons (.inl rfl) (EL.cons (.inl rfl) (EL.cons (.inl rfl) (EL.cons (.inl rfl) (EL.cons (.inl rfl) (EL.cons (.inl rfl) (EL.cons (.inl rfl) (EL.cons (.inl rfl) (EL.cons (.inl rfl) (EL.cons (.inl rfl) (EL.cons (.inl rfl) (EL.cons (.inr rfl) (EL.cons (.inr rfl) (EL.cons (.inr rfl) (EL.cons (.inr rfl) (EL.cons (.inr rfl) (EL.cons (.inr rfl) (EL.cons (.inr rfl) (EL.cons (.inr rfl) (EL.cons (.inr rfl) (EL.cons (.inr rfl) (EL.cons (.inr rfl) (EL.refl _))))))))))))))))))))))))
    refine snd_cond _ rfl (fun hc35 => ?_) (fun hc35 => ?_)
    · skip
      apply sr tokTB (by kernel_rfl)
      · intro RR hRR
        refine w_assign (by constructor) ?_
        exact hRR
      refine snd_ret ?_
      exact rt (T := TB) (fun V => m_bool (by symm; rw [decide_eq_false_iff_not]; intro h; have q := (h i (by omega)).1; rw [decide_eq_false (fun x => x q.1), decide_eq_false (fun x => x q.2)] at hc35; cases hc35))
    · skip
      simp only [Bool.or_eq_false_iff, decide_eq_false_iff_not, Classical.not_not] at hc35
      refine snd_skip ?_
      apply sr tokTB (by kernel_rfl)
      · intro RR hRR
        refine w_assign (by constructor) ?_
        exact hRR
      refine snd_block ?_
      refine snd_loop (S := Nat) (fun j => ([(1, vlA n F), (2, .cptr (algA p (n : Int) T fo)), (5, .int .i64 (i : Int)), (6, .int .i64 (j : Int))], [])) (fun j => j ≤ n ∧ (∀ b, b < j → eqN 6 (apF p F (T i b) n) (timesF p n T (F b) (F i)))) (fun j => n - j) (0) ρ0 ?_ ?_ ?_
      · exact ⟨⟨(by first | exact m_vl | exact mt_fz (by exact trivial) rfl (fun _ _ => mt_vec (fun _ _ => rfl))), m_calg, (by first | exact m_int rfl | exact m_int (by omega) | exact m_int (by simp; done) | (exact m_int (by simp; omega))), (by first | exact m_int rfl | exact m_int (by omega) | exact m_int (by simp; done) | (exact m_int (by simp; omega))), trivial⟩, trivial, trivial⟩
      · exact ⟨Nat.zero_le _, fun j hj => absurd hj (Nat.not_lt_zero _)⟩
      intro j hi2
      refine sq (env2 := [(1, vlA n F), (2, .cptr (algA p (n : Int) T fo)), (5, .int .i64 (i : Int)), (6, .int .i64 (j : Int))]) (ol2 := []) rfl rfl ?_
      obtain ⟨le_j, inv_j⟩ := hi2
      refine snd_seq ?_
      apply sr tokTB (by kernel_rfl)
      · intro RR hRR
        refine w_move (by constructor) ?_
        refine w_fac rfl und31 rfl kn2 nz2 (by decide) rfl (by constructor) ?_
        refine w_ldc rfl kn2 (by constructor) (by exact sz2.symm) (by exact ag2.symm) ?_
        refine w_lss rfl rfl ?_
        exact hRR
      refine snd_cond _ rfl (fun hc39 => ?_) (fun hc39 => ?_)
      · try simp only [hcs] at hc39
        have lt_j : j < n := by omega
        refine snd_skip ?_
        refine snd_seq ?_
        refine snd_block ?_
        apply sd tokTB mixed (by kernel_rfl) (by kernel_rfl)
        · intro RR hRR
          refine w_ldc rfl kn31 (by constructor) (by exact sz31.symm) (by exact ag31.symm) ?_
          refine w_move (by constructor) ?_
          refine w_ldc rfl kn31 (by constructor) (by exact sz31.symm) (by exact ag31.symm) ?_
          refine w_move (by constructor) ?_
          refine y_call rfl (ec exn) (c_l01Basis (i := i) (by omega)) ?_
          refine w_move (by constructor) ?_
          refine y_call rfl (ec exn) (c_l01Basis (i := j) (by omega)) ?_
          refine y_call rfl (ec (ec (ec exn))) ((hv0.ee (i := i) (j := j) (by omega) (by omega)) ▸ (c_l01Times (u := eF i) (v := eF j) (by omega) (by omega) hv0.n6 hv0.T8 (eF_B8 i) (eF_B8 j))) ?_
          refine y_call rfl (ec (ec (ec exn))) (c_l08Apply (v := T i j) hv0 hF (hv0.T8 i j)) ?_
          refine w_ldc rfl kn31 (by constructor) (by exact sz31.symm) (by exact ag31.symm) ?_
          refine w_move (by constructor) ?_
          refine w_move (by constructor) ?_
          refine w_iar rfl rfl und52 kn29 (by exact sz29.symm) ?_ rfl ?_
          · exact ⟨by omega, by omega⟩
          first | refine w_ldc rfl kn29 (by constructor) (by exact sz29.symm) (by exact ag29.symm) ?_ | refine w_ldp rfl kn29 rfl (by constructor) (by exact sz29.symm) (by exact ag29.symm) ?_
          refine w_move (by constructor) ?_
          refine w_move (by constructor) ?_
          refine w_iar rfl rfl und52 kn29 (by exact sz29.symm) ?_ rfl ?_
          · exact ⟨by omega, by omega⟩
          first | refine w_ldc rfl kn29 (by constructor) (by exact sz29.symm) (by exact ag29.symm) ?_ | refine w_ldp rfl kn29 rfl (by constructor) (by exact sz29.symm) (by exact ag29.symm) ?_
          refine y_call rfl (ec (ec (ec exn))) (c_l01Times (u := F j) (v := F i) (by omega) (by omega) hn6 hv0.T8 (hF j) (hF i)) ?_
          refine w_aneq rfl rfl und29 und5 ?_
          exact hRR
        refine snd_cond _ rfl (fun hc61 => ?_) (fun hc61 => ?_)
        · skip
          apply sr tokTB (by kernel_rfl)
          · intro RR hRR
            refine w_assign (by constructor) ?_
            exact hRR
          refine snd_ret ?_
          exact rt (T := TB) (fun V => m_bool (by symm; rw [decide_eq_false_iff_not]; intro h; exact of_decide_eq_true (p := ¬ eqN 6 _ _) hc61 ((h i (by omega)).2 j (by omega))))
        · skip
          refine snd_skip ?_
          apply lr tokTB (by kernel_rfl)
          · intro RR hRR
            refine w_move (by constructor) ?_
            refine y_add rfl rfl ?_
            refine w_assign (by constructor) ?_
            exact hRR
          refine ⟨j + 1, ρ0, ?_, ⟨by omega, all_step inv_j (Classical.not_not.1 (of_decide_eq_false (p := ¬ eqN 6 _ _) hc61))⟩, (by dsimp only; omega)⟩
          exact ⟨⟨(by first | exact m_vl | exact mt_fz (by exact trivial) rfl (fun _ _ => mt_vec (fun _ _ => rfl))), m_calg, (by first | exact m_int rfl | exact m_int (by omega) | exact m_int (by simp; done) | (exact m_int (by simp; omega))), (by first | exact m_int rfl | exact m_int (by omega) | exact m_int (by simp; done) | (exact m_int (by simp; omega))), trivial⟩, trivial, trivial⟩
      · try simp only [hcs] at hc39
        have ge_j : n = j := by omega
        subst ge_j
        refine snd_exit ?_
        apply lr tokTB (by kernel_rfl)
        · intro RR hRR
          refine w_move (by constructor) ?_
          refine y_add rfl rfl ?_
          refine w_assign (by constructor) ?_
          exact hRR
        refine ⟨i + 1, ρ0, ?_, ⟨by omega, all_step inv_i ⟨hc35, inv_j⟩⟩, (by dsimp only; omega)⟩
        exact ⟨⟨(by first | exact m_vl | exact mt_fz (by exact trivial) rfl (fun _ _ => mt_vec (fun _ _ => rfl))), m_calg, (by first | exact m_int rfl | exact m_int (by omega) | exact m_int (by simp; done) | (exact m_int (by simp; omega))), trivial⟩, trivial, trivial⟩
  · try simp only [hcs] at hc10
    have ge_i : n = i := by omega
    subst ge_i
    refine snd_exit ?_
    apply sr tokTB (by kernel_rfl)
    · intro RR hRR
      refine w_assign (by constructor) ?_
      exact hRR
    refine snd_ret ?_
    exact rt (T := TB) (fun V => m_bool (by symm; rw [decide_eq_true_eq]; exact inv_i))
theorem c_isStar {p : Int} {n : Nat} {T : Nat → Nat → Nat → Int} {fo : Nat → Int} (hv0 : VN p n T fo) {F : Nat → Nat → Int} (hF : ∀ i, B8 (F i)) : ACalls Try.prog TB 92 [.cptr (algA p (n : Int) T fo), vlA n F] (.bool (decide (starP p n T fo F))) [] := by
  have hp8 := hv0.p0
  have hn6 := hv0.n6
  refine acalls_of tokTB Try.func92 rfl rfl (Nat.le_of_ble_eq_true rfl) ?_
  apply sr tokTB (by kernel_rfl)
  · intro RR hRR
    refine w_assign (by constructor) ?_
    exact hRR
  refine snd_seq ?_
  apply sr tokTB (by kernel_rfl)
  · intro RR hRR
    refine w_move (by constructor) ?_
    refine w_len_r rfl rfl und52 ?_
    refine w_move (by constructor) ?_
    exact hRR
  refine snd_block ?_
  refine snd_loop (S := Nat) (fun i => ([(0, .cptr (algA p (n : Int) T fo)), (1, vlA n F), (9, vlA n F), (10, .int .i64 (n : Int)), (11, .int .i64 (i : Int))], [])) (fun i => i ≤ n ∧ (∀ a, a < i → (eqN 6 (apF p F (F a) n) (eF a) ∧ formF p fo (F a) = fo a) ∧ ∀ j, j < n → eqN 6 (apF p F (T a j) n) (timesF p n T (F j) (F a)))) (fun i => n - i) (0) ρ0 ?_ ?_ ?_
  · exact ⟨⟨m_calg, (by first | exact m_vl | exact mt_fz (by exact trivial) rfl (fun _ _ => mt_vec (fun _ _ => rfl))), (by first | exact m_vl | exact mt_fz (by exact trivial) rfl (fun _ _ => mt_vec (fun _ _ => rfl))), (by first | exact m_int rfl | exact m_int (by omega) | exact m_int (by simp; done) | (exact m_int (by simp; omega))), (by first | exact m_int rfl | exact m_int (by omega) | exact m_int (by simp; done) | (exact m_int (by simp; omega))), trivial⟩, trivial, trivial⟩
  · exact ⟨Nat.zero_le _, fun j hj => absurd hj (Nat.not_lt_zero _)⟩
  intro i hi0
  refine sq (env2 := [(0, .cptr (algA p (n : Int) T fo)), (1, vlA n F), (9, vlA n F), (10, .int .i64 (n : Int)), (11, .int .i64 (i : Int))]) (ol2 := []) rfl rfl ?_
  obtain ⟨le_i, inv_i⟩ := hi0
  apply sr tokTB (by kernel_rfl)
  · intro RR hRR
    refine w_lss rfl rfl ?_
    exact hRR
  refine snd_seq ?_
  refine snd_cond _ rfl (fun hc12 => ?_) (fun hc12 => ?_)
  · try simp only [hcs] at hc12
    have lt_i : i < n := by omega
    refine snd_skip ?_
    refine snd_seq ?_
    refine snd_block ?_
    apply sr tokTB (by kernel_rfl)
    · intro RR hRR
      refine w_move (by constructor) ?_
      refine w_iar rfl rfl und52 kn29 (by exact sz29.symm) ?_ rfl ?_
      · exact ⟨by omega, by omega⟩
      first | refine w_ldc rfl kn29 (by constructor) (by exact sz29.symm) (by exact ag29.symm) ?_ | refine w_ldp rfl kn29 rfl (by constructor) (by exact sz29.symm) (by exact ag29.symm) ?_
      refine w_alloc kn29 rfl zr29 ?_
      refine w_assign (by constructor) ?_
      refine w_stw rfl (by constructor) kn29 rfl (by exact trivial) (by first | exact trivial | exact ssh_vec | exact ssh_alg | exact ssh_tab | exact ssh_mat | exact ⟨rfl, fun _ => trivial⟩ | exact ⟨rfl, fun _ => by rw [zr29]; exact ssh_vec⟩) (by exact sz29.symm) ?_
      exact hRR
    refine snd_seq ?_
    apply sdG (env' := (35, .bool (decide (¬ eqN 6 (apF p F (F i) n) (eF i)) || decide (formF p fo (F i) ≠ fo i))) :: (34, .any) :: (33, .any) :: (32, .any) :: (31, .any) :: (30, .any) :: (29, .any) :: (28, .any) :: (27, .any) :: (26, .any) :: (25, .any) :: (24, .any) :: (23, _) :: (22, _) :: (21, _) :: (20, _) :: (19, _) :: (18, _) :: (17, _) :: (16, _) :: _) tokTB mixed (by kernel_rfl) (by kernel_rfl)
    · intro RR hRR
      refine w_move (by constructor) ?_
      refine w_move (by constructor) ?_
      refine w_ldp rfl kn29 rfl (by constructor) (by exact sz29.symm) (by exact ag29.symm) ?_
      refine y_call rfl (ec (ec (ec exn))) (c_starred (v := F i) hv0 hF (hF i)) ?_
      refine w_move (by constructor) ?_
      refine y_call rfl (ec exn) (c_basis (i := i) (by omega)) ?_
      refine w_aneq rfl rfl und29 und5 ?_
      refine w_move (by constructor) ?_
      refine w_g rfl rfl (fun hg7 => ?_) (fun hg7 => ?_)
      · skip
        refine w_move (by constructor) ?_
        refine w_g_on rfl rfl hg7 ?_
        refine w_ldp rfl kn29 rfl (by constructor) (by exact sz29.symm) (by exact ag29.symm) ?_
        refine w_g_on rfl rfl hg7 ?_
        refine y_call rfl (ec (ec exn)) (c_form (v := F i) (by omega) hv0.f8 (hF i)) ?_
        refine w_g_on rfl rfl hg7 ?_
        refine w_move (by constructor) ?_
        refine w_g_on rfl rfl hg7 ?_
        refine w_move (by constructor) ?_
        refine w_g_on rfl rfl hg7 ?_
        first | refine w_nilc rfl ?_ | refine w_nilp rfl ?_ | refine w_nilf rfl ?_
        refine w_g_on rfl rfl hg7 ?_
        first | refine w_fac rfl und31 rfl kn29 nz29 (by decide) rfl (by constructor) ?_ | refine w_fap rfl und31 rfl kn29 nz29 rfl (by decide) rfl ?_
        refine w_g_on rfl rfl hg7 ?_
        first | refine w_iac rfl rfl und29 kn5 (by exact sz5.symm) ?_ rfl ?_ | refine w_iap rfl rfl und29 kn5 rfl (by exact sz5.symm) rfl ?_ ?_
        · exact ⟨by omega, by omega⟩
        refine w_g_on rfl rfl hg7 ?_
        first | refine w_ldc rfl kn5 (by constructor) (by exact sz5.symm) (by exact ag5.symm) ?_ | refine w_ldp rfl kn5 rfl (by constructor) (by exact sz5.symm) (by exact ag5.symm) ?_
        refine w_g_on rfl rfl hg7 ?_
        refine w_conv rfl und5 und2 (by exact w64b hv0.f8 _) ?_
        refine w_g_on rfl rfl hg7 ?_
        refine w_neq rfl rfl ?_
        refine w_pick_0 rfl hg7 (by constructor) ?_
        try simp only [Int.toNat_natCast] at hg7
        exact hRR _ (EL.cons (.inr (by first | rfl | (simp only [hg7, els]; done) | (simp only [hg7, els]; rfl) | simp [hg7])) (EL.cons (.inl rfl) (EL.cons (.inl rfl) (EL.cons (.inl rfl) (EL.cons (.inl rfl) (EL.cons (.inl rfl) (EL.cons (.inl rfl) (EL.cons (.inl rfl) (EL.cons (.inl rfl) (EL.cons (.inl rfl) (EL.cons (.inl rfl) (EL.cons (.inl rfl) (EL.cons (.inr rfl) (EL.cons (.inr rfl) (EL.cons (.inr rfl) (EL.cons (.inr rfl) (EL.cons (.inr rfl) (EL.cons (.inr rfl) (EL.cons (.inr rfl) (EL.cons (.inr rfl) (EL.refl _)))))))))))))))))))))
      · have hg7 := eq_true_of_ne_false hg7
        refine w_g_off rfl rfl (by rw [hg7]; decide) ?_
        refine w_g_off rfl rfl (by rw [hg7]; decide) ?_
        refine w_g_off rfl rfl (by rw [hg7]; decide) ?_
        refine w_g_off rfl rfl (by rw [hg7]; decide) ?_
        refine w_g_off rfl rfl (by rw [hg7]; decide) ?_
        refine w_g_off rfl rfl (by rw [hg7]; decide) ?_
        refine w_g_off rfl rfl (by rw [hg7]; decide) ?_
        refine w_g_off rfl rfl (by rw [hg7]; decide) ?_
        refine w_g_off rfl rfl (by rw [hg7]; decide) ?_
        refine w_g_off rfl rfl (by rw [hg7]; decide) ?_
        refine w_pick_1 rfl hg7 (by constructor) ?_
        try simp only [Int.toNat_natCast] at hg7
        exact hRR _ (EL.cons (.inr (by first | rfl | (simp only [hg7, els]; done) | (simp only [hg7, els]; rfl) | simp [hg7])) (EL.cons (.inl rfl) (EL.cons (.inl rfl) (EL.cons (.inl rfl) (EL.cons (.inl rfl) (EL.cons (.inl rfl) (EL.cons (.inl rfl) (EL.cons (.inl rfl) (EL.cons (.inl rfl) (EL.cons (.inl rfl) (EL.cons (.inl rfl) (EL.cons (.inl rfl) (EL.cons (.inr rfl) (EL.cons (.inr rfl) (EL.cons (.inr rfl) (EL.cons (.inr rfl) (EL.cons (.inr rfl) (EL.cons (.inr rfl) (EL.cons (.inr rfl) (EL.cons (.inr rfl) (EL.refl _)))))))))))))))))))))
    refine snd_cond _ rfl (fun hc35 => ?_) (fun hc35 => ?_)
    · skip
      apply sr tokTB (by kernel_rfl)
      · intro RR hRR
        refine w_assign (by constructor) ?_
        exact hRR
      refine snd_ret ?_
      exact rt (T := TB) (fun V => m_bool (by symm; rw [decide_eq_false_iff_not]; intro h; have q := (h i (by omega)).1; rw [decide_eq_false (fun x => x q.1), decide_eq_false (fun x => x q.2)] at hc35; cases hc35))
    · skip
      simp only [Bool.or_eq_false_iff, decide_eq_false_iff_not, Classical.not_not] at hc35
      refine snd_skip ?_
      apply sr tokTB (by kernel_rfl)
      · intro RR hRR
        refine w_move (by constructor) ?_
        refine w_len_r rfl rfl und52 ?_
        refine w_move (by constructor) ?_
        exact hRR
      refine snd_block ?_
      refine snd_loop (S := Nat) (fun j => ([(0, .cptr (algA p (n : Int) T fo)), (1, vlA n F), (5, .int .i64 (i : Int)), (6, .ptr 6 0 [] 0 (vecA (fun _ => 0))), (9, vlA n F), (10, .int .i64 (n : Int)), (11, .int .i64 (i : Int)), (36, vlA n F), (37, .int .i64 (n : Int)), (38, .int .i64 (j : Int))], [(6, .one (vecA (fun _ => 0)) (vecA (F i)))])) (fun j => j ≤ n ∧ (∀ b, b < j → eqN 6 (apF p F (T i b) n) (timesF p n T (F b) (F i)))) (fun j => n - j) (0) ρ0 ?_ ?_ ?_
      · exact ⟨⟨m_calg, (by first | exact m_vl | exact mt_fz (by exact ⟨(ne_fst rfl), trivial⟩) rfl (fun _ _ => mt_vec (fun _ _ => rfl))), (by first | exact m_int rfl | exact m_int (by omega) | exact m_int (by simp; done) | (exact m_int (by simp; omega))), ⟨rfl, rfl, rfl, rfl, rfl⟩, (by first | exact m_vl | exact mt_fz (by exact ⟨(ne_fst rfl), trivial⟩) rfl (fun _ _ => mt_vec (fun _ _ => rfl))), (by first | exact m_int rfl | exact m_int (by omega) | exact m_int (by simp; done) | (exact m_int (by simp; omega))), (by first | exact m_int rfl | exact m_int (by omega) | exact m_int (by simp; done) | (exact m_int (by simp; omega))), (by first | exact m_vl | exact mt_fz (by exact ⟨(ne_fst rfl), trivial⟩) rfl (fun _ _ => mt_vec (fun _ _ => rfl))), (by first | exact m_int rfl | exact m_int (by omega) | exact m_int (by simp; done) | (exact m_int (by simp; omega))), (by first | exact m_int rfl | exact m_int (by omega) | exact m_int (by simp; done) | (exact m_int (by simp; omega))), trivial⟩, ⟨⟨rfl, (by first | exact trivial | exact ssh_vec | exact ssh_alg | exact ssh_tab | exact ssh_mat | exact ⟨rfl, fun _ => trivial⟩ | exact ⟨rfl, fun _ => by rw [zr29]; exact ssh_vec⟩), (by exact mt_vec (fun _ _ => rfl))⟩, trivial⟩, ⟨⟨(fun h => by first | exact ⟨rfl, rfl⟩ | exact absurd h (by decide)), trivial⟩, trivial⟩⟩
      · exact ⟨Nat.zero_le _, fun j hj => absurd hj (Nat.not_lt_zero _)⟩
      intro j hi2
      refine sq (env2 := [(0, .cptr (algA p (n : Int) T fo)), (1, vlA n F), (5, .int .i64 (i : Int)), (6, .ptr 6 0 [] 0 (vecA (fun _ => 0))), (9, vlA n F), (10, .int .i64 (n : Int)), (11, .int .i64 (i : Int)), (36, vlA n F), (37, .int .i64 (n : Int)), (38, .int .i64 (j : Int))]) (ol2 := [(6, .one (vecA (fun _ => 0)) (vecA (F i)))]) rfl rfl ?_
      obtain ⟨le_j, inv_j⟩ := hi2
      apply sr tokTB (by kernel_rfl)
      · intro RR hRR
        refine w_lss rfl rfl ?_
        exact hRR
      refine snd_seq ?_
      refine snd_cond _ rfl (fun hc39 => ?_) (fun hc39 => ?_)
      · try simp only [hcs] at hc39
        have lt_j : j < n := by omega
        refine snd_skip ?_
        refine snd_seq ?_
        refine snd_block ?_
        apply sr tokTB (by kernel_rfl)
        · intro RR hRR
          refine w_move (by constructor) ?_
          refine w_iar rfl rfl und52 kn29 (by exact sz29.symm) ?_ rfl ?_
          · exact ⟨by omega, by omega⟩
          first | refine w_ldc rfl kn29 (by constructor) (by exact sz29.symm) (by exact ag29.symm) ?_ | refine w_ldp rfl kn29 rfl (by constructor) (by exact sz29.symm) (by exact ag29.symm) ?_
          refine w_alloc kn29 rfl zr29 ?_
          refine w_assign (by constructor) ?_
          refine w_stw rfl (by constructor) kn29 rfl (by exact trivial) (by first | exact trivial | exact ssh_vec | exact ssh_alg | exact ssh_tab | exact ssh_mat | exact ⟨rfl, fun _ => trivial⟩ | exact ⟨rfl, fun _ => by rw [zr29]; exact ssh_vec⟩) (by exact sz29.symm) ?_
          exact hRR
        apply sd tokTB mixed (by kernel_rfl) (by kernel_rfl)
        · intro RR hRR
          refine w_move (by constructor) ?_
          refine w_move (by constructor) ?_
          refine w_move (by constructor) ?_
          refine w_move (by constructor) ?_
          refine w_move (by constructor) ?_
          refine w_nilc rfl ?_
          refine w_fac rfl und31 rfl kn24 nz24 (by decide) rfl (by constructor) ?_
          refine w_iac rfl rfl und24 kn23 (by exact sz23.symm) ?_ rfl ?_
          · exact ⟨by omega, by omega⟩
          refine w_iac rfl rfl und23 kn22 (by exact sz22.symm) ?_ rfl ?_
          · exact ⟨by omega, by omega⟩
          refine w_ldc rfl kn22 (by constructor) (by exact sz22.symm) (by exact ag22.symm) ?_
          refine y_call rfl (ec (ec (ec exn))) (c_starred (v := T i j) hv0 hF (hv0.T8 i j)) ?_
          refine w_move (by constructor) ?_
          refine w_ldp rfl kn29 rfl (by constructor) (by exact sz29.symm) (by exact ag29.symm) ?_
          refine w_ldp rfl kn29 rfl (by constructor) (by exact sz29.symm) (by exact ag29.symm) ?_
          refine y_call rfl (ec (ec (ec exn))) (c_times (u := F j) (v := F i) (by omega) (by omega) hn6 hv0.T8 (hF j) (hF i)) ?_
          refine w_aneq rfl rfl und29 und5 ?_
          exact hRR
        refine snd_cond _ rfl (fun hc58 => ?_) (fun hc58 => ?_)
        · skip
          apply sr tokTB (by kernel_rfl)
          · intro RR hRR
            refine w_assign (by constructor) ?_
            exact hRR
          refine snd_ret ?_
          exact rt (T := TB) (fun V => m_bool (by symm; rw [decide_eq_false_iff_not]; intro h; exact of_decide_eq_true (p := ¬ eqN 6 _ _) hc58 ((h i (by omega)).2 j (by omega))))
        · skip
          refine snd_skip ?_
          apply lr tokTB (by kernel_rfl)
          · intro RR hRR
            refine y_add rfl rfl ?_
            refine w_move (by constructor) ?_
            exact hRR
          refine ⟨j + 1, ρ0, ?_, ⟨by omega, all_step inv_j (Classical.not_not.1 (of_decide_eq_false (p := ¬ eqN 6 _ _) hc58))⟩, (by dsimp only; omega)⟩
          exact ⟨⟨m_calg, (by first | exact m_vl | exact mt_fz (by exact ⟨(ne_fst rfl), trivial⟩) rfl (fun _ _ => mt_vec (fun _ _ => rfl))), (by first | exact m_int rfl | exact m_int (by omega) | exact m_int (by simp; done) | (exact m_int (by simp; omega))), ⟨rfl, rfl, rfl, rfl, rfl⟩, (by first | exact m_vl | exact mt_fz (by exact ⟨(ne_fst rfl), trivial⟩) rfl (fun _ _ => mt_vec (fun _ _ => rfl))), (by first | exact m_int rfl | exact m_int (by omega) | exact m_int (by simp; done) | (exact m_int (by simp; omega))), (by first | exact m_int rfl | exact m_int (by omega) | exact m_int (by simp; done) | (exact m_int (by simp; omega))), (by first | exact m_vl | exact mt_fz (by exact ⟨(ne_fst rfl), trivial⟩) rfl (fun _ _ => mt_vec (fun _ _ => rfl))), (by first | exact m_int rfl | exact m_int (by omega) | exact m_int (by simp; done) | (exact m_int (by simp; omega))), (by first | exact m_int rfl | exact m_int (by omega) | exact m_int (by simp; done) | (exact m_int (by simp; omega))), trivial⟩, ⟨⟨rfl, (by first | exact trivial | exact ssh_vec | exact ssh_alg | exact ssh_tab | exact ssh_mat | exact ⟨rfl, fun _ => trivial⟩ | exact ⟨rfl, fun _ => by rw [zr29]; exact ssh_vec⟩), (by exact mt_vec (fun _ _ => rfl))⟩, trivial⟩, ⟨⟨(fun h => by first | exact ⟨rfl, rfl⟩ | exact absurd h (by decide)), trivial⟩, trivial⟩⟩
      · try simp only [hcs] at hc39
        have ge_j : n = j := by omega
        subst ge_j
        refine snd_exit ?_
        apply lr tokTB (by kernel_rfl)
        · intro RR hRR
          refine y_add rfl rfl ?_
          refine w_move (by constructor) ?_
          exact hRR
        refine ⟨i + 1, ρ0, ?_, ⟨by omega, all_step inv_i ⟨hc35, inv_j⟩⟩, (by dsimp only; omega)⟩
        exact ⟨⟨m_calg, (by first | exact m_vl | exact mt_fz (by exact trivial) rfl (fun _ _ => mt_vec (fun _ _ => rfl))), (by first | exact m_vl | exact mt_fz (by exact trivial) rfl (fun _ _ => mt_vec (fun _ _ => rfl))), (by first | exact m_int rfl | exact m_int (by omega) | exact m_int (by simp; done) | (exact m_int (by simp; omega))), (by first | exact m_int rfl | exact m_int (by omega) | exact m_int (by simp; done) | (exact m_int (by simp; omega))), trivial⟩, trivial, trivial⟩
  · try simp only [hcs] at hc12
    have ge_i : n = i := by omega
    subst ge_i
    refine snd_exit ?_
    apply sr tokTB (by kernel_rfl)
    · intro RR hRR
      refine w_assign (by constructor) ?_
      exact hRR
    refine snd_ret ?_
    exact rt (T := TB) (fun V => m_bool (by symm; rw [decide_eq_true_eq]; exact inv_i))
end Go.Am

set_option linter.unusedVariables false
set_option linter.unusedSimpArgs false
set_option maxRecDepth 4000
namespace Go.Am
attribute [local irreducible] retQ retQp
open Go.Proofs
theorem c_szVectorS {M : Nat} {F : Nat → Nat → Int} (hM : M ≤ 1048576) : ACalls Try.prog TB 48 [vlA M F, .int .i64 1048576] (.int .i64 (1048576 - (M : Int))) [] := by
  refine acalls_of tokTB Try.func48 rfl rfl (Nat.le_of_ble_eq_true rfl) ?_
  apply sr tokTB (by kernel_rfl)
  · intro RR hRR
    refine w_assign (by constructor) ?_
    exact hRR
  apply sr tokTB (by kernel_rfl)
  · intro RR hRR
    refine w_move (by constructor) ?_
    refine w_move (by constructor) ?_
    refine w_len_r rfl rfl und62 ?_
    refine y_sub rfl rfl ?_
    refine w_assign (by constructor) ?_
    exact hRR
  refine snd_seq ?_
  apply sr tokTB (by kernel_rfl)
  · intro RR hRR
    refine w_move (by constructor) ?_
    refine w_lss rfl rfl ?_
    exact hRR
  refine snd_cond_false (by exact congrArg AV.bool (decide_eq_false (by omega))) ?_
  refine snd_skip ?_
  apply sr tokTB (by kernel_rfl)
  · intro RR hRR
    refine w_move (by constructor) ?_
    refine w_assign (by constructor) ?_
    exact hRR
  refine snd_ret ?_
  exact rt (T := TB) (fun V => rfl)
theorem c_szVectorS_big {M : Nat} {F : Nat → Nat → Int} (hM : 1048576 < M) (hM2 : M ≤ 9223372036854775807) : ACalls Try.prog TB 48 [vlA M F, .int .i64 1048576] (.int .i64 (-1)) [] := by
  refine acalls_of tokTB Try.func48 rfl rfl (Nat.le_of_ble_eq_true rfl) ?_
  apply sr tokTB (by kernel_rfl)
  · intro RR hRR
    refine w_assign (by constructor) ?_
    exact hRR
  apply sr tokTB (by kernel_rfl)
  · intro RR hRR
    refine w_move (by constructor) ?_
    refine w_move (by constructor) ?_
    refine w_len_r rfl rfl und62 ?_
    refine y_sub rfl rfl ?_
    refine w_assign (by constructor) ?_
    exact hRR
  refine snd_seq ?_
  apply sr tokTB (by kernel_rfl)
  · intro RR hRR
    refine w_move (by constructor) ?_
    refine w_lss rfl rfl ?_
    exact hRR
  refine snd_cond_true (by exact congrArg AV.bool (decide_eq_true (by omega))) ?_
  apply sr tokTB (by kernel_rfl)
  · intro RR hRR
    refine w_assign (by constructor) ?_
    exact hRR
  refine snd_ret ?_
  exact rt (T := TB) (fun V => rfl)
theorem c_toVectorS {M : Nat} {F : Nat → Nat → Int} (hM : M ≤ 16777216) : ACalls Try.prog TB 50 [vlA M F] (.own 0 0 M 29) [(0, .one (.arr M (fun _ => TB.zero 29)) (.arr M (fun i => vecA (F i))))] := by
  refine acalls_of tokTB Try.func50 rfl rfl (Nat.le_of_ble_eq_true rfl) ?_
  apply sr tokTB (by kernel_rfl)
  · intro RR hRR
    refine w_assign (by constructor) ?_
    exact hRR
  apply sr tokTB (by kernel_rfl)
  · intro RR hRR
    refine w_move (by constructor) ?_
    refine w_len_r rfl rfl und62 ?_
    refine w_mks und52 rfl rfl kn29 rfl (by omega) (by rw [by29]; omega) (by omega) rfl ?_
    refine w_assign (by constructor) ?_
    exact hRR
  refine snd_seq ?_
  apply sr tokTB (by kernel_rfl)
  · intro RR hRR
    refine w_assign (by constructor) ?_
    exact hRR
  refine snd_block ?_
  refine snd_loop (S := Nat) (fun i => ([(0, vlA M F), (3, .own 903 0 M 29), (4, .int .i64 (i : Int))], [(903, .one (.arr M (fun _ => TB.zero 29)) (.arr M (fun r => vecA (cutL F i r))))])) (fun i => i ≤ M) (fun i => M - i) (0) (fun k i => bif Nat.beq k 903 then (7, i) else (k, i)) ?_ ?_ ?_
  · exact ⟨⟨(by first | exact m_vl | exact mt_fz (by exact ⟨(ne_fst rfl), trivial⟩) rfl (fun _ _ => mt_vec (fun _ _ => rfl))), (by first | exact ⟨rfl, rfl, rfl, rfl⟩ | exact ⟨rfl, by omega, rfl, rfl⟩), (by first | exact m_int rfl | exact m_int (by omega) | exact m_int (by simp; done) | (exact m_int (by simp; omega))), trivial⟩, ⟨⟨rfl, (by first | exact trivial | exact ssh_vec | exact ssh_alg | exact ssh_tab | exact ssh_mat | exact ⟨rfl, fun _ => trivial⟩ | exact ⟨rfl, fun _ => by rw [zr29]; exact ssh_vec⟩), (by exact ⟨rfl, fun r _ => (by rw [zr29]; exact mt_vec (fun z _ => by unfold cutL; rw [if_neg (Nat.not_lt_zero _)]))⟩)⟩, trivial⟩, ⟨⟨(fun h => by first | exact ⟨rfl, rfl⟩ | exact absurd h (by decide)), trivial⟩, trivial⟩⟩
  · exact Nat.zero_le _
  intro i hi0
  refine sq (env2 := [(0, vlA M F), (3, .own 903 0 M 29), (4, .int .i64 (i : Int))]) (ol2 := [(903, .one (.arr M (fun _ => TB.zero 29)) (.arr M (fun r => vecA (cutL F i r))))]) rfl rfl ?_
  refine snd_seq ?_
  apply sr tokTB (by kernel_rfl)
  · intro RR hRR
    refine w_move (by constructor) ?_
    refine w_move (by constructor) ?_
    refine w_len_r rfl rfl und62 ?_
    refine w_lss rfl rfl ?_
    exact hRR
  refine snd_cond _ rfl (fun hc11 => ?_) (fun hc11 => ?_)
  · try simp only [hcs] at hc11
    have lt_i : i < M := by omega
    refine snd_skip ?_
    refine snd_seq ?_
    refine snd_block ?_
    apply lr tokTB (by kernel_rfl)
    · intro RR hRR
      refine w_move (by constructor) ?_
      refine w_move (by constructor) ?_
      refine w_move (by constructor) ?_
      refine w_move (by constructor) ?_
      refine w_iar rfl rfl und62 kn22 (by exact sz22.symm) ?_ rfl ?_
      · exact ⟨by omega, by omega⟩
      first | refine w_ldc rfl kn22 (by constructor) (by exact sz22.symm) (by exact ag22.symm) ?_ | refine w_ldp rfl kn22 rfl (by constructor) (by exact sz22.symm) (by exact ag22.symm) ?_
      refine y_call rfl (ec exn) (c_toVector) ?_
      refine w_iao rfl rfl und52 kn29 ?_ ?_
      · exact ⟨by omega, by omega⟩
      refine w_store rfl (HV.eq (by constructor)) kn29 rfl (by exact trivial) (by show ssh (TB.zero 29) _; rw [zr29]; exact ssh_vec) (by exact sz29.symm) rfl ?_
      exact hRR
    apply lr tokTB (by kernel_rfl)
    · intro RR hRR
      refine w_move (by constructor) ?_
      refine y_add rfl rfl ?_
      refine w_assign (by constructor) ?_
      exact hRR
    refine ⟨i + 1, ρ0, ?_, (by omega), (by dsimp only; omega)⟩
    exact ⟨⟨(by first | exact m_vl | exact mt_fz (by exact ⟨(ne_fst rfl), trivial⟩) rfl (fun _ _ => mt_vec (fun _ _ => rfl))), (by first | exact ⟨rfl, rfl, rfl, rfl⟩ | exact ⟨rfl, by omega, rfl, rfl⟩), (by first | exact m_int rfl | exact m_int (by omega) | exact m_int (by simp; done) | (exact m_int (by simp; omega))), trivial⟩, ⟨⟨rfl, (by first | exact trivial | exact ssh_vec | exact ssh_alg | exact ssh_tab | exact ssh_mat | exact ⟨rfl, fun _ => trivial⟩ | exact ⟨rfl, fun _ => by rw [zr29]; exact ssh_vec⟩), (by exact ⟨rfl, fun r hr => mt_cutL⟩)⟩, trivial⟩, ⟨⟨(fun h => by first | exact ⟨rfl, rfl⟩ | exact absurd h (by decide)), trivial⟩, trivial⟩⟩
  · try simp only [hcs] at hc11
    have ge_i : M = i := by omega
    subst ge_i
    refine snd_exit ?_
    apply sr tokTB (by kernel_rfl)
    · intro RR hRR
      refine w_move (by constructor) ?_
      refine w_assign (by constructor) ?_
      exact hRR
    refine snd_ret ?_
    show retQ TB _ _ _ _ _ _
    exact rt_own rfl rfl rfl (fun _ => by rw [zr29]; exact ssh_vec) (fun V i hi => mt_vec (fun z _ => by unfold cutL; rw [if_pos hi]))
end Go.Am

set_option linter.unusedVariables false
set_option linter.unusedSimpArgs false
set_option maxRecDepth 4000
namespace Go.Am
attribute [local irreducible] retQ retQp
open Go.Proofs
theorem c_listOk1 {p n : Int} {T : Nat → Nat → Nat → Int} {fo : Nat → Int} {v : Nat → Int} (hv : B8 v) : ACalls Try.prog TB 146 [vecA v, .cptr (.cptr (algA p n T fo))] (.bool (!decide (smP p n v))) [] := by
  refine acalls_of tokTB Try.func146 rfl rfl (Nat.le_of_ble_eq_true rfl) ?_
  apply sr tokTB (by kernel_rfl)
  · intro RR hRR
    refine w_boxc (HV.eq (by constructor)) (by exact trivial) ?_
    refine w_assign (by constructor) ?_
    exact hRR
  apply sd tokTB mixed (by kernel_rfl) (by kernel_rfl)
  · intro RR hRR
    refine w_ldc rfl kn29 (by constructor) (by exact sz29.symm) (by exact ag29.symm) ?_
    refine w_ldc rfl kn78 (by constructor) (by exact sz78.symm) (by exact ag78.symm) ?_
    refine w_nilc rfl ?_
    refine w_fac rfl und31 rfl kn2 nz2 (by decide) rfl (by constructor) ?_
    refine w_ldc rfl kn2 (by constructor) (by exact sz2.symm) (by exact ag2.symm) ?_
    refine w_ldc rfl kn78 (by constructor) (by exact sz78.symm) (by exact ag78.symm) ?_
    refine w_nilc rfl ?_
    refine w_fac rfl und31 rfl kn2 nz2 (by decide) rfl (by constructor) ?_
    refine w_ldc rfl kn2 (by constructor) (by exact sz2.symm) (by exact ag2.symm) ?_
    refine y_call rfl (ec (ec (ec exn))) (c_isVector hv) ?_
    refine w_not rfl ?_
    refine w_assign (by constructor) ?_
    exact hRR
  refine snd_ret ?_
  exact rt (T := TB) (fun V => by first | exact m_bool rfl | exact m_int rfl)
theorem c_listOk {p : Int} {n : Nat} {T : Nat → Nat → Nat → Int} {fo : Nat → Int} {M : Nat} {F : Nat → Nat → Int} (hM : M ≤ 16777216) (hF : ∀ i, B8 (F i)) : ACalls Try.prog TB 117 [.cptr (algA p (n : Int) T fo), vlA M F] (.bool (decide (liP p (n : Int) M F))) [] := by
  refine acalls_of tokTB Try.func117 rfl rfl (Nat.le_of_ble_eq_true rfl) ?_
  apply sr tokTB (by kernel_rfl)
  · intro RR hRR
    refine w_boxc (HV.eq (by constructor)) (by exact trivial) ?_
    refine w_assign (by constructor) ?_
    exact hRR
  apply srG (env' := (4, .bool (decide ((M : Int) = (n : Int)) && !(decide (0 ≤ idxF (fun i => !decide (smP p (n : Int) (F i))) M)))) :: (15, .bool (decide ((M : Int) = (n : Int)) && !(decide (0 ≤ idxF (fun i => !decide (smP p (n : Int) (F i))) M)))) :: (14, .any) :: (13, .any) :: (12, .any) :: (11, .any) :: (10, _) :: (9, _) :: (8, _) :: (7, _) :: (6, _) :: (5, _) :: _) tokTB (by kernel_rfl)
  · intro RR hRR
    refine w_move (by constructor) ?_
    first | refine w_len_r rfl rfl und52 ?_ | refine w_len_o rfl rfl und52 ?_ | refine w_len_n rfl rfl und52 ?_
    refine w_ldc rfl kn78 (by constructor) (by exact sz78.symm) (by exact ag78.symm) ?_
    refine y_call rfl (ec exn) (c_n) ?_
    refine w_eql rfl rfl ?_
    refine w_move (by constructor) ?_
    refine w_g rfl rfl (fun hg5 => ?_) (fun hg5 => ?_)
    · skip
      refine w_move (by constructor) ?_
      refine w_g_on rfl rfl hg5 ?_
      refine w_mkf1 (by constructor) ?_
      refine w_g_on rfl rfl hg5 ?_
      refine y_call rfl (exc ex_vl (exc (exp_closed (closed_cap1 closed_calg)) exn)) (c_ContainsFuncV (nc := 1) (caps := cap1 (.cptr (.cptr (algA p (n : Int) T fo)))) (P := fun i => !decide (smP p (n : Int) (F i))) hM (closed_cap1 closed_calg) (fun i _ => c_listOk1 (hF i))) ?_
      refine w_g_on rfl rfl hg5 ?_
      refine w_not rfl ?_
      refine w_pick_1 rfl hg5 (by constructor) ?_
      refine w_assign (by constructor) ?_
      try simp only [Int.toNat_natCast] at hg5
      exact hRR _ (EL.cons (.inr (by first | rfl | (simp only [hg5, els]; done) | (simp only [hg5, els]; rfl) | simp [hg5])) (EL.cons (.inr (by first | rfl | (simp only [hg5, els]; done) | (simp only [hg5, els]; rfl) | simp [hg5])) (EL.cons (.inl rfl) (EL.cons (.inl rfl) (EL.cons (.inl rfl) (EL.cons (.inl rfl) (EL.cons (.inr rfl) (EL.cons (.inr rfl) (EL.cons (.inr rfl) (EL.cons (.inr rfl) (EL.cons (.inr rfl) (EL.cons (.inr rfl) (EL.refl _)))))))))))))
    · have hg5 := eq_false_of_ne_true hg5
      refine w_g_off rfl rfl (by rw [hg5]; decide) ?_
      refine w_g_off rfl rfl (by rw [hg5]; decide) ?_
      refine w_g_off rfl rfl (by rw [hg5]; decide) ?_
      refine w_pick_0 rfl hg5 (by constructor) ?_
      refine w_assign (by constructor) ?_
      try simp only [Int.toNat_natCast] at hg5
      exact hRR _ (EL.cons (.inr (by first | rfl | (simp only [hg5, els]; done) | (simp only [hg5, els]; rfl) | simp [hg5])) (EL.cons (.inr (by first | rfl | (simp only [hg5, els]; done) | (simp only [hg5, els]; rfl) | simp [hg5])) (EL.cons (.inl rfl) (EL.cons (.inl rfl) (EL.cons (.inl rfl) (EL.cons (.inl rfl) (EL.cons (.inr rfl) (EL.cons (.inr rfl) (EL.cons (.inr rfl) (EL.cons (.inr rfl) (EL.cons (.inr rfl) (EL.cons (.inr rfl) (EL.refl _)))))))))))))
  refine snd_ret ?_
  exact rt (T := TB) (fun V => m_bool (by rw [li_iff]))
theorem c_l08List1_ok {p : Int} {n : Nat} {T : Nat → Nat → Nat → Int} {fo : Nat → Int} (hv0 : VN p n T fo) {v : Nat → Int} (hv : VV p n v) {M : Nat} {F : Nat → Nat → Int} (hM : M ≤ 16777216) (hF : ∀ i, B8 (F i)) : ACalls Try.prog TB 89 [algA p (n : Int) T fo, vlA M F, vlA 1 (vs1 v)] (.int .i64 (if liP p (n : Int) M F then 0 else 2)) [] := by
  refine acalls_of tokTB Try.func89 rfl rfl (Nat.le_of_ble_eq_true rfl) ?_
  apply sr tokTB (by kernel_rfl)
  · intro RR hRR
    refine w_boxc (HV.eq (by constructor)) (by exact trivial) ?_
    refine w_assign (by constructor) ?_
    exact hRR
  refine snd_seq ?_
  apply sr tokTB (by kernel_rfl)
  · intro RR hRR
    refine w_ldc rfl kn31 (by constructor) (by exact sz31.symm) (by exact ag31.symm) ?_
    refine w_move (by constructor) ?_
    refine y_call rfl (ec (ec exn)) (c_l01Code1_ok hv0 hv) ?_
    refine w_neq rfl rfl ?_
    exact hRR
  refine snd_cond_false rfl ?_
  refine snd_skip ?_
  refine snd_seq ?_
  apply sr tokTB (by kernel_rfl)
  · intro RR hRR
    refine w_move (by constructor) ?_
    refine w_len_r rfl rfl und52 ?_
    refine w_fac rfl und31 rfl kn2 nz2 (by decide) rfl (by constructor) ?_
    refine w_ldc rfl kn2 (by constructor) (by exact sz2.symm) (by exact ag2.symm) ?_
    refine w_neq rfl rfl ?_
    exact hRR
  refine snd_cond _ rfl (fun hc16 => ?_) (fun hc16 => ?_)
  · try simp only [hcs] at hc16
    apply sr tokTB (by kernel_rfl)
    · intro RR hRR
      refine w_assign (by constructor) ?_
      exact hRR
    refine snd_ret ?_
    exact rt (T := TB) (fun V => m_int (by rw [if_neg (fun q : liP p (n : Int) M F => hc16 q.1)]))
  · try simp only [hcs] at hc16
    refine snd_skip ?_
    refine snd_seq ?_
    apply sr tokTB (by kernel_rfl)
    · intro RR hRR
      refine w_assign (by constructor) ?_
      exact hRR
    refine snd_block ?_
    refine snd_loop (S := Nat) (fun i => ([(1, vlA M F), (3, .cptr (algA p (n : Int) T fo)), (7, .int .i64 (i : Int))], [])) (fun i => i ≤ M ∧ (∀ a, a < i → smP p (n : Int) (F a))) (fun i => M - i) (0) ρ0 ?_ ?_ ?_
    · exact ⟨⟨(by first | exact m_vl | exact mt_fz (by exact trivial) rfl (fun _ _ => mt_vec (fun _ _ => rfl))), m_calg, (by first | exact m_int rfl | exact m_int (by omega) | exact m_int (by simp; done) | (exact m_int (by simp; omega))), trivial⟩, trivial, trivial⟩
    · exact ⟨Nat.zero_le _, fun j hj => absurd hj (Nat.not_lt_zero _)⟩
    intro i hi0
    refine sq (env2 := [(1, vlA M F), (3, .cptr (algA p (n : Int) T fo)), (7, .int .i64 (i : Int))]) (ol2 := []) rfl rfl ?_
    obtain ⟨le_i, inv_i⟩ := hi0
    refine snd_seq ?_
    apply sr tokTB (by kernel_rfl)
    · intro RR hRR
      refine w_move (by constructor) ?_
      refine w_move (by constructor) ?_
      refine w_len_r rfl rfl und52 ?_
      refine w_lss rfl rfl ?_
      exact hRR
    refine snd_cond _ rfl (fun hc20 => ?_) (fun hc20 => ?_)
    · try simp only [hcs] at hc20
      have lt_i : i < M := by omega
      refine snd_skip ?_
      refine snd_seq ?_
      refine snd_block ?_
      apply sd tokTB mixed (by kernel_rfl) (by kernel_rfl)
      · intro RR hRR
        refine w_ldc rfl kn31 (by constructor) (by exact sz31.symm) (by exact ag31.symm) ?_
        refine w_move (by constructor) ?_
        refine w_move (by constructor) ?_
        refine w_iar rfl rfl und52 kn29 (by exact sz29.symm) ?_ rfl ?_
        · exact ⟨by omega, by omega⟩
        first | refine w_ldc rfl kn29 (by constructor) (by exact sz29.symm) (by exact ag29.symm) ?_ | refine w_ldp rfl kn29 rfl (by constructor) (by exact sz29.symm) (by exact ag29.symm) ?_
        refine y_call rfl (ec (ec exn)) (c_l01Vector (v := F i) (hF i)) ?_
        refine w_not rfl ?_
        exact hRR
      refine snd_cond _ rfl (fun hc29 => ?_) (fun hc29 => ?_)
      · try simp only [hcs] at hc29
        apply sr tokTB (by kernel_rfl)
        · intro RR hRR
          refine w_assign (by constructor) ?_
          exact hRR
        refine snd_ret ?_
        exact rt (T := TB) (fun V => m_int (by rw [if_neg (fun q : liP p (n : Int) M F => hc29 (q.2 i (by omega)))]))
      · try simp only [hcs] at hc29
        refine snd_skip ?_
        apply lr tokTB (by kernel_rfl)
        · intro RR hRR
          refine w_move (by constructor) ?_
          refine y_add rfl rfl ?_
          refine w_assign (by constructor) ?_
          exact hRR
        refine ⟨i + 1, ρ0, ?_, ⟨by omega, all_step inv_i hc29⟩, (by dsimp only; omega)⟩
        exact ⟨⟨(by first | exact m_vl | exact mt_fz (by exact trivial) rfl (fun _ _ => mt_vec (fun _ _ => rfl))), m_calg, (by first | exact m_int rfl | exact m_int (by omega) | exact m_int (by simp; done) | (exact m_int (by simp; omega))), trivial⟩, trivial, trivial⟩
    · try simp only [hcs] at hc20
      have ge_i : M = i := by omega
      subst ge_i
      refine snd_exit ?_
      apply sr tokTB (by kernel_rfl)
      · intro RR hRR
        refine w_assign (by constructor) ?_
        exact hRR
      refine snd_ret ?_
      exact rt (T := TB) (fun V => m_int (by rw [if_pos (show liP p (n : Int) M F from ⟨hc16, inv_i⟩)]))
theorem c_l08List1_no {p n : Int} {T : Nat → Nat → Nat → Int} {fo : Nat → Int} (hT : RB T) (hf : RV fo) {v : Nat → Int} (hv : B8 v) (hz : ¬ VZ p n T fo 1 (vs1 v)) {M : Nat} {F : Nat → Nat → Int} : ACalls Try.prog TB 89 [algA p n T fo, vlA M F, vlA 1 (vs1 v)] (.int .i64 1) [] := by
  refine acalls_of tokTB Try.func89 rfl rfl (Nat.le_of_ble_eq_true rfl) ?_
  apply sr tokTB (by kernel_rfl)
  · intro RR hRR
    refine w_boxc (HV.eq (by constructor)) (by exact trivial) ?_
    refine w_assign (by constructor) ?_
    exact hRR
  refine snd_seq ?_
  apply sr tokTB (by kernel_rfl)
  · intro RR hRR
    refine w_ldc rfl kn31 (by constructor) (by exact sz31.symm) (by exact ag31.symm) ?_
    refine w_move (by constructor) ?_
    refine y_call rfl (ec (ec exn)) (c_l01Code1_no hT hf hv hz) ?_
    refine w_neq rfl rfl ?_
    exact hRR
  refine snd_cond_true rfl ?_
  apply sr tokTB (by kernel_rfl)
  · intro RR hRR
    refine w_assign (by constructor) ?_
    exact hRR
  refine snd_ret ?_
  exact rt (T := TB) (fun V => rfl)
theorem c_listed1_ok {p : Int} {n : Nat} {T : Nat → Nat → Nat → Int} {fo : Nat → Int} (hv0 : VN p n T fo) {v : Nat → Int} (hv : VV p n v) {M : Nat} {F : Nat → Nat → Int} (hM : M ≤ 16777216) (hF : ∀ i, B8 (F i)) : ACalls Try.prog TB 91 [algA p (n : Int) T fo, vlA M F, vlA 1 (vs1 v)] (.int .i64 (if liP p (n : Int) M F then 0 else 2)) [] := by
  refine acalls_of tokTB Try.func91 rfl rfl (Nat.le_of_ble_eq_true rfl) ?_
  apply sr tokTB (by kernel_rfl)
  · intro RR hRR
    refine w_boxc (HV.eq (by constructor)) (by exact trivial) ?_
    refine w_assign (by constructor) ?_
    exact hRR
  refine snd_seq ?_
  apply sr tokTB (by kernel_rfl)
  · intro RR hRR
    refine w_ldc rfl kn31 (by constructor) (by exact sz31.symm) (by exact ag31.symm) ?_
    refine w_move (by constructor) ?_
    refine y_call rfl (ec (ec exn)) (c_valid1_ok hv0 hv) ?_
    refine w_assign (by constructor) ?_
    exact hRR
  apply sr tokTB (by kernel_rfl)
  · intro RR hRR
    refine w_move (by constructor) ?_
    refine w_neq rfl rfl ?_
    exact hRR
  refine snd_cond_false rfl ?_
  refine snd_skip ?_
  refine snd_seq ?_
  apply sr tokTB (by kernel_rfl)
  · intro RR hRR
    refine w_move (by constructor) ?_
    refine y_call rfl (ec (ec exn)) (c_listOk hM hF) ?_
    refine w_not rfl ?_
    exact hRR
  refine snd_cond _ rfl (fun hc16 => ?_) (fun hc16 => ?_)
  · try simp only [hcs] at hc16
    apply sr tokTB (by kernel_rfl)
    · intro RR hRR
      refine w_assign (by constructor) ?_
      exact hRR
    refine snd_ret ?_
    exact rt (T := TB) (fun V => m_int (by rw [if_neg hc16]))
  · try simp only [hcs] at hc16
    refine snd_skip ?_
    apply sr tokTB (by kernel_rfl)
    · intro RR hRR
      refine w_assign (by constructor) ?_
      exact hRR
    refine snd_ret ?_
    exact rt (T := TB) (fun V => m_int (by rw [if_pos hc16]))
theorem c_listed1_no {p n : Int} {T : Nat → Nat → Nat → Int} {fo : Nat → Int} (hT : RB T) (hf : RV fo) {v : Nat → Int} (hv : B8 v) (hz : ¬ VZ p n T fo 1 (vs1 v)) {M : Nat} {F : Nat → Nat → Int} : ACalls Try.prog TB 91 [algA p n T fo, vlA M F, vlA 1 (vs1 v)] (.int .i64 1) [] := by
  refine acalls_of tokTB Try.func91 rfl rfl (Nat.le_of_ble_eq_true rfl) ?_
  apply sr tokTB (by kernel_rfl)
  · intro RR hRR
    refine w_boxc (HV.eq (by constructor)) (by exact trivial) ?_
    refine w_assign (by constructor) ?_
    exact hRR
  refine snd_seq ?_
  apply sr tokTB (by kernel_rfl)
  · intro RR hRR
    refine w_ldc rfl kn31 (by constructor) (by exact sz31.symm) (by exact ag31.symm) ?_
    refine w_move (by constructor) ?_
    refine y_call rfl (ec (ec exn)) (c_valid1_no hT hf hv hz) ?_
    refine w_assign (by constructor) ?_
    exact hRR
  apply sr tokTB (by kernel_rfl)
  · intro RR hRR
    refine w_move (by constructor) ?_
    refine w_neq rfl rfl ?_
    exact hRR
  refine snd_cond_true rfl ?_
  apply sr tokTB (by kernel_rfl)
  · intro RR hRR
    refine w_move (by constructor) ?_
    refine w_assign (by constructor) ?_
    exact hRR
  refine snd_ret ?_
  exact rt (T := TB) (fun V => rfl)
end Go.Am

set_option linter.unusedVariables false
set_option linter.unusedSimpArgs false
set_option maxRecDepth 4000
namespace Go.Am
attribute [local irreducible] retQ retQp
open Go.Proofs
theorem c_sApplyStar_ok {p : Int} {n : Nat} {T : Nat → Nat → Nat → Int} {fo : Nat → Int} (hv0 : VN p n T fo) {v : Nat → Int} (hv : VV p n v) {F : Nat → Nat → Int} (hF : ∀ i, B8 (F i)) (hl : ∀ i, i < n → smP p (n : Int) (F i)) (hs : starP p n T fo F) : ACalls Try.prog TB 52 [algA p (n : Int) T fo, vlA n F, vecA v] (.tup 2 (pairA (vecA (apF p F v n)) (.int .i64 0))) [] := by
  refine acalls_of tokTB Try.func52 rfl rfl (Nat.le_of_ble_eq_true rfl) ?_
  apply sr tokTB (by kernel_rfl)
  · intro RR hRR
    refine w_boxc (HV.eq (by constructor)) (by exact trivial) ?_
    refine w_boxc (HV.eq (by constructor)) (by exact trivial) ?_
    refine w_alloc kn29 rfl zr29 ?_
    refine w_assign (by constructor) ?_
    exact hRR
  refine snd_seq ?_
  apply sr tokTB (by kernel_rfl)
  · intro RR hRR
    refine w_ldc rfl kn31 (by constructor) (by exact sz31.symm) (by exact ag31.symm) ?_
    refine w_move (by constructor) ?_
    refine w_ldc rfl kn29 (by constructor) (by exact sz29.symm) (by exact ag29.symm) ?_
    refine w_bsl1 und52 kn29 (by rw [sz29]; rfl) rfl (by constructor) (by exact trivial) (by exact sz29.symm) (by first | exact trivial | exact ssh_vec | exact ⟨rfl, fun _ => trivial⟩) ?_
    refine y_call rfl (exc exp_alg (exc ex_vl (exc (ex_l1 zr29 rfl) exn))) (((if_pos (⟨rfl, hl⟩ : liP p (n : Int) n F) : (if liP p (n : Int) n F then (0 : Int) else 2) = 0) ▸ c_l08List1_ok hv0 hv (by have := hv0.n6; omega) hF)) ?_
    refine w_assign (by constructor) ?_
    exact hRR
  apply sr tokTB (by kernel_rfl)
  · intro RR hRR
    refine w_move (by constructor) ?_
    refine w_neq rfl rfl ?_
    exact hRR
  refine snd_cond_false rfl ?_
  refine snd_skip ?_
  refine snd_seq ?_
  apply sr tokTB (by kernel_rfl)
  · intro RR hRR
    refine w_ldc rfl kn31 (by constructor) (by exact sz31.symm) (by exact ag31.symm) ?_
    refine w_move (by constructor) ?_
    refine y_call rfl (ec (ec exn)) (c_l08Star hv0 hF) ?_
    refine w_not rfl ?_
    exact hRR
  refine snd_cond_false (by exact not_t hs) ?_
  refine snd_skip ?_
  apply sr tokTB (by kernel_rfl)
  · intro RR hRR
    refine w_ldc rfl kn31 (by constructor) (by exact sz31.symm) (by exact ag31.symm) ?_
    refine w_move (by constructor) ?_
    refine w_ldc rfl kn29 (by constructor) (by exact sz29.symm) (by exact ag29.symm) ?_
    refine y_call rfl (ec (ec (ec exn))) (c_l08Apply hv0 hF (hv.B8 (by have := hv0.p0; omega))) ?_
    refine w_stw rfl (by constructor) kn29 rfl (by exact trivial) (by first | exact trivial | exact ssh_vec | exact ssh_alg | exact ssh_tab | exact ssh_mat | exact ⟨rfl, fun _ => trivial⟩ | exact ⟨rfl, fun _ => by rw [zr29]; exact ssh_vec⟩) (by exact sz29.symm) ?_
    refine w_assign (by constructor) ?_
    exact hRR
  refine snd_ret ?_
  show retQ TB _ _ _ _ _ _
  exact rt_ct (T := TB) rfl kn29 rfl sz29.symm ag29.symm (fun V => mt_vec (fun z _ => rfl)) (fun V => rfl)
theorem c_sApplyStar_ns {p : Int} {n : Nat} {T : Nat → Nat → Nat → Int} {fo : Nat → Int} (hv0 : VN p n T fo) {v : Nat → Int} (hv : VV p n v) {F : Nat → Nat → Int} (hF : ∀ i, B8 (F i)) (hl : ∀ i, i < n → smP p (n : Int) (F i)) (hs : ¬ starP p n T fo F) : ACalls Try.prog TB 52 [algA p (n : Int) T fo, vlA n F, vecA v] (.tup 2 (pairA (vecA (fun _ => 0)) (.int .i64 5))) [] := by
  refine acalls_of tokTB Try.func52 rfl rfl (Nat.le_of_ble_eq_true rfl) ?_
  apply sr tokTB (by kernel_rfl)
  · intro RR hRR
    refine w_boxc (HV.eq (by constructor)) (by exact trivial) ?_
    refine w_boxc (HV.eq (by constructor)) (by exact trivial) ?_
    refine w_alloc kn29 rfl zr29 ?_
    refine w_assign (by constructor) ?_
    exact hRR
  refine snd_seq ?_
  apply sr tokTB (by kernel_rfl)
  · intro RR hRR
    refine w_ldc rfl kn31 (by constructor) (by exact sz31.symm) (by exact ag31.symm) ?_
    refine w_move (by constructor) ?_
    refine w_ldc rfl kn29 (by constructor) (by exact sz29.symm) (by exact ag29.symm) ?_
    refine w_bsl1 und52 kn29 (by rw [sz29]; rfl) rfl (by constructor) (by exact trivial) (by exact sz29.symm) (by first | exact trivial | exact ssh_vec | exact ⟨rfl, fun _ => trivial⟩) ?_
    refine y_call rfl (exc exp_alg (exc ex_vl (exc (ex_l1 zr29 rfl) exn))) (((if_pos (⟨rfl, hl⟩ : liP p (n : Int) n F) : (if liP p (n : Int) n F then (0 : Int) else 2) = 0) ▸ c_l08List1_ok hv0 hv (by have := hv0.n6; omega) hF)) ?_
    refine w_assign (by constructor) ?_
    exact hRR
  apply sr tokTB (by kernel_rfl)
  · intro RR hRR
    refine w_move (by constructor) ?_
    refine w_neq rfl rfl ?_
    exact hRR
  refine snd_cond_false rfl ?_
  refine snd_skip ?_
  refine snd_seq ?_
  apply sr tokTB (by kernel_rfl)
  · intro RR hRR
    refine w_ldc rfl kn31 (by constructor) (by exact sz31.symm) (by exact ag31.symm) ?_
    refine w_move (by constructor) ?_
    refine y_call rfl (ec (ec exn)) (c_l08Star hv0 hF) ?_
    refine w_not rfl ?_
    exact hRR
  refine snd_cond_true (by exact not_f hs) ?_
  apply sr tokTB (by kernel_rfl)
  · intro RR hRR
    refine w_bld_a kn29 zr29 und29 kn5 (fun _ => (by exact sz5.symm)) trivial rfl (by exact sz5.symm) ?_
    refine w_stw rfl (by constructor) kn29 rfl (by exact trivial) (by first | exact trivial | exact ssh_vec | exact ssh_alg | exact ssh_tab | exact ssh_mat | exact ⟨rfl, fun _ => trivial⟩ | exact ⟨rfl, fun _ => by rw [zr29]; exact ssh_vec⟩) (by exact sz29.symm) ?_
    refine w_assign (by constructor) ?_
    exact hRR
  refine snd_ret ?_
  show retQ TB _ _ _ _ _ _
  exact rt_ct (T := TB) rfl kn29 rfl sz29.symm ag29.symm (fun V => mt_vec (fun z _ => rfl)) (fun V => rfl)
theorem c_sApplyStar_nl {p : Int} {n : Nat} {T : Nat → Nat → Nat → Int} {fo : Nat → Int} (hv0 : VN p n T fo) {v : Nat → Int} (hv : VV p n v) {M : Nat} {F : Nat → Nat → Int} (hM : M ≤ 16777216) (hF : ∀ i, B8 (F i)) (hl : ¬ liP p (n : Int) M F) : ACalls Try.prog TB 52 [algA p (n : Int) T fo, vlA M F, vecA v] (.tup 2 (pairA (vecA (fun _ => 0)) (.int .i64 2))) [] := by
  refine acalls_of tokTB Try.func52 rfl rfl (Nat.le_of_ble_eq_true rfl) ?_
  apply sr tokTB (by kernel_rfl)
  · intro RR hRR
    refine w_boxc (HV.eq (by constructor)) (by exact trivial) ?_
    refine w_boxc (HV.eq (by constructor)) (by exact trivial) ?_
    refine w_alloc kn29 rfl zr29 ?_
    refine w_assign (by constructor) ?_
    exact hRR
  refine snd_seq ?_
  apply sr tokTB (by kernel_rfl)
  · intro RR hRR
    refine w_ldc rfl kn31 (by constructor) (by exact sz31.symm) (by exact ag31.symm) ?_
    refine w_move (by constructor) ?_
    refine w_ldc rfl kn29 (by constructor) (by exact sz29.symm) (by exact ag29.symm) ?_
    refine w_bsl1 und52 kn29 (by rw [sz29]; rfl) rfl (by constructor) (by exact trivial) (by exact sz29.symm) (by first | exact trivial | exact ssh_vec | exact ⟨rfl, fun _ => trivial⟩) ?_
    refine y_call rfl (exc exp_alg (exc ex_vl (exc (ex_l1 zr29 rfl) exn))) (((if_neg hl : (if liP p (n : Int) M F then (0 : Int) else 2) = 2) ▸ c_l08List1_ok hv0 hv hM hF)) ?_
    refine w_assign (by constructor) ?_
    exact hRR
  apply sr tokTB (by kernel_rfl)
  · intro RR hRR
    refine w_move (by constructor) ?_
    refine w_neq rfl rfl ?_
    exact hRR
  refine snd_cond_true rfl ?_
  apply sr tokTB (by kernel_rfl)
  · intro RR hRR
    refine w_bld_a kn29 zr29 und29 kn5 (fun _ => (by exact sz5.symm)) trivial rfl (by exact sz5.symm) ?_
    refine w_move (by constructor) ?_
    refine w_stw rfl (by constructor) kn29 rfl (by exact trivial) (by first | exact trivial | exact ssh_vec | exact ssh_alg | exact ssh_tab | exact ssh_mat | exact ⟨rfl, fun _ => trivial⟩ | exact ⟨rfl, fun _ => by rw [zr29]; exact ssh_vec⟩) (by exact sz29.symm) ?_
    refine w_assign (by constructor) ?_
    exact hRR
  refine snd_ret ?_
  show retQ TB _ _ _ _ _ _
  exact rt_ct (T := TB) rfl kn29 rfl sz29.symm ag29.symm (fun V => mt_vec (fun z _ => rfl)) (fun V => rfl)
theorem c_sApplyStar_no {p n : Int} {T : Nat → Nat → Nat → Int} {fo : Nat → Int} (hT : RB T) (hf : RV fo) {v : Nat → Int} (hv : B8 v) (hz : ¬ VZ p n T fo 1 (vs1 v)) {M : Nat} {F : Nat → Nat → Int} : ACalls Try.prog TB 52 [algA p n T fo, vlA M F, vecA v] (.tup 2 (pairA (vecA (fun _ => 0)) (.int .i64 1))) [] := by
  refine acalls_of tokTB Try.func52 rfl rfl (Nat.le_of_ble_eq_true rfl) ?_
  apply sr tokTB (by kernel_rfl)
  · intro RR hRR
    refine w_boxc (HV.eq (by constructor)) (by exact trivial) ?_
    refine w_boxc (HV.eq (by constructor)) (by exact trivial) ?_
    refine w_alloc kn29 rfl zr29 ?_
    refine w_assign (by constructor) ?_
    exact hRR
  refine snd_seq ?_
  apply sr tokTB (by kernel_rfl)
  · intro RR hRR
    refine w_ldc rfl kn31 (by constructor) (by exact sz31.symm) (by exact ag31.symm) ?_
    refine w_move (by constructor) ?_
    refine w_ldc rfl kn29 (by constructor) (by exact sz29.symm) (by exact ag29.symm) ?_
    refine w_bsl1 und52 kn29 (by rw [sz29]; rfl) rfl (by constructor) (by exact trivial) (by exact sz29.symm) (by first | exact trivial | exact ssh_vec | exact ⟨rfl, fun _ => trivial⟩) ?_
    refine y_call rfl (exc exp_alg (exc ex_vl (exc (ex_l1 zr29 rfl) exn))) (c_l08List1_no hT hf hv hz) ?_
    refine w_assign (by constructor) ?_
    exact hRR
  apply sr tokTB (by kernel_rfl)
  · intro RR hRR
    refine w_move (by constructor) ?_
    refine w_neq rfl rfl ?_
    exact hRR
  refine snd_cond_true rfl ?_
  apply sr tokTB (by kernel_rfl)
  · intro RR hRR
    refine w_bld_a kn29 zr29 und29 kn5 (fun _ => (by exact sz5.symm)) trivial rfl (by exact sz5.symm) ?_
    refine w_move (by constructor) ?_
    refine w_stw rfl (by constructor) kn29 rfl (by exact trivial) (by first | exact trivial | exact ssh_vec | exact ssh_alg | exact ssh_tab | exact ssh_mat | exact ⟨rfl, fun _ => trivial⟩ | exact ⟨rfl, fun _ => by rw [zr29]; exact ssh_vec⟩) (by exact sz29.symm) ?_
    refine w_assign (by constructor) ?_
    exact hRR
  refine snd_ret ?_
  show retQ TB _ _ _ _ _ _
  exact rt_ct (T := TB) rfl kn29 rfl sz29.symm ag29.symm (fun V => mt_vec (fun z _ => rfl)) (fun V => rfl)
theorem c_iApplyStar_ok {p : Int} {n : Nat} {T : Nat → Nat → Nat → Int} {fo : Nat → Int} (hv0 : VN p n T fo) {v : Nat → Int} (hv : VV p n v) {F : Nat → Nat → Int} (hF : ∀ i, B8 (F i)) (hl : ∀ i, i < n → smP p (n : Int) (F i)) (hs : starP p n T fo F) : ACalls Try.prog TB 53 [algA p (n : Int) T fo, vlA n F, vecA v] (.tup 2 (pairA (vecA (apF p F v n)) (.int .i64 0))) [] := by
  refine acalls_of tokTB Try.func53 rfl rfl (Nat.le_of_ble_eq_true rfl) ?_
  apply sr tokTB (by kernel_rfl)
  · intro RR hRR
    refine w_boxc (HV.eq (by constructor)) (by exact trivial) ?_
    refine w_boxc (HV.eq (by constructor)) (by exact trivial) ?_
    refine w_alloc kn29 rfl zr29 ?_
    refine w_assign (by constructor) ?_
    exact hRR
  refine snd_seq ?_
  apply sr tokTB (by kernel_rfl)
  · intro RR hRR
    refine w_ldc rfl kn31 (by constructor) (by exact sz31.symm) (by exact ag31.symm) ?_
    refine w_move (by constructor) ?_
    refine w_ldc rfl kn29 (by constructor) (by exact sz29.symm) (by exact ag29.symm) ?_
    refine w_bsl1 und52 kn29 (by rw [sz29]; rfl) rfl (by constructor) (by exact trivial) (by exact sz29.symm) (by first | exact trivial | exact ssh_vec | exact ⟨rfl, fun _ => trivial⟩) ?_
    refine y_call rfl (exc exp_alg (exc ex_vl (exc (ex_l1 zr29 rfl) exn))) (((if_pos (⟨rfl, hl⟩ : liP p (n : Int) n F) : (if liP p (n : Int) n F then (0 : Int) else 2) = 0) ▸ c_listed1_ok hv0 hv (by have := hv0.n6; omega) hF)) ?_
    refine w_assign (by constructor) ?_
    exact hRR
  apply sr tokTB (by kernel_rfl)
  · intro RR hRR
    refine w_move (by constructor) ?_
    refine w_neq rfl rfl ?_
    exact hRR
  refine snd_cond_false rfl ?_
  refine snd_skip ?_
  refine snd_seq ?_
  apply sr tokTB (by kernel_rfl)
  · intro RR hRR
    refine w_move (by constructor) ?_
    refine y_call rfl (ec (ec exn)) (c_isStar hv0 hF) ?_
    refine w_not rfl ?_
    exact hRR
  refine snd_cond_false (by exact not_t hs) ?_
  refine snd_skip ?_
  apply sr tokTB (by kernel_rfl)
  · intro RR hRR
    refine w_move (by constructor) ?_
    refine w_ldc rfl kn29 (by constructor) (by exact sz29.symm) (by exact ag29.symm) ?_
    refine y_call rfl (ec (ec (ec exn))) (c_starred hv0 hF (hv.B8 (by have := hv0.p0; omega))) ?_
    refine w_stw rfl (by constructor) kn29 rfl (by exact trivial) (by first | exact trivial | exact ssh_vec | exact ssh_alg | exact ssh_tab | exact ssh_mat | exact ⟨rfl, fun _ => trivial⟩ | exact ⟨rfl, fun _ => by rw [zr29]; exact ssh_vec⟩) (by exact sz29.symm) ?_
    refine w_assign (by constructor) ?_
    exact hRR
  refine snd_ret ?_
  show retQ TB _ _ _ _ _ _
  exact rt_ct (T := TB) rfl kn29 rfl sz29.symm ag29.symm (fun V => mt_vec (fun z _ => rfl)) (fun V => rfl)
theorem c_iApplyStar_ns {p : Int} {n : Nat} {T : Nat → Nat → Nat → Int} {fo : Nat → Int} (hv0 : VN p n T fo) {v : Nat → Int} (hv : VV p n v) {F : Nat → Nat → Int} (hF : ∀ i, B8 (F i)) (hl : ∀ i, i < n → smP p (n : Int) (F i)) (hs : ¬ starP p n T fo F) : ACalls Try.prog TB 53 [algA p (n : Int) T fo, vlA n F, vecA v] (.tup 2 (pairA (vecA (fun _ => 0)) (.int .i64 5))) [] := by
  refine acalls_of tokTB Try.func53 rfl rfl (Nat.le_of_ble_eq_true rfl) ?_
  apply sr tokTB (by kernel_rfl)
  · intro RR hRR
    refine w_boxc (HV.eq (by constructor)) (by exact trivial) ?_
    refine w_boxc (HV.eq (by constructor)) (by exact trivial) ?_
    refine w_alloc kn29 rfl zr29 ?_
    refine w_assign (by constructor) ?_
    exact hRR
  refine snd_seq ?_
  apply sr tokTB (by kernel_rfl)
  · intro RR hRR
    refine w_ldc rfl kn31 (by constructor) (by exact sz31.symm) (by exact ag31.symm) ?_
    refine w_move (by constructor) ?_
    refine w_ldc rfl kn29 (by constructor) (by exact sz29.symm) (by exact ag29.symm) ?_
    refine w_bsl1 und52 kn29 (by rw [sz29]; rfl) rfl (by constructor) (by exact trivial) (by exact sz29.symm) (by first | exact trivial | exact ssh_vec | exact ⟨rfl, fun _ => trivial⟩) ?_
    refine y_call rfl (exc exp_alg (exc ex_vl (exc (ex_l1 zr29 rfl) exn))) (((if_pos (⟨rfl, hl⟩ : liP p (n : Int) n F) : (if liP p (n : Int) n F then (0 : Int) else 2) = 0) ▸ c_listed1_ok hv0 hv (by have := hv0.n6; omega) hF)) ?_
    refine w_assign (by constructor) ?_
    exact hRR
  apply sr tokTB (by kernel_rfl)
  · intro RR hRR
    refine w_move (by constructor) ?_
    refine w_neq rfl rfl ?_
    exact hRR
  refine snd_cond_false rfl ?_
  refine snd_skip ?_
  refine snd_seq ?_
  apply sr tokTB (by kernel_rfl)
  · intro RR hRR
    refine w_move (by constructor) ?_
    refine y_call rfl (ec (ec exn)) (c_isStar hv0 hF) ?_
    refine w_not rfl ?_
    exact hRR
  refine snd_cond_true (by exact not_f hs) ?_
  apply sr tokTB (by kernel_rfl)
  · intro RR hRR
    refine w_bld_a kn29 zr29 und29 kn5 (fun _ => (by exact sz5.symm)) trivial rfl (by exact sz5.symm) ?_
    refine w_stw rfl (by constructor) kn29 rfl (by exact trivial) (by first | exact trivial | exact ssh_vec | exact ssh_alg | exact ssh_tab | exact ssh_mat | exact ⟨rfl, fun _ => trivial⟩ | exact ⟨rfl, fun _ => by rw [zr29]; exact ssh_vec⟩) (by exact sz29.symm) ?_
    refine w_assign (by constructor) ?_
    exact hRR
  refine snd_ret ?_
  show retQ TB _ _ _ _ _ _
  exact rt_ct (T := TB) rfl kn29 rfl sz29.symm ag29.symm (fun V => mt_vec (fun z _ => rfl)) (fun V => rfl)
theorem c_iApplyStar_nl {p : Int} {n : Nat} {T : Nat → Nat → Nat → Int} {fo : Nat → Int} (hv0 : VN p n T fo) {v : Nat → Int} (hv : VV p n v) {M : Nat} {F : Nat → Nat → Int} (hM : M ≤ 16777216) (hF : ∀ i, B8 (F i)) (hl : ¬ liP p (n : Int) M F) : ACalls Try.prog TB 53 [algA p (n : Int) T fo, vlA M F, vecA v] (.tup 2 (pairA (vecA (fun _ => 0)) (.int .i64 2))) [] := by
  refine acalls_of tokTB Try.func53 rfl rfl (Nat.le_of_ble_eq_true rfl) ?_
  apply sr tokTB (by kernel_rfl)
  · intro RR hRR
    refine w_boxc (HV.eq (by constructor)) (by exact trivial) ?_
    refine w_boxc (HV.eq (by constructor)) (by exact trivial) ?_
    refine w_alloc kn29 rfl zr29 ?_
    refine w_assign (by constructor) ?_
    exact hRR
  refine snd_seq ?_
  apply sr tokTB (by kernel_rfl)
  · intro RR hRR
    refine w_ldc rfl kn31 (by constructor) (by exact sz31.symm) (by exact ag31.symm) ?_
    refine w_move (by constructor) ?_
    refine w_ldc rfl kn29 (by constructor) (by exact sz29.symm) (by exact ag29.symm) ?_
    refine w_bsl1 und52 kn29 (by rw [sz29]; rfl) rfl (by constructor) (by exact trivial) (by exact sz29.symm) (by first | exact trivial | exact ssh_vec | exact ⟨rfl, fun _ => trivial⟩) ?_
    refine y_call rfl (exc exp_alg (exc ex_vl (exc (ex_l1 zr29 rfl) exn))) (((if_neg hl : (if liP p (n : Int) M F then (0 : Int) else 2) = 2) ▸ c_listed1_ok hv0 hv hM hF)) ?_
    refine w_assign (by constructor) ?_
    exact hRR
  apply sr tokTB (by kernel_rfl)
  · intro RR hRR
    refine w_move (by constructor) ?_
    refine w_neq rfl rfl ?_
    exact hRR
  refine snd_cond_true rfl ?_
  apply sr tokTB (by kernel_rfl)
  · intro RR hRR
    refine w_bld_a kn29 zr29 und29 kn5 (fun _ => (by exact sz5.symm)) trivial rfl (by exact sz5.symm) ?_
    refine w_move (by constructor) ?_
    refine w_stw rfl (by constructor) kn29 rfl (by exact trivial) (by first | exact trivial | exact ssh_vec | exact ssh_alg | exact ssh_tab | exact ssh_mat | exact ⟨rfl, fun _ => trivial⟩ | exact ⟨rfl, fun _ => by rw [zr29]; exact ssh_vec⟩) (by exact sz29.symm) ?_
    refine w_assign (by constructor) ?_
    exact hRR
  refine snd_ret ?_
  show retQ TB _ _ _ _ _ _
  exact rt_ct (T := TB) rfl kn29 rfl sz29.symm ag29.symm (fun V => mt_vec (fun z _ => rfl)) (fun V => rfl)
theorem c_iApplyStar_no {p n : Int} {T : Nat → Nat → Nat → Int} {fo : Nat → Int} (hT : RB T) (hf : RV fo) {v : Nat → Int} (hv : B8 v) (hz : ¬ VZ p n T fo 1 (vs1 v)) {M : Nat} {F : Nat → Nat → Int} : ACalls Try.prog TB 53 [algA p n T fo, vlA M F, vecA v] (.tup 2 (pairA (vecA (fun _ => 0)) (.int .i64 1))) [] := by
  refine acalls_of tokTB Try.func53 rfl rfl (Nat.le_of_ble_eq_true rfl) ?_
  apply sr tokTB (by kernel_rfl)
  · intro RR hRR
    refine w_boxc (HV.eq (by constructor)) (by exact trivial) ?_
    refine w_boxc (HV.eq (by constructor)) (by exact trivial) ?_
    refine w_alloc kn29 rfl zr29 ?_
    refine w_assign (by constructor) ?_
    exact hRR
  refine snd_seq ?_
  apply sr tokTB (by kernel_rfl)
  · intro RR hRR
    refine w_ldc rfl kn31 (by constructor) (by exact sz31.symm) (by exact ag31.symm) ?_
    refine w_move (by constructor) ?_
    refine w_ldc rfl kn29 (by constructor) (by exact sz29.symm) (by exact ag29.symm) ?_
    refine w_bsl1 und52 kn29 (by rw [sz29]; rfl) rfl (by constructor) (by exact trivial) (by exact sz29.symm) (by first | exact trivial | exact ssh_vec | exact ⟨rfl, fun _ => trivial⟩) ?_
    refine y_call rfl (exc exp_alg (exc ex_vl (exc (ex_l1 zr29 rfl) exn))) (c_listed1_no hT hf hv hz) ?_
    refine w_assign (by constructor) ?_
    exact hRR
  apply sr tokTB (by kernel_rfl)
  · intro RR hRR
    refine w_move (by constructor) ?_
    refine w_neq rfl rfl ?_
    exact hRR
  refine snd_cond_true rfl ?_
  apply sr tokTB (by kernel_rfl)
  · intro RR hRR
    refine w_bld_a kn29 zr29 und29 kn5 (fun _ => (by exact sz5.symm)) trivial rfl (by exact sz5.symm) ?_
    refine w_move (by constructor) ?_
    refine w_stw rfl (by constructor) kn29 rfl (by exact trivial) (by first | exact trivial | exact ssh_vec | exact ssh_alg | exact ssh_tab | exact ssh_mat | exact ⟨rfl, fun _ => trivial⟩ | exact ⟨rfl, fun _ => by rw [zr29]; exact ssh_vec⟩) (by exact sz29.symm) ?_
    refine w_assign (by constructor) ?_
    exact hRR
  refine snd_ret ?_
  show retQ TB _ _ _ _ _ _
  exact rt_ct (T := TB) rfl kn29 rfl sz29.symm ag29.symm (fun V => mt_vec (fun z _ => rfl)) (fun V => rfl)
theorem lApplyStar_big {p n : Int} {T : Nat → Nat → Nat → Int} {fo : Nat → Int} {v : Nat → Int} {M : Nat} {F : Nat → Nat → Int} (hM : 1048576 < M) (hM2 : M ≤ 9223372036854775807) : ACalls Try.prog TB 14 [algA p n T fo, vlA M F, vecA v] (.bool true) [] := by
  refine acalls_of tokTB Try.func14 rfl rfl (Nat.le_of_ble_eq_true rfl) ?_
  apply sr tokTB (by kernel_rfl)
  · intro RR hRR
    refine w_boxc (HV.eq (by constructor)) (by exact trivial) ?_
    refine w_boxc (HV.eq (by constructor)) (by exact trivial) ?_
    refine w_assign (by constructor) ?_
    exact hRR
  apply sr tokTB (by kernel_rfl)
  · intro RR hRR
    refine w_assign (by constructor) ?_
    exact hRR
  apply sr tokTB (by kernel_rfl)
  · intro RR hRR
    refine w_move (by constructor) ?_
    refine w_move (by constructor) ?_
    refine y_call rfl (exc ex_vl (exc (by exact rfl) exn)) (c_szVectorS_big (F := F) hM hM2) ?_
    refine w_assign (by constructor) ?_
    exact hRR
  refine snd_seq ?_
  apply sr tokTB (by kernel_rfl)
  · intro RR hRR
    refine w_move (by constructor) ?_
    refine w_lss rfl rfl ?_
    exact hRR
  refine snd_cond_true (by exact congrArg AV.bool (decide_eq_true (by omega))) ?_
  apply sr tokTB (by kernel_rfl)
  · intro RR hRR
    refine w_assign (by constructor) ?_
    exact hRR
  refine snd_ret ?_
  exact rt (T := TB) (fun V => rfl)
theorem lApplyStar_ok {p : Int} {n : Nat} {T : Nat → Nat → Nat → Int} {fo : Nat → Int} (hv0 : VN p n T fo) (hn6 : n ≤ 6) {v : Nat → Int} (hv : VV p n v) {F : Nat → Nat → Int} (hF : ∀ i, B8 (F i)) (hl : ∀ i, i < n → smP p (n : Int) (F i)) (hs : starP p n T fo F) : ACalls Try.prog TB 14 [algA p (n : Int) T fo, vlA n F, vecA v] (.bool true) [] := by
  refine acalls_of tokTB Try.func14 rfl rfl (Nat.le_of_ble_eq_true rfl) ?_
  apply sr tokTB (by kernel_rfl)
  · intro RR hRR
    refine w_boxc (HV.eq (by constructor)) (by exact trivial) ?_
    refine w_boxc (HV.eq (by constructor)) (by exact trivial) ?_
    refine w_assign (by constructor) ?_
    exact hRR
  apply sr tokTB (by kernel_rfl)
  · intro RR hRR
    refine w_assign (by constructor) ?_
    exact hRR
  apply sr tokTB (by kernel_rfl)
  · intro RR hRR
    refine w_move (by constructor) ?_
    refine w_move (by constructor) ?_
    refine y_call rfl (exc ex_vl (exc (by exact rfl) exn)) (c_szVectorS (F := F) (M := n) (by omega)) ?_
    refine w_assign (by constructor) ?_
    exact hRR
  refine snd_seq ?_
  apply sr tokTB (by kernel_rfl)
  · intro RR hRR
    refine w_move (by constructor) ?_
    refine w_lss rfl rfl ?_
    exact hRR
  refine snd_cond_false (by exact congrArg AV.bool (decide_eq_false (by omega))) ?_
  refine snd_skip ?_
  apply sd tokTB mixed (by kernel_rfl) (by kernel_rfl)
  · intro RR hRR
    refine w_ldc rfl kn26 (by constructor) (by exact sz26.symm) (by exact ag26.symm) ?_
    refine y_call rfl (ec exn) (c_toAlgebra) ?_
    refine w_move (by constructor) ?_
    refine w_call rfl (exc ex_vl exn) (c_toVectorS (F := F) (M := n) (by omega)) (.inl ⟨trivial, ⟨fun _ _ => trivial, trivial⟩⟩) rfl (by constructor) rfl ?_
    refine w_ldc rfl kn22 (by constructor) (by exact sz22.symm) (by exact ag22.symm) ?_
    refine y_call rfl (ec exn) (c_toVector) ?_
    refine y_call rfl rfl ((c_sApplyStar_ok hv0 hv hF hl hs).mt ⟨mt_expc closed_alg (by simp), mt_vl0 rfl, mt_expc (closed_vec (n := 6)) (by simp), trivial⟩) ?_
    refine w_move (by constructor) ?_
    refine w_ext rfl (by decide) (by constructor) ?_
    refine w_ext rfl (by decide) (by constructor) ?_
    refine w_alloc kn29 rfl zr29 ?_
    refine w_stw rfl (by constructor) kn29 rfl (by exact trivial) (by first | exact trivial | exact ssh_vec | exact ssh_alg | exact ssh_tab | exact ssh_mat | exact ⟨rfl, fun _ => trivial⟩ | exact ⟨rfl, fun _ => by rw [zr29]; exact ssh_vec⟩) (by exact sz29.symm) ?_
    refine w_assign (by constructor) ?_
    exact hRR
  apply sr tokTB (by kernel_rfl)
  · intro RR hRR
    refine w_move (by constructor) ?_
    refine w_call rfl (exc ex_vl exn) (c_toVectorS (F := F) (M := n) (by omega)) (.inl ⟨trivial, ⟨fun _ _ => trivial, trivial⟩⟩) rfl (by constructor) rfl ?_
    refine w_assign (by constructor) ?_
    exact hRR
  apply sd tokTB mixed (by kernel_rfl) (by kernel_rfl)
  · intro RR hRR
    refine w_ldc rfl kn26 (by constructor) (by exact sz26.symm) (by exact ag26.symm) ?_
    refine y_call rfl (ec exn) (c_toAlgebra) ?_
    refine w_move (by constructor) ?_
    refine w_ldc rfl kn22 (by constructor) (by exact sz22.symm) (by exact ag22.symm) ?_
    refine y_call rfl (ec exn) (c_toVector) ?_
    refine y_call rfl rfl ((c_iApplyStar_ok hv0 hv hF hl hs).mt ⟨mt_expc closed_alg (by simp), mt_vl0 rfl, mt_expc (closed_vec (n := 6)) (by simp), trivial⟩) ?_
    refine w_move (by constructor) ?_
    refine w_ext rfl (by decide) (by constructor) ?_
    refine w_ext rfl (by decide) (by constructor) ?_
    refine w_alloc kn29 rfl zr29 ?_
    refine w_stw rfl (by constructor) kn29 rfl (by exact trivial) (by first | exact trivial | exact ssh_vec | exact ssh_alg | exact ssh_tab | exact ssh_mat | exact ⟨rfl, fun _ => trivial⟩ | exact ⟨rfl, fun _ => by rw [zr29]; exact ssh_vec⟩) (by exact sz29.symm) ?_
    refine w_assign (by constructor) ?_
    exact hRR
  refine snd_seq ?_
  apply srG (env' := (47, .bool ((!(decide (eqN 6 (apF p F v n) (apF p F v n)))) || decide ((0 : Int) ≠ 0))) :: (46, .any) :: (45, .any) :: (44, .any) :: (43, _) :: (42, _) :: (41, _) :: (40, _) :: (39, _) :: _) tokTB (by kernel_rfl)
  · intro RR hRR
    refine w_ldp rfl kn29 rfl (by constructor) (by exact sz29.symm) (by exact ag29.symm) ?_
    refine w_ldp rfl kn29 rfl (by constructor) (by exact sz29.symm) (by exact ag29.symm) ?_
    refine y_call rfl (ec (ec exn)) (c_eqVector) ?_
    refine w_not rfl ?_
    refine w_move (by constructor) ?_
    refine w_g rfl rfl (fun hg4 => ?_) (fun hg4 => ?_)
    · skip
      refine w_move (by constructor) ?_
      refine w_g_on rfl rfl hg4 ?_
      refine w_move (by constructor) ?_
      refine w_g_on rfl rfl hg4 ?_
      refine w_neq rfl rfl ?_
      refine w_pick_0 rfl hg4 (by constructor) ?_
      try simp only [Int.toNat_natCast] at hg4
      exact hRR _ (EL.cons (.inr (by first | rfl | (simp only [hg4, els]; done) | (simp only [hg4, els]; rfl) | simp [hg4])) (EL.cons (.inl rfl) (EL.cons (.inl rfl) (EL.cons (.inl rfl) (EL.cons (.inr rfl) (EL.cons (.inr rfl) (EL.cons (.inr rfl) (EL.cons (.inr rfl) (EL.cons (.inr rfl) (EL.refl _))))))))))
    · have hg4 := eq_true_of_ne_false hg4
      refine w_g_off rfl rfl (by rw [hg4]; decide) ?_
      refine w_g_off rfl rfl (by rw [hg4]; decide) ?_
      refine w_pick_1 rfl hg4 (by constructor) ?_
      try simp only [Int.toNat_natCast] at hg4
      exact hRR _ (EL.cons (.inr (by first | rfl | (simp only [hg4, els]; done) | (simp only [hg4, els]; rfl) | simp [hg4])) (EL.cons (.inl rfl) (EL.cons (.inl rfl) (EL.cons (.inl rfl) (EL.cons (.inr rfl) (EL.cons (.inr rfl) (EL.cons (.inr rfl) (EL.cons (.inr rfl) (EL.cons (.inr rfl) (EL.refl _))))))))))
  refine snd_cond _ rfl (fun hc47 => ?_) (fun hc47 => ?_)
  · skip
    exact absurd hc47 (by simp [eqN])
  · skip
    refine snd_skip ?_
    refine snd_seq ?_
    apply sr tokTB (by kernel_rfl)
    · intro RR hRR
      refine w_move (by constructor) ?_
      refine w_move (by constructor) ?_
      refine w_call rfl (exc ex_vl exn) (c_toVectorS (F := F) (M := n) (by omega)) (.inl ⟨trivial, ⟨fun _ _ => trivial, trivial⟩⟩) rfl (by constructor) rfl ?_
      refine y_call rfl rfl ((c_eqVectorS (N := n) (R := F) (S := F) (by omega) (fun i _ j _ => rfl)).mt ⟨mt_vl0 rfl, mt_vl0 rfl, trivial⟩) ?_
      refine w_not rfl ?_
      exact hRR
    refine snd_cond_false (by exact rfl) ?_
    refine snd_skip ?_
    apply sr tokTB (by kernel_rfl)
    · intro RR hRR
      refine w_assign (by constructor) ?_
      exact hRR
    refine snd_ret ?_
    exact rt (T := TB) (fun V => rfl)
theorem lApplyStar_ns {p : Int} {n : Nat} {T : Nat → Nat → Nat → Int} {fo : Nat → Int} (hv0 : VN p n T fo) (hn6 : n ≤ 6) {v : Nat → Int} (hv : VV p n v) {F : Nat → Nat → Int} (hF : ∀ i, B8 (F i)) (hl : ∀ i, i < n → smP p (n : Int) (F i)) (hs : ¬ starP p n T fo F) : ACalls Try.prog TB 14 [algA p (n : Int) T fo, vlA n F, vecA v] (.bool true) [] := by
  refine acalls_of tokTB Try.func14 rfl rfl (Nat.le_of_ble_eq_true rfl) ?_
  apply sr tokTB (by kernel_rfl)
  · intro RR hRR
    refine w_boxc (HV.eq (by constructor)) (by exact trivial) ?_
    refine w_boxc (HV.eq (by constructor)) (by exact trivial) ?_
    refine w_assign (by constructor) ?_
    exact hRR
  apply sr tokTB (by kernel_rfl)
  · intro RR hRR
    refine w_assign (by constructor) ?_
    exact hRR
  apply sr tokTB (by kernel_rfl)
  · intro RR hRR
    refine w_move (by constructor) ?_
    refine w_move (by constructor) ?_
    refine y_call rfl (exc ex_vl (exc (by exact rfl) exn)) (c_szVectorS (F := F) (M := n) (by omega)) ?_
    refine w_assign (by constructor) ?_
    exact hRR
  refine snd_seq ?_
  apply sr tokTB (by kernel_rfl)
  · intro RR hRR
    refine w_move (by constructor) ?_
    refine w_lss rfl rfl ?_
    exact hRR
  refine snd_cond_false (by exact congrArg AV.bool (decide_eq_false (by omega))) ?_
  refine snd_skip ?_
  apply sd tokTB mixed (by kernel_rfl) (by kernel_rfl)
  · intro RR hRR
    refine w_ldc rfl kn26 (by constructor) (by exact sz26.symm) (by exact ag26.symm) ?_
    refine y_call rfl (ec exn) (c_toAlgebra) ?_
    refine w_move (by constructor) ?_
    refine w_call rfl (exc ex_vl exn) (c_toVectorS (F := F) (M := n) (by omega)) (.inl ⟨trivial, ⟨fun _ _ => trivial, trivial⟩⟩) rfl (by constructor) rfl ?_
    refine w_ldc rfl kn22 (by constructor) (by exact sz22.symm) (by exact ag22.symm) ?_
    refine y_call rfl (ec exn) (c_toVector) ?_
    refine y_call rfl rfl ((c_sApplyStar_ns hv0 hv hF hl hs).mt ⟨mt_expc closed_alg (by simp), mt_vl0 rfl, mt_expc (closed_vec (n := 6)) (by simp), trivial⟩) ?_
    refine w_move (by constructor) ?_
    refine w_ext rfl (by decide) (by constructor) ?_
    refine w_ext rfl (by decide) (by constructor) ?_
    refine w_alloc kn29 rfl zr29 ?_
    refine w_stw rfl (by constructor) kn29 rfl (by exact trivial) (by first | exact trivial | exact ssh_vec | exact ssh_alg | exact ssh_tab | exact ssh_mat | exact ⟨rfl, fun _ => trivial⟩ | exact ⟨rfl, fun _ => by rw [zr29]; exact ssh_vec⟩) (by exact sz29.symm) ?_
    refine w_assign (by constructor) ?_
    exact hRR
  apply sr tokTB (by kernel_rfl)
  · intro RR hRR
    refine w_move (by constructor) ?_
    refine w_call rfl (exc ex_vl exn) (c_toVectorS (F := F) (M := n) (by omega)) (.inl ⟨trivial, ⟨fun _ _ => trivial, trivial⟩⟩) rfl (by constructor) rfl ?_
    refine w_assign (by constructor) ?_
    exact hRR
  apply sd tokTB mixed (by kernel_rfl) (by kernel_rfl)
  · intro RR hRR
    refine w_ldc rfl kn26 (by constructor) (by exact sz26.symm) (by exact ag26.symm) ?_
    refine y_call rfl (ec exn) (c_toAlgebra) ?_
    refine w_move (by constructor) ?_
    refine w_ldc rfl kn22 (by constructor) (by exact sz22.symm) (by exact ag22.symm) ?_
    refine y_call rfl (ec exn) (c_toVector) ?_
    refine y_call rfl rfl ((c_iApplyStar_ns hv0 hv hF hl hs).mt ⟨mt_expc closed_alg (by simp), mt_vl0 rfl, mt_expc (closed_vec (n := 6)) (by simp), trivial⟩) ?_
    refine w_move (by constructor) ?_
    refine w_ext rfl (by decide) (by constructor) ?_
    refine w_ext rfl (by decide) (by constructor) ?_
    refine w_alloc kn29 rfl zr29 ?_
    refine w_stw rfl (by constructor) kn29 rfl (by exact trivial) (by first | exact trivial | exact ssh_vec | exact ssh_alg | exact ssh_tab | exact ssh_mat | exact ⟨rfl, fun _ => trivial⟩ | exact ⟨rfl, fun _ => by rw [zr29]; exact ssh_vec⟩) (by exact sz29.symm) ?_
    refine w_assign (by constructor) ?_
    exact hRR
  refine snd_seq ?_
  apply srG (env' := (47, .bool ((!(decide (eqN 6 (fun _ => 0) (fun _ => 0)))) || decide ((5 : Int) ≠ 5))) :: (46, .any) :: (45, .any) :: (44, .any) :: (43, _) :: (42, _) :: (41, _) :: (40, _) :: (39, _) :: _) tokTB (by kernel_rfl)
  · intro RR hRR
    refine w_ldp rfl kn29 rfl (by constructor) (by exact sz29.symm) (by exact ag29.symm) ?_
    refine w_ldp rfl kn29 rfl (by constructor) (by exact sz29.symm) (by exact ag29.symm) ?_
    refine y_call rfl (ec (ec exn)) (c_eqVector) ?_
    refine w_not rfl ?_
    refine w_move (by constructor) ?_
    refine w_g rfl rfl (fun hg4 => ?_) (fun hg4 => ?_)
    · skip
      refine w_move (by constructor) ?_
      refine w_g_on rfl rfl hg4 ?_
      refine w_move (by constructor) ?_
      refine w_g_on rfl rfl hg4 ?_
      refine w_neq rfl rfl ?_
      refine w_pick_0 rfl hg4 (by constructor) ?_
      try simp only [Int.toNat_natCast] at hg4
      exact hRR _ (EL.cons (.inr (by first | rfl | (simp only [hg4, els]; done) | (simp only [hg4, els]; rfl) | simp [hg4])) (EL.cons (.inl rfl) (EL.cons (.inl rfl) (EL.cons (.inl rfl) (EL.cons (.inr rfl) (EL.cons (.inr rfl) (EL.cons (.inr rfl) (EL.cons (.inr rfl) (EL.cons (.inr rfl) (EL.refl _))))))))))
    · have hg4 := eq_true_of_ne_false hg4
      refine w_g_off rfl rfl (by rw [hg4]; decide) ?_
      refine w_g_off rfl rfl (by rw [hg4]; decide) ?_
      refine w_pick_1 rfl hg4 (by constructor) ?_
      try simp only [Int.toNat_natCast] at hg4
      exact hRR _ (EL.cons (.inr (by first | rfl | (simp only [hg4, els]; done) | (simp only [hg4, els]; rfl) | simp [hg4])) (EL.cons (.inl rfl) (EL.cons (.inl rfl) (EL.cons (.inl rfl) (EL.cons (.inr rfl) (EL.cons (.inr rfl) (EL.cons (.inr rfl) (EL.cons (.inr rfl) (EL.cons (.inr rfl) (EL.refl _))))))))))
  refine snd_cond _ rfl (fun hc47 => ?_) (fun hc47 => ?_)
  · skip
    exact absurd hc47 (by simp [eqN])
  · skip
    refine snd_skip ?_
    refine snd_seq ?_
    apply sr tokTB (by kernel_rfl)
    · intro RR hRR
      refine w_move (by constructor) ?_
      refine w_move (by constructor) ?_
      refine w_call rfl (exc ex_vl exn) (c_toVectorS (F := F) (M := n) (by omega)) (.inl ⟨trivial, ⟨fun _ _ => trivial, trivial⟩⟩) rfl (by constructor) rfl ?_
      refine y_call rfl rfl ((c_eqVectorS (N := n) (R := F) (S := F) (by omega) (fun i _ j _ => rfl)).mt ⟨mt_vl0 rfl, mt_vl0 rfl, trivial⟩) ?_
      refine w_not rfl ?_
      exact hRR
    refine snd_cond_false (by exact rfl) ?_
    refine snd_skip ?_
    apply sr tokTB (by kernel_rfl)
    · intro RR hRR
      refine w_assign (by constructor) ?_
      exact hRR
    refine snd_ret ?_
    exact rt (T := TB) (fun V => rfl)
theorem lApplyStar_nl {p : Int} {n : Nat} {T : Nat → Nat → Nat → Int} {fo : Nat → Int} (hv0 : VN p n T fo) {v : Nat → Int} (hv : VV p n v) {M : Nat} {F : Nat → Nat → Int} (hM : M ≤ 1048576) (hF : ∀ i, B8 (F i)) (hl : ¬ liP p (n : Int) M F) : ACalls Try.prog TB 14 [algA p (n : Int) T fo, vlA M F, vecA v] (.bool true) [] := by
  refine acalls_of tokTB Try.func14 rfl rfl (Nat.le_of_ble_eq_true rfl) ?_
  apply sr tokTB (by kernel_rfl)
  · intro RR hRR
    refine w_boxc (HV.eq (by constructor)) (by exact trivial) ?_
    refine w_boxc (HV.eq (by constructor)) (by exact trivial) ?_
    refine w_assign (by constructor) ?_
    exact hRR
  apply sr tokTB (by kernel_rfl)
  · intro RR hRR
    refine w_assign (by constructor) ?_
    exact hRR
  apply sr tokTB (by kernel_rfl)
  · intro RR hRR
    refine w_move (by constructor) ?_
    refine w_move (by constructor) ?_
    refine y_call rfl (exc ex_vl (exc (by exact rfl) exn)) (c_szVectorS (F := F) (M := M) (by omega)) ?_
    refine w_assign (by constructor) ?_
    exact hRR
  refine snd_seq ?_
  apply sr tokTB (by kernel_rfl)
  · intro RR hRR
    refine w_move (by constructor) ?_
    refine w_lss rfl rfl ?_
    exact hRR
  refine snd_cond_false (by exact congrArg AV.bool (decide_eq_false (by omega))) ?_
  refine snd_skip ?_
  apply sd tokTB mixed (by kernel_rfl) (by kernel_rfl)
  · intro RR hRR
    refine w_ldc rfl kn26 (by constructor) (by exact sz26.symm) (by exact ag26.symm) ?_
    refine y_call rfl (ec exn) (c_toAlgebra) ?_
    refine w_move (by constructor) ?_
    refine w_call rfl (exc ex_vl exn) (c_toVectorS (F := F) (M := M) (by omega)) (.inl ⟨trivial, ⟨fun _ _ => trivial, trivial⟩⟩) rfl (by constructor) rfl ?_
    refine w_ldc rfl kn22 (by constructor) (by exact sz22.symm) (by exact ag22.symm) ?_
    refine y_call rfl (ec exn) (c_toVector) ?_
    refine y_call rfl rfl ((c_sApplyStar_nl hv0 hv (by omega) hF hl).mt ⟨mt_expc closed_alg (by simp), mt_vl0 rfl, mt_expc (closed_vec (n := 6)) (by simp), trivial⟩) ?_
    refine w_move (by constructor) ?_
    refine w_ext rfl (by decide) (by constructor) ?_
    refine w_ext rfl (by decide) (by constructor) ?_
    refine w_alloc kn29 rfl zr29 ?_
    refine w_stw rfl (by constructor) kn29 rfl (by exact trivial) (by first | exact trivial | exact ssh_vec | exact ssh_alg | exact ssh_tab | exact ssh_mat | exact ⟨rfl, fun _ => trivial⟩ | exact ⟨rfl, fun _ => by rw [zr29]; exact ssh_vec⟩) (by exact sz29.symm) ?_
    refine w_assign (by constructor) ?_
    exact hRR
  apply sr tokTB (by kernel_rfl)
  · intro RR hRR
    refine w_move (by constructor) ?_
    refine w_call rfl (exc ex_vl exn) (c_toVectorS (F := F) (M := M) (by omega)) (.inl ⟨trivial, ⟨fun _ _ => trivial, trivial⟩⟩) rfl (by constructor) rfl ?_
    refine w_assign (by constructor) ?_
    exact hRR
  apply sd tokTB mixed (by kernel_rfl) (by kernel_rfl)
  · intro RR hRR
    refine w_ldc rfl kn26 (by constructor) (by exact sz26.symm) (by exact ag26.symm) ?_
    refine y_call rfl (ec exn) (c_toAlgebra) ?_
    refine w_move (by constructor) ?_
    refine w_ldc rfl kn22 (by constructor) (by exact sz22.symm) (by exact ag22.symm) ?_
    refine y_call rfl (ec exn) (c_toVector) ?_
    refine y_call rfl rfl ((c_iApplyStar_nl hv0 hv (by omega) hF hl).mt ⟨mt_expc closed_alg (by simp), mt_vl0 rfl, mt_expc (closed_vec (n := 6)) (by simp), trivial⟩) ?_
    refine w_move (by constructor) ?_
    refine w_ext rfl (by decide) (by constructor) ?_
    refine w_ext rfl (by decide) (by constructor) ?_
    refine w_alloc kn29 rfl zr29 ?_
    refine w_stw rfl (by constructor) kn29 rfl (by exact trivial) (by first | exact trivial | exact ssh_vec | exact ssh_alg | exact ssh_tab | exact ssh_mat | exact ⟨rfl, fun _ => trivial⟩ | exact ⟨rfl, fun _ => by rw [zr29]; exact ssh_vec⟩) (by exact sz29.symm) ?_
    refine w_assign (by constructor) ?_
    exact hRR
  refine snd_seq ?_
  apply srG (env' := (47, .bool ((!(decide (eqN 6 (fun _ => 0) (fun _ => 0)))) || decide ((2 : Int) ≠ 2))) :: (46, .any) :: (45, .any) :: (44, .any) :: (43, _) :: (42, _) :: (41, _) :: (40, _) :: (39, _) :: _) tokTB (by kernel_rfl)
  · intro RR hRR
    refine w_ldp rfl kn29 rfl (by constructor) (by exact sz29.symm) (by exact ag29.symm) ?_
    refine w_ldp rfl kn29 rfl (by constructor) (by exact sz29.symm) (by exact ag29.symm) ?_
    refine y_call rfl (ec (ec exn)) (c_eqVector) ?_
    refine w_not rfl ?_
    refine w_move (by constructor) ?_
    refine w_g rfl rfl (fun hg4 => ?_) (fun hg4 => ?_)
    · skip
      refine w_move (by constructor) ?_
      refine w_g_on rfl rfl hg4 ?_
      refine w_move (by constructor) ?_
      refine w_g_on rfl rfl hg4 ?_
      refine w_neq rfl rfl ?_
      refine w_pick_0 rfl hg4 (by constructor) ?_
      try simp only [Int.toNat_natCast] at hg4
      exact hRR _ (EL.cons (.inr (by first | rfl | (simp only [hg4, els]; done) | (simp only [hg4, els]; rfl) | simp [hg4])) (EL.cons (.inl rfl) (EL.cons (.inl rfl) (EL.cons (.inl rfl) (EL.cons (.inr rfl) (EL.cons (.inr rfl) (EL.cons (.inr rfl) (EL.cons (.inr rfl) (EL.cons (.inr rfl) (EL.refl _))))))))))
    · have hg4 := eq_true_of_ne_false hg4
      refine w_g_off rfl rfl (by rw [hg4]; decide) ?_
      refine w_g_off rfl rfl (by rw [hg4]; decide) ?_
      refine w_pick_1 rfl hg4 (by constructor) ?_
      try simp only [Int.toNat_natCast] at hg4
      exact hRR _ (EL.cons (.inr (by first | rfl | (simp only [hg4, els]; done) | (simp only [hg4, els]; rfl) | simp [hg4])) (EL.cons (.inl rfl) (EL.cons (.inl rfl) (EL.cons (.inl rfl) (EL.cons (.inr rfl) (EL.cons (.inr rfl) (EL.cons (.inr rfl) (EL.cons (.inr rfl) (EL.cons (.inr rfl) (EL.refl _))))))))))
  refine snd_cond _ rfl (fun hc47 => ?_) (fun hc47 => ?_)
  · skip
    exact absurd hc47 (by simp [eqN])
  · skip
    refine snd_skip ?_
    refine snd_seq ?_
    apply sr tokTB (by kernel_rfl)
    · intro RR hRR
      refine w_move (by constructor) ?_
      refine w_move (by constructor) ?_
      refine w_call rfl (exc ex_vl exn) (c_toVectorS (F := F) (M := M) (by omega)) (.inl ⟨trivial, ⟨fun _ _ => trivial, trivial⟩⟩) rfl (by constructor) rfl ?_
      refine y_call rfl rfl ((c_eqVectorS (N := M) (R := F) (S := F) (by omega) (fun i _ j _ => rfl)).mt ⟨mt_vl0 rfl, mt_vl0 rfl, trivial⟩) ?_
      refine w_not rfl ?_
      exact hRR
    refine snd_cond_false (by exact rfl) ?_
    refine snd_skip ?_
    apply sr tokTB (by kernel_rfl)
    · intro RR hRR
      refine w_assign (by constructor) ?_
      exact hRR
    refine snd_ret ?_
    exact rt (T := TB) (fun V => rfl)
theorem lApplyStar_no {p n : Int} {T : Nat → Nat → Nat → Int} {fo : Nat → Int} (hT : RB T) (hf : RV fo) {v : Nat → Int} (hv : B8 v) (hz : ¬ VZ p n T fo 1 (vs1 v)) {M : Nat} {F : Nat → Nat → Int} (hM : M ≤ 1048576) : ACalls Try.prog TB 14 [algA p n T fo, vlA M F, vecA v] (.bool true) [] := by
  refine acalls_of tokTB Try.func14 rfl rfl (Nat.le_of_ble_eq_true rfl) ?_
  apply sr tokTB (by kernel_rfl)
  · intro RR hRR
    refine w_boxc (HV.eq (by constructor)) (by exact trivial) ?_
    refine w_boxc (HV.eq (by constructor)) (by exact trivial) ?_
    refine w_assign (by constructor) ?_
    exact hRR
  apply sr tokTB (by kernel_rfl)
  · intro RR hRR
    refine w_assign (by constructor) ?_
    exact hRR
  apply sr tokTB (by kernel_rfl)
  · intro RR hRR
    refine w_move (by constructor) ?_
    refine w_move (by constructor) ?_
    refine y_call rfl (exc ex_vl (exc (by exact rfl) exn)) (c_szVectorS (F := F) (M := M) (by omega)) ?_
    refine w_assign (by constructor) ?_
    exact hRR
  refine snd_seq ?_
  apply sr tokTB (by kernel_rfl)
  · intro RR hRR
    refine w_move (by constructor) ?_
    refine w_lss rfl rfl ?_
    exact hRR
  refine snd_cond_false (by exact congrArg AV.bool (decide_eq_false (by omega))) ?_
  refine snd_skip ?_
  apply sd tokTB mixed (by kernel_rfl) (by kernel_rfl)
  · intro RR hRR
    refine w_ldc rfl kn26 (by constructor) (by exact sz26.symm) (by exact ag26.symm) ?_
    refine y_call rfl (ec exn) (c_toAlgebra) ?_
    refine w_move (by constructor) ?_
    refine w_call rfl (exc ex_vl exn) (c_toVectorS (F := F) (M := M) (by omega)) (.inl ⟨trivial, ⟨fun _ _ => trivial, trivial⟩⟩) rfl (by constructor) rfl ?_
    refine w_ldc rfl kn22 (by constructor) (by exact sz22.symm) (by exact ag22.symm) ?_
    refine y_call rfl (ec exn) (c_toVector) ?_
    refine y_call rfl rfl ((c_sApplyStar_no (F := F) (M := M) hT hf hv hz).mt ⟨mt_expc closed_alg (by simp), mt_vl0 rfl, mt_expc (closed_vec (n := 6)) (by simp), trivial⟩) ?_
    refine w_move (by constructor) ?_
    refine w_ext rfl (by decide) (by constructor) ?_
    refine w_ext rfl (by decide) (by constructor) ?_
    refine w_alloc kn29 rfl zr29 ?_
    refine w_stw rfl (by constructor) kn29 rfl (by exact trivial) (by first | exact trivial | exact ssh_vec | exact ssh_alg | exact ssh_tab | exact ssh_mat | exact ⟨rfl, fun _ => trivial⟩ | exact ⟨rfl, fun _ => by rw [zr29]; exact ssh_vec⟩) (by exact sz29.symm) ?_
    refine w_assign (by constructor) ?_
    exact hRR
  apply sr tokTB (by kernel_rfl)
  · intro RR hRR
    refine w_move (by constructor) ?_
    refine w_call rfl (exc ex_vl exn) (c_toVectorS (F := F) (M := M) (by omega)) (.inl ⟨trivial, ⟨fun _ _ => trivial, trivial⟩⟩) rfl (by constructor) rfl ?_
    refine w_assign (by constructor) ?_
    exact hRR
  apply sd tokTB mixed (by kernel_rfl) (by kernel_rfl)
  · intro RR hRR
    refine w_ldc rfl kn26 (by constructor) (by exact sz26.symm) (by exact ag26.symm) ?_
    refine y_call rfl (ec exn) (c_toAlgebra) ?_
    refine w_move (by constructor) ?_
    refine w_ldc rfl kn22 (by constructor) (by exact sz22.symm) (by exact ag22.symm) ?_
    refine y_call rfl (ec exn) (c_toVector) ?_
    refine y_call rfl rfl ((c_iApplyStar_no (F := F) (M := M) hT hf hv hz).mt ⟨mt_expc closed_alg (by simp), mt_vl0 rfl, mt_expc (closed_vec (n := 6)) (by simp), trivial⟩) ?_
    refine w_move (by constructor) ?_
    refine w_ext rfl (by decide) (by constructor) ?_
    refine w_ext rfl (by decide) (by constructor) ?_
    refine w_alloc kn29 rfl zr29 ?_
    refine w_stw rfl (by constructor) kn29 rfl (by exact trivial) (by first | exact trivial | exact ssh_vec | exact ssh_alg | exact ssh_tab | exact ssh_mat | exact ⟨rfl, fun _ => trivial⟩ | exact ⟨rfl, fun _ => by rw [zr29]; exact ssh_vec⟩) (by exact sz29.symm) ?_
    refine w_assign (by constructor) ?_
    exact hRR
  refine snd_seq ?_
  apply srG (env' := (47, .bool ((!(decide (eqN 6 (fun _ => 0) (fun _ => 0)))) || decide ((1 : Int) ≠ 1))) :: (46, .any) :: (45, .any) :: (44, .any) :: (43, _) :: (42, _) :: (41, _) :: (40, _) :: (39, _) :: _) tokTB (by kernel_rfl)
  · intro RR hRR
    refine w_ldp rfl kn29 rfl (by constructor) (by exact sz29.symm) (by exact ag29.symm) ?_
    refine w_ldp rfl kn29 rfl (by constructor) (by exact sz29.symm) (by exact ag29.symm) ?_
    refine y_call rfl (ec (ec exn)) (c_eqVector) ?_
    refine w_not rfl ?_
    refine w_move (by constructor) ?_
    refine w_g rfl rfl (fun hg4 => ?_) (fun hg4 => ?_)
    · skip
      refine w_move (by constructor) ?_
      refine w_g_on rfl rfl hg4 ?_
      refine w_move (by constructor) ?_
      refine w_g_on rfl rfl hg4 ?_
      refine w_neq rfl rfl ?_
      refine w_pick_0 rfl hg4 (by constructor) ?_
      try simp only [Int.toNat_natCast] at hg4
      exact hRR _ (EL.cons (.inr (by first | rfl | (simp only [hg4, els]; done) | (simp only [hg4, els]; rfl) | simp [hg4])) (EL.cons (.inl rfl) (EL.cons (.inl rfl) (EL.cons (.inl rfl) (EL.cons (.inr rfl) (EL.cons (.inr rfl) (EL.cons (.inr rfl) (EL.cons (.inr rfl) (EL.cons (.inr rfl) (EL.refl _))))))))))
    · have hg4 := eq_true_of_ne_false hg4
      refine w_g_off rfl rfl (by rw [hg4]; decide) ?_
      refine w_g_off rfl rfl (by rw [hg4]; decide) ?_
      refine w_pick_1 rfl hg4 (by constructor) ?_
      try simp only [Int.toNat_natCast] at hg4
      exact hRR _ (EL.cons (.inr (by first | rfl | (simp only [hg4, els]; done) | (simp only [hg4, els]; rfl) | simp [hg4])) (EL.cons (.inl rfl) (EL.cons (.inl rfl) (EL.cons (.inl rfl) (EL.cons (.inr rfl) (EL.cons (.inr rfl) (EL.cons (.inr rfl) (EL.cons (.inr rfl) (EL.cons (.inr rfl) (EL.refl _))))))))))
  refine snd_cond _ rfl (fun hc47 => ?_) (fun hc47 => ?_)
  · skip
    exact absurd hc47 (by simp [eqN])
  · skip
    refine snd_skip ?_
    refine snd_seq ?_
    apply sr tokTB (by kernel_rfl)
    · intro RR hRR
      refine w_move (by constructor) ?_
      refine w_move (by constructor) ?_
      refine w_call rfl (exc ex_vl exn) (c_toVectorS (F := F) (M := M) (by omega)) (.inl ⟨trivial, ⟨fun _ _ => trivial, trivial⟩⟩) rfl (by constructor) rfl ?_
      refine y_call rfl rfl ((c_eqVectorS (N := M) (R := F) (S := F) (by omega) (fun i _ j _ => rfl)).mt ⟨mt_vl0 rfl, mt_vl0 rfl, trivial⟩) ?_
      refine w_not rfl ?_
      exact hRR
    refine snd_cond_false (by exact rfl) ?_
    refine snd_skip ?_
    apply sr tokTB (by kernel_rfl)
    · intro RR hRR
      refine w_assign (by constructor) ?_
      exact hRR
    refine snd_ret ?_
    exact rt (T := TB) (fun V => rfl)
theorem law_ApplyStar {p n : Int} {T : Nat → Nat → Nat → Int} {fo : Nat → Int} {v : Nat → Int} (hT : RB T) (hf : RV fo) {M : Nat} {F : Nat → Nat → Int} (hM0 : M ≤ maxLen) (hF : ∀ i, RV (F i)) (hv : RV v) : ACalls Try.prog TB 14 [algA p n T fo, vlA M F, vecA v] (.bool true) [] := by
  rcases Nat.lt_or_ge 1048576 M with hM | hM
  · exact lApplyStar_big hM hM0
  by_cases hz : VZ p n T fo 1 (vs1 v)
  · obtain ⟨h1, h2⟩ := VZ_1.1 hz
    obtain ⟨hv0, hn⟩ := VN_of hT hf h1
    obtain ⟨m, rfl⟩ : ∃ m : Nat, n = (m : Int) := ⟨n.toNat, hn⟩
    have hv0 : VN p m T fo := hv0
    have hp0 : 0 < p := by have := hv0.p0; omega
    have hvv := VV_of hp0 hv0.n6 hv h2
    by_cases hl : liP p (m : Int) M F
    · obtain rfl : M = m := by have := hl.1; omega
      by_cases hs : starP p M T fo F
      · exact lApplyStar_ok hv0 hv0.n6 hvv (fun i => (hF i).b) hl.2 hs
      · exact lApplyStar_ns hv0 hv0.n6 hvv (fun i => (hF i).b) hl.2 hs
    · exact lApplyStar_nl hv0 hvv hM (fun i => (hF i).b) hl
  · exact lApplyStar_no hT hf hv.b hz hM
end Go.Am

