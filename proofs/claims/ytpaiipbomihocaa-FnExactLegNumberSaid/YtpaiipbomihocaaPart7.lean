/- Part 7 of what the law stands on: abstract values, their walk, contracts of functions. My own work. Conditions: none. -/
import Derived.Test.YtpaiipbomihocaaPart6
set_option linter.unusedVariables false
set_option linter.unusedSimpArgs false
set_option maxRecDepth 4000
namespace Go.Am
attribute [local irreducible] retQ retQp
open Go.Proofs
theorem c_powerB {p : Int} {n : Nat} {T : Nat → Nat → Nat → Int} {fo : Nat → Int} (hv0 : VN p n T fo) {v : Nat → Int} (hv : B8 v) {k : Nat} (hk : k ≤ 1000000) : ACalls Try.prog TB 71 [.cptr (algA p (n : Int) T fo), vecA v, .int .i64 (k : Int)] (vecA (powV p n T (uF p n T) v k)) [] := by
  have hp8 := hv0.p0
  refine acalls_of tokTB Try.func71 rfl rfl (Nat.le_of_ble_eq_true rfl) ?_
  apply sr tokTB (by kernel_rfl)
  · intro RR hRR
    refine w_boxc (HV.eq (by constructor)) (by exact trivial) ?_
    refine w_alloc kn32 rfl zr32 ?_
    exact hRR
  apply sr tokTB (by kernel_rfl)
  · intro RR hRR
    refine w_move (by constructor) ?_
    refine y_call rfl (ec exn) (c_unit hv0) ?_
    refine w_alloc kn32 rfl zr32 ?_
    refine w_stw rfl (by constructor) kn32 rfl (by exact trivial) (by first | exact trivial | exact ssh_vec | exact ssh_alg | exact ssh_pr | exact ssh_tab | exact ssh_mat | exact ⟨rfl, fun _ => trivial⟩ | exact ⟨rfl, fun _ => by rw [zr32]; exact ssh_vec⟩) (by exact sz32.symm) ?_
    exact hRR
  refine snd_seq ?_
  apply sr tokTB (by kernel_rfl)
  · intro RR hRR
    refine w_move (by constructor) ?_
    refine w_move (by constructor) ?_
    exact hRR
  refine snd_block ?_
  refine snd_loop (S := Nat) (fun i => ([(0, .cptr (algA p (n : Int) T fo)), (4, .cptr (vecA v)), (6, .ptr 6 0 [] 0 (vecA (fun _ => 0))), (7, .ptr 7 0 [] 0 (vecA (fun _ => 0))), (10, .int .i64 (k : Int)), (11, .int .i64 (i : Int))], [(6, .one (vecA (fun _ => 0)) (vecA (fun _ => 0))), (7, .one (vecA (fun _ => 0)) (vecA (powV p n T (uF p n T) v i)))])) (fun i => i ≤ k) (fun i => k - i) (0) ρ0 ?_ ?_ ?_
  · exact ⟨⟨m_calg, (m_cvec (fun _ _ => rfl)), ⟨rfl, rfl, rfl, rfl, rfl⟩, ⟨rfl, rfl, rfl, rfl, rfl⟩, (by first | exact m_int rfl | exact m_int (by omega) | exact m_int (by simp; done) | (exact m_int (by simp; omega))), (by first | exact m_int rfl | exact m_int (by omega) | exact m_int (by simp; done) | (exact m_int (by simp; omega))), trivial⟩, ⟨⟨rfl, (by first | exact trivial | exact ssh_vec | exact ssh_alg | exact ssh_pr | exact ssh_tab | exact ssh_mat | exact ⟨rfl, fun _ => trivial⟩ | exact ⟨rfl, fun _ => by rw [zr32]; exact ssh_vec⟩), (by first | exact mt_vec (fun _ _ => rfl) | exact mt_mat (fun _ _ _ _ => rfl) | exact mt_tab (fun _ _ _ _ _ _ => rfl) | exact mt_arr0 | exact mt_app (fun _ _ => rfl) rfl | exact ⟨rfl, fun _ _ => mt_row (fun _ _ => rfl)⟩ | exact Mt_closed (V := _) closed_alg (fun _ _ _ => trivial) (by simp))⟩, ⟨rfl, (by first | exact trivial | exact ssh_vec | exact ssh_alg | exact ssh_pr | exact ssh_tab | exact ssh_mat | exact ⟨rfl, fun _ => trivial⟩ | exact ⟨rfl, fun _ => by rw [zr32]; exact ssh_vec⟩), (by first | exact mt_vec (fun _ _ => rfl) | exact mt_mat (fun _ _ _ _ => rfl) | exact mt_tab (fun _ _ _ _ _ _ => rfl) | exact mt_arr0 | exact mt_app (fun _ _ => rfl) rfl | exact ⟨rfl, fun _ _ => mt_row (fun _ _ => rfl)⟩ | exact Mt_closed (V := _) closed_alg (fun _ _ _ => trivial) (by simp))⟩, trivial⟩, ⟨⟨(fun h => by first | exact ⟨rfl, rfl⟩ | exact absurd h (by decide)), (fun h => by first | exact ⟨rfl, rfl⟩ | exact absurd h (by decide)), trivial⟩, ⟨(fun h => by first | exact ⟨rfl, rfl⟩ | exact absurd h (by decide)), (fun h => by first | exact ⟨rfl, rfl⟩ | exact absurd h (by decide)), trivial⟩, trivial⟩⟩
  · exact Nat.zero_le _
  intro i hi0
  refine sq (env2 := [(0, .cptr (algA p (n : Int) T fo)), (4, .cptr (vecA v)), (6, .ptr 6 0 [] 0 (vecA (fun _ => 0))), (7, .ptr 7 0 [] 0 (vecA (fun _ => 0))), (10, .int .i64 (k : Int)), (11, .int .i64 (i : Int))]) (ol2 := [(6, .one (vecA (fun _ => 0)) (vecA (fun _ => 0))), (7, .one (vecA (fun _ => 0)) (vecA (powV p n T (uF p n T) v i)))]) rfl rfl ?_
  apply sr tokTB (by kernel_rfl)
  · intro RR hRR
    refine w_lss rfl rfl ?_
    exact hRR
  refine snd_seq ?_
  refine snd_cond _ rfl (fun hc12 => ?_) (fun hc12 => ?_)
  · try simp only [hcs] at hc12
    have lt_i : i < k := by omega
    refine snd_skip ?_
    refine snd_seq ?_
    refine snd_block ?_
    apply lr tokTB (by kernel_rfl)
    · intro RR hRR
      refine w_move (by constructor) ?_
      refine w_ldp rfl kn32 rfl (by constructor) (by exact sz32.symm) (by exact ag32.symm) ?_
      refine w_ldc rfl kn32 (by constructor) (by exact sz32.symm) (by exact ag32.symm) ?_
      refine y_call rfl (ec (ec (ec exn))) (c_times (u := powV p n T (uF p n T) v i) (v := v) (by omega) (by omega) hv0.n6 hv0.T8 (B8_of (by omega) (powV_Bp (by omega) hv0.u_Bp i)) (hv)) ?_
      refine w_stw rfl (by constructor) kn32 rfl (by exact trivial) (by first | exact trivial | exact ssh_vec | exact ssh_alg | exact ssh_pr | exact ssh_tab | exact ssh_mat | exact ⟨rfl, fun _ => trivial⟩ | exact ⟨rfl, fun _ => by rw [zr32]; exact ssh_vec⟩) (by exact sz32.symm) ?_
      exact hRR
    apply lr tokTB (by kernel_rfl)
    · intro RR hRR
      refine y_add rfl rfl ?_
      refine w_move (by constructor) ?_
      exact hRR
    refine ⟨i + 1, ρ0, ?_, (by omega), (by dsimp only; omega)⟩
    exact ⟨⟨m_calg, (m_cvec (fun _ _ => rfl)), ⟨rfl, rfl, rfl, rfl, rfl⟩, ⟨rfl, rfl, rfl, rfl, rfl⟩, (by first | exact m_int rfl | exact m_int (by omega) | exact m_int (by simp; done) | (exact m_int (by simp; omega))), (by first | exact m_int rfl | exact m_int (by omega) | exact m_int (by simp; done) | (exact m_int (by simp; omega))), trivial⟩, ⟨⟨rfl, (by first | exact trivial | exact ssh_vec | exact ssh_alg | exact ssh_pr | exact ssh_tab | exact ssh_mat | exact ⟨rfl, fun _ => trivial⟩ | exact ⟨rfl, fun _ => by rw [zr32]; exact ssh_vec⟩), (by first | exact mt_vec (fun _ _ => rfl) | exact mt_mat (fun _ _ _ _ => rfl) | exact mt_tab (fun _ _ _ _ _ _ => rfl) | exact mt_arr0 | exact mt_app (fun _ _ => rfl) rfl | exact ⟨rfl, fun _ _ => mt_row (fun _ _ => rfl)⟩ | exact Mt_closed (V := _) closed_alg (fun _ _ _ => trivial) (by simp))⟩, ⟨rfl, (by first | exact trivial | exact ssh_vec | exact ssh_alg | exact ssh_pr | exact ssh_tab | exact ssh_mat | exact ⟨rfl, fun _ => trivial⟩ | exact ⟨rfl, fun _ => by rw [zr32]; exact ssh_vec⟩), (by first | exact mt_vec (fun _ _ => rfl) | exact mt_mat (fun _ _ _ _ => rfl) | exact mt_tab (fun _ _ _ _ _ _ => rfl) | exact mt_arr0 | exact mt_app (fun _ _ => rfl) rfl | exact ⟨rfl, fun _ _ => mt_row (fun _ _ => rfl)⟩ | exact Mt_closed (V := _) closed_alg (fun _ _ _ => trivial) (by simp))⟩, trivial⟩, ⟨⟨(fun h => by first | exact ⟨rfl, rfl⟩ | exact absurd h (by decide)), (fun h => by first | exact ⟨rfl, rfl⟩ | exact absurd h (by decide)), trivial⟩, ⟨(fun h => by first | exact ⟨rfl, rfl⟩ | exact absurd h (by decide)), (fun h => by first | exact ⟨rfl, rfl⟩ | exact absurd h (by decide)), trivial⟩, trivial⟩⟩
  · try simp only [hcs] at hc12
    have ge_i : k = i := by omega
    subst ge_i
    refine snd_exit ?_
    apply sr tokTB (by kernel_rfl)
    · intro RR hRR
      refine w_ldp rfl kn32 rfl (by constructor) (by exact sz32.symm) (by exact ag32.symm) ?_
      refine w_stw rfl (by constructor) kn32 rfl (by exact trivial) (by first | exact trivial | exact ssh_vec | exact ssh_alg | exact ssh_pr | exact ssh_tab | exact ssh_mat | exact ⟨rfl, fun _ => trivial⟩ | exact ⟨rfl, fun _ => by rw [zr32]; exact ssh_vec⟩) (by exact sz32.symm) ?_
      exact hRR
    refine snd_ret ?_
    exact rt_c (T := TB) rfl kn32 rfl sz32.symm ag32.symm (fun V => m_vec (fun j hj => rfl))
theorem c_l02Power {p : Int} {n : Nat} {T : Nat → Nat → Nat → Int} {fo : Nat → Int} (hv0 : VN p n T fo) (hr : rankT p n T fo = n) {k : Nat} (hk : k ≤ 1000) : ACalls Try.prog TB 111 [algA p (n : Int) T fo, .int .i64 (k : Int)] (vecA (powV p n T (uF p n T) (pr1 p n T (cpM p n (formT p T fo)) n) k)) [] := by
  have hp8 := hv0.p0
  have hn6 := hv0.n6
  have hn0 := hv0.n0
  refine acalls_of tokTB Try.func111 rfl rfl (Nat.le_of_ble_eq_true rfl) ?_
  apply sr tokTB (by kernel_rfl)
  · intro RR hRR
    refine w_boxc (HV.eq (by constructor)) (by exact trivial) ?_
    refine w_alloc kn32 rfl zr32 ?_
    exact hRR
  apply sd tokTB mixed (by kernel_rfl) (by kernel_rfl)
  · intro RR hRR
    refine w_ldc rfl kn34 (by constructor) (by exact sz34.symm) (by exact ag34.symm) ?_
    refine y_call rfl (ec exn) (c_l01Unit hv0) ?_
    refine w_ldc rfl kn34 (by constructor) (by exact sz34.symm) (by exact ag34.symm) ?_
    refine y_call rfl (ec exn) (c_l02Handle hv0 hr) ?_
    refine w_alloc kn32 rfl zr32 ?_
    refine w_alloc kn32 rfl zr32 ?_
    refine w_stw rfl (by constructor) kn32 rfl (by exact trivial) (by first | exact trivial | exact ssh_vec | exact ssh_alg | exact ssh_pr | exact ssh_tab | exact ssh_mat | exact ⟨rfl, fun _ => trivial⟩ | exact ⟨rfl, fun _ => by rw [zr32]; exact ssh_vec⟩) (by exact sz32.symm) ?_
    refine w_stw rfl (by constructor) kn32 rfl (by exact trivial) (by first | exact trivial | exact ssh_vec | exact ssh_alg | exact ssh_pr | exact ssh_tab | exact ssh_mat | exact ⟨rfl, fun _ => trivial⟩ | exact ⟨rfl, fun _ => by rw [zr32]; exact ssh_vec⟩) (by exact sz32.symm) ?_
    exact hRR
  refine snd_seq ?_
  refine snd_block ?_
  refine snd_loop (S := Nat) (fun i => ([(1, .int .i64 ((k : Int) - i)), (2, .cptr (algA p (n : Int) T fo)), (4, .ptr 4 0 [] 0 (vecA (fun _ => 0))), (5, .ptr 5 0 [] 0 (vecA (fun _ => 0))), (6, .ptr 6 0 [] 0 (vecA (fun _ => 0)))], [(4, .one (vecA (fun _ => 0)) (vecA (fun _ => 0))), (5, .one (vecA (fun _ => 0)) (vecA (powV p n T (uF p n T) (pr1 p n T (cpM p n (formT p T fo)) n) i))), (6, .one (vecA (fun _ => 0)) (vecA (pr1 p n T (cpM p n (formT p T fo)) n)))])) (fun i => i ≤ k) (fun i => k - i) (0) ρ0 ?_ ?_ ?_
  · exact ⟨⟨(by first | exact m_int rfl | exact m_int (by omega) | exact m_int (by simp; done) | (exact m_int (by simp; omega))), m_calg, ⟨rfl, rfl, rfl, rfl, rfl⟩, ⟨rfl, rfl, rfl, rfl, rfl⟩, ⟨rfl, rfl, rfl, rfl, rfl⟩, trivial⟩, ⟨⟨rfl, (by first | exact trivial | exact ssh_vec | exact ssh_alg | exact ssh_pr | exact ssh_tab | exact ssh_mat | exact ⟨rfl, fun _ => trivial⟩ | exact ⟨rfl, fun _ => by rw [zr32]; exact ssh_vec⟩), (by first | exact mt_vec (fun _ _ => rfl) | exact mt_mat (fun _ _ _ _ => rfl) | exact mt_tab (fun _ _ _ _ _ _ => rfl) | exact mt_arr0 | exact mt_app (fun _ _ => rfl) rfl | exact ⟨rfl, fun _ _ => mt_row (fun _ _ => rfl)⟩ | exact Mt_closed (V := _) closed_alg (fun _ _ _ => trivial) (by simp))⟩, ⟨rfl, (by first | exact trivial | exact ssh_vec | exact ssh_alg | exact ssh_pr | exact ssh_tab | exact ssh_mat | exact ⟨rfl, fun _ => trivial⟩ | exact ⟨rfl, fun _ => by rw [zr32]; exact ssh_vec⟩), (by first | exact mt_vec (fun _ _ => rfl) | exact mt_mat (fun _ _ _ _ => rfl) | exact mt_tab (fun _ _ _ _ _ _ => rfl) | exact mt_arr0 | exact mt_app (fun _ _ => rfl) rfl | exact ⟨rfl, fun _ _ => mt_row (fun _ _ => rfl)⟩ | exact Mt_closed (V := _) closed_alg (fun _ _ _ => trivial) (by simp))⟩, ⟨rfl, (by first | exact trivial | exact ssh_vec | exact ssh_alg | exact ssh_pr | exact ssh_tab | exact ssh_mat | exact ⟨rfl, fun _ => trivial⟩ | exact ⟨rfl, fun _ => by rw [zr32]; exact ssh_vec⟩), (by first | exact mt_vec (fun _ _ => rfl) | exact mt_mat (fun _ _ _ _ => rfl) | exact mt_tab (fun _ _ _ _ _ _ => rfl) | exact mt_arr0 | exact mt_app (fun _ _ => rfl) rfl | exact ⟨rfl, fun _ _ => mt_row (fun _ _ => rfl)⟩ | exact Mt_closed (V := _) closed_alg (fun _ _ _ => trivial) (by simp))⟩, trivial⟩, ⟨⟨(fun h => by first | exact ⟨rfl, rfl⟩ | exact absurd h (by decide)), (fun h => by first | exact ⟨rfl, rfl⟩ | exact absurd h (by decide)), (fun h => by first | exact ⟨rfl, rfl⟩ | exact absurd h (by decide)), trivial⟩, ⟨(fun h => by first | exact ⟨rfl, rfl⟩ | exact absurd h (by decide)), (fun h => by first | exact ⟨rfl, rfl⟩ | exact absurd h (by decide)), (fun h => by first | exact ⟨rfl, rfl⟩ | exact absurd h (by decide)), trivial⟩, ⟨(fun h => by first | exact ⟨rfl, rfl⟩ | exact absurd h (by decide)), (fun h => by first | exact ⟨rfl, rfl⟩ | exact absurd h (by decide)), (fun h => by first | exact ⟨rfl, rfl⟩ | exact absurd h (by decide)), trivial⟩, trivial⟩⟩
  · exact Nat.zero_le _
  intro i hi0
  refine sq (env2 := [(1, .int .i64 ((k : Int) - i)), (2, .cptr (algA p (n : Int) T fo)), (4, .ptr 4 0 [] 0 (vecA (fun _ => 0))), (5, .ptr 5 0 [] 0 (vecA (fun _ => 0))), (6, .ptr 6 0 [] 0 (vecA (fun _ => 0)))]) (ol2 := [(4, .one (vecA (fun _ => 0)) (vecA (fun _ => 0))), (5, .one (vecA (fun _ => 0)) (vecA (powV p n T (uF p n T) (pr1 p n T (cpM p n (formT p T fo)) n) i))), (6, .one (vecA (fun _ => 0)) (vecA (pr1 p n T (cpM p n (formT p T fo)) n)))]) rfl rfl ?_
  refine snd_seq ?_
  apply sr tokTB (by kernel_rfl)
  · intro RR hRR
    refine w_move (by constructor) ?_
    refine w_gtr rfl rfl ?_
    exact hRR
  refine snd_cond _ rfl (fun hc12 => ?_) (fun hc12 => ?_)
  · try simp only [hcs] at hc12
    have lt_i : i < k := by omega
    refine snd_skip ?_
    refine snd_seq ?_
    refine snd_block ?_
    apply lr tokTB (by kernel_rfl)
    · intro RR hRR
      refine w_ldc rfl kn34 (by constructor) (by exact sz34.symm) (by exact ag34.symm) ?_
      refine w_ldp rfl kn32 rfl (by constructor) (by exact sz32.symm) (by exact ag32.symm) ?_
      refine w_ldp rfl kn32 rfl (by constructor) (by exact sz32.symm) (by exact ag32.symm) ?_
      refine y_call rfl (ec (ec (ec exn))) (c_l01Times (u := powV p n T (uF p n T) (pr1 p n T (cpM p n (formT p T fo)) n) i) (v := (pr1 p n T (cpM p n (formT p T fo)) n)) (by omega) (by omega) hv0.n6 hv0.T8 (B8_of (by omega) (powV_Bp (by omega) hv0.u_Bp i)) (B8_of (by omega) (pr1_Bp (by omega) n))) ?_
      refine w_stw rfl (by constructor) kn32 rfl (by exact trivial) (by first | exact trivial | exact ssh_vec | exact ssh_alg | exact ssh_pr | exact ssh_tab | exact ssh_mat | exact ⟨rfl, fun _ => trivial⟩ | exact ⟨rfl, fun _ => by rw [zr32]; exact ssh_vec⟩) (by exact sz32.symm) ?_
      exact hRR
    apply lr tokTB (by kernel_rfl)
    · intro RR hRR
      refine w_move (by constructor) ?_
      refine y_sub rfl rfl ?_
      refine w_assign (by constructor) ?_
      exact hRR
    refine ⟨i + 1, ρ0, ?_, (by omega), (by dsimp only; omega)⟩
    exact ⟨⟨(by first | exact m_int rfl | exact m_int (by omega) | exact m_int (by simp; done) | (exact m_int (by simp; omega))), m_calg, ⟨rfl, rfl, rfl, rfl, rfl⟩, ⟨rfl, rfl, rfl, rfl, rfl⟩, ⟨rfl, rfl, rfl, rfl, rfl⟩, trivial⟩, ⟨⟨rfl, (by first | exact trivial | exact ssh_vec | exact ssh_alg | exact ssh_pr | exact ssh_tab | exact ssh_mat | exact ⟨rfl, fun _ => trivial⟩ | exact ⟨rfl, fun _ => by rw [zr32]; exact ssh_vec⟩), (by first | exact mt_vec (fun _ _ => rfl) | exact mt_mat (fun _ _ _ _ => rfl) | exact mt_tab (fun _ _ _ _ _ _ => rfl) | exact mt_arr0 | exact mt_app (fun _ _ => rfl) rfl | exact ⟨rfl, fun _ _ => mt_row (fun _ _ => rfl)⟩ | exact Mt_closed (V := _) closed_alg (fun _ _ _ => trivial) (by simp))⟩, ⟨rfl, (by first | exact trivial | exact ssh_vec | exact ssh_alg | exact ssh_pr | exact ssh_tab | exact ssh_mat | exact ⟨rfl, fun _ => trivial⟩ | exact ⟨rfl, fun _ => by rw [zr32]; exact ssh_vec⟩), (by first | exact mt_vec (fun _ _ => rfl) | exact mt_mat (fun _ _ _ _ => rfl) | exact mt_tab (fun _ _ _ _ _ _ => rfl) | exact mt_arr0 | exact mt_app (fun _ _ => rfl) rfl | exact ⟨rfl, fun _ _ => mt_row (fun _ _ => rfl)⟩ | exact Mt_closed (V := _) closed_alg (fun _ _ _ => trivial) (by simp))⟩, ⟨rfl, (by first | exact trivial | exact ssh_vec | exact ssh_alg | exact ssh_pr | exact ssh_tab | exact ssh_mat | exact ⟨rfl, fun _ => trivial⟩ | exact ⟨rfl, fun _ => by rw [zr32]; exact ssh_vec⟩), (by first | exact mt_vec (fun _ _ => rfl) | exact mt_mat (fun _ _ _ _ => rfl) | exact mt_tab (fun _ _ _ _ _ _ => rfl) | exact mt_arr0 | exact mt_app (fun _ _ => rfl) rfl | exact ⟨rfl, fun _ _ => mt_row (fun _ _ => rfl)⟩ | exact Mt_closed (V := _) closed_alg (fun _ _ _ => trivial) (by simp))⟩, trivial⟩, ⟨⟨(fun h => by first | exact ⟨rfl, rfl⟩ | exact absurd h (by decide)), (fun h => by first | exact ⟨rfl, rfl⟩ | exact absurd h (by decide)), (fun h => by first | exact ⟨rfl, rfl⟩ | exact absurd h (by decide)), trivial⟩, ⟨(fun h => by first | exact ⟨rfl, rfl⟩ | exact absurd h (by decide)), (fun h => by first | exact ⟨rfl, rfl⟩ | exact absurd h (by decide)), (fun h => by first | exact ⟨rfl, rfl⟩ | exact absurd h (by decide)), trivial⟩, ⟨(fun h => by first | exact ⟨rfl, rfl⟩ | exact absurd h (by decide)), (fun h => by first | exact ⟨rfl, rfl⟩ | exact absurd h (by decide)), (fun h => by first | exact ⟨rfl, rfl⟩ | exact absurd h (by decide)), trivial⟩, trivial⟩⟩
  · try simp only [hcs] at hc12
    have ge_i : k = i := by omega
    subst ge_i
    refine snd_exit ?_
    apply sr tokTB (by kernel_rfl)
    · intro RR hRR
      refine w_ldp rfl kn32 rfl (by constructor) (by exact sz32.symm) (by exact ag32.symm) ?_
      refine w_stw rfl (by constructor) kn32 rfl (by exact trivial) (by first | exact trivial | exact ssh_vec | exact ssh_alg | exact ssh_pr | exact ssh_tab | exact ssh_mat | exact ⟨rfl, fun _ => trivial⟩ | exact ⟨rfl, fun _ => by rw [zr32]; exact ssh_vec⟩) (by exact sz32.symm) ?_
      exact hRR
    refine snd_ret ?_
    exact rt_c (T := TB) rfl kn32 rfl sz32.symm ag32.symm (fun V => m_vec (fun j hj => rfl))
theorem c_genusOk_ok {p : Int} {n : Nat} {T : Nat → Nat → Nat → Int} {fo : Nat → Int} (hv0 : VN p n T fo) {M : Nat} {F : Nat → Nat → Int} (hM : M ≤ 16777216) (hF : ∀ i, B8 (F i)) (hz : VZ p n T fo M F) (hc : comN n T) (hr : rankT p n T fo = n) : ACalls Try.prog TB 69 [algA p (n : Int) T fo, .bool true, vlA M F] (.int .i64 0) [] := by
  refine acalls_of tokTB Try.func69 rfl rfl (Nat.le_of_ble_eq_true rfl) ?_
  apply sr tokTB (by kernel_rfl)
  · intro RR hRR
    refine w_boxc (HV.eq (by constructor)) (by exact trivial) ?_
    refine w_assign (by constructor) ?_
    exact hRR
  refine snd_seq ?_
  apply sr tokTB (by kernel_rfl)
  · intro RR hRR
    refine w_ldc rfl kn34 (by constructor) (by exact sz34.symm) (by exact ag34.symm) ?_
    refine w_move (by constructor) ?_
    refine y_call rfl (exc exp_alg (exc ex_vl exn)) ((vz_code hz ▸ c_valid hv0.rb hv0.rv (by omega) hF)) ?_
    refine w_assign (by constructor) ?_
    exact hRR
  apply sr tokTB (by kernel_rfl)
  · intro RR hRR
    refine w_move (by constructor) ?_
    refine w_neq rfl rfl ?_
    exact hRR
  refine snd_cond_false rfl ?_
  refine snd_skip ?_
  refine snd_seq ?_
  refine snd_block ?_
  apply sr tokTB (by kernel_rfl)
  · intro RR hRR
    refine w_move (by constructor) ?_
    refine w_not rfl ?_
    refine w_assign (by constructor) ?_
    exact hRR
  refine snd_cond_false rfl ?_
  apply srG (env' := (17, .bool (!true)) :: (23, .bool (!true)) :: (22, .any) :: (21, .any) :: (20, _) :: (19, _) :: (18, _) :: _) tokTB (by kernel_rfl)
  · intro RR hRR
    refine y_call rfl (ec exn) (((decide_eq_true (hc)) ▸ c_commutative hv0.n6)) ?_
    refine w_not rfl ?_
    refine w_move (by constructor) ?_
    refine w_g_on rfl rfl rfl ?_
    refine y_call rfl (ec exn) (((decide_eq_true (hr)) ▸ c_frobenius hv0)) ?_
    refine w_g_on rfl rfl rfl ?_
    refine w_not rfl ?_
    refine w_pick_0 rfl rfl (by constructor) ?_
    refine w_assign (by constructor) ?_
    exact hRR _ (EL.cons (.inr (by first | rfl | (simp only [els]; done) | simp)) (EL.cons (.inr (by first | rfl | (simp only [els]; done) | simp)) (EL.cons (.inl rfl) (EL.cons (.inl rfl) (EL.cons (.inr rfl) (EL.cons (.inr rfl) (EL.cons (.inr rfl) (EL.refl _))))))))
  refine snd_cond_false rfl ?_
  refine snd_skip ?_
  apply sr tokTB (by kernel_rfl)
  · intro RR hRR
    refine w_assign (by constructor) ?_
    exact hRR
  refine snd_ret ?_
  exact rt (T := TB) (fun V => rfl)
theorem c_genusOk_nr {p : Int} {n : Nat} {T : Nat → Nat → Nat → Int} {fo : Nat → Int} (hv0 : VN p n T fo) {M : Nat} {F : Nat → Nat → Int} (hM : M ≤ 16777216) (hF : ∀ i, B8 (F i)) (hz : VZ p n T fo M F) (hc : comN n T) (hr : ¬ rankT p n T fo = n) : ACalls Try.prog TB 69 [algA p (n : Int) T fo, .bool true, vlA M F] (.int .i64 5) [] := by
  refine acalls_of tokTB Try.func69 rfl rfl (Nat.le_of_ble_eq_true rfl) ?_
  apply sr tokTB (by kernel_rfl)
  · intro RR hRR
    refine w_boxc (HV.eq (by constructor)) (by exact trivial) ?_
    refine w_assign (by constructor) ?_
    exact hRR
  refine snd_seq ?_
  apply sr tokTB (by kernel_rfl)
  · intro RR hRR
    refine w_ldc rfl kn34 (by constructor) (by exact sz34.symm) (by exact ag34.symm) ?_
    refine w_move (by constructor) ?_
    refine y_call rfl (exc exp_alg (exc ex_vl exn)) ((vz_code hz ▸ c_valid hv0.rb hv0.rv (by omega) hF)) ?_
    refine w_assign (by constructor) ?_
    exact hRR
  apply sr tokTB (by kernel_rfl)
  · intro RR hRR
    refine w_move (by constructor) ?_
    refine w_neq rfl rfl ?_
    exact hRR
  refine snd_cond_false rfl ?_
  refine snd_skip ?_
  refine snd_seq ?_
  refine snd_block ?_
  apply sr tokTB (by kernel_rfl)
  · intro RR hRR
    refine w_move (by constructor) ?_
    refine w_not rfl ?_
    refine w_assign (by constructor) ?_
    exact hRR
  refine snd_cond_false rfl ?_
  apply srG (env' := (17, .bool (!false)) :: (23, .bool (!false)) :: (22, .any) :: (21, .any) :: (20, _) :: (19, _) :: (18, _) :: _) tokTB (by kernel_rfl)
  · intro RR hRR
    refine y_call rfl (ec exn) (((decide_eq_true (hc)) ▸ c_commutative hv0.n6)) ?_
    refine w_not rfl ?_
    refine w_move (by constructor) ?_
    refine w_g_on rfl rfl rfl ?_
    refine y_call rfl (ec exn) (((decide_eq_false (hr)) ▸ c_frobenius hv0)) ?_
    refine w_g_on rfl rfl rfl ?_
    refine w_not rfl ?_
    refine w_pick_0 rfl rfl (by constructor) ?_
    refine w_assign (by constructor) ?_
    exact hRR _ (EL.cons (.inr (by first | rfl | (simp only [els]; done) | simp)) (EL.cons (.inr (by first | rfl | (simp only [els]; done) | simp)) (EL.cons (.inl rfl) (EL.cons (.inl rfl) (EL.cons (.inr rfl) (EL.cons (.inr rfl) (EL.cons (.inr rfl) (EL.refl _))))))))
  refine snd_cond_true rfl ?_
  apply sr tokTB (by kernel_rfl)
  · intro RR hRR
    refine w_assign (by constructor) ?_
    exact hRR
  refine snd_ret ?_
  exact rt (T := TB) (fun V => rfl)
theorem c_genusOk_nc {p : Int} {n : Nat} {T : Nat → Nat → Nat → Int} {fo : Nat → Int} (hv0 : VN p n T fo) {M : Nat} {F : Nat → Nat → Int} (hM : M ≤ 16777216) (hF : ∀ i, B8 (F i)) (hz : VZ p n T fo M F) (hc : ¬ comN n T) : ACalls Try.prog TB 69 [algA p (n : Int) T fo, .bool true, vlA M F] (.int .i64 5) [] := by
  refine acalls_of tokTB Try.func69 rfl rfl (Nat.le_of_ble_eq_true rfl) ?_
  apply sr tokTB (by kernel_rfl)
  · intro RR hRR
    refine w_boxc (HV.eq (by constructor)) (by exact trivial) ?_
    refine w_assign (by constructor) ?_
    exact hRR
  refine snd_seq ?_
  apply sr tokTB (by kernel_rfl)
  · intro RR hRR
    refine w_ldc rfl kn34 (by constructor) (by exact sz34.symm) (by exact ag34.symm) ?_
    refine w_move (by constructor) ?_
    refine y_call rfl (exc exp_alg (exc ex_vl exn)) ((vz_code hz ▸ c_valid hv0.rb hv0.rv (by omega) hF)) ?_
    refine w_assign (by constructor) ?_
    exact hRR
  apply sr tokTB (by kernel_rfl)
  · intro RR hRR
    refine w_move (by constructor) ?_
    refine w_neq rfl rfl ?_
    exact hRR
  refine snd_cond_false rfl ?_
  refine snd_skip ?_
  refine snd_seq ?_
  refine snd_block ?_
  apply sr tokTB (by kernel_rfl)
  · intro RR hRR
    refine w_move (by constructor) ?_
    refine w_not rfl ?_
    refine w_assign (by constructor) ?_
    exact hRR
  refine snd_cond_false rfl ?_
  apply srG (env' := (17, .bool true) :: (23, .bool true) :: (22, .any) :: (21, .any) :: (20, _) :: (19, _) :: (18, _) :: _) tokTB (by kernel_rfl)
  · intro RR hRR
    refine y_call rfl (ec exn) (((decide_eq_false (hc)) ▸ c_commutative hv0.n6)) ?_
    refine w_not rfl ?_
    refine w_move (by constructor) ?_
    refine w_g_off rfl rfl (by decide) ?_
    refine w_g_off rfl rfl (by decide) ?_
    refine w_pick_1 rfl rfl (by constructor) ?_
    refine w_assign (by constructor) ?_
    exact hRR _ (EL.cons (.inr (by first | rfl | (simp only [els]; done) | simp)) (EL.cons (.inr (by first | rfl | (simp only [els]; done) | simp)) (EL.cons (.inl rfl) (EL.cons (.inl rfl) (EL.cons (.inr rfl) (EL.cons (.inr rfl) (EL.cons (.inr rfl) (EL.refl _))))))))
  refine snd_cond_true rfl ?_
  apply sr tokTB (by kernel_rfl)
  · intro RR hRR
    refine w_assign (by constructor) ?_
    exact hRR
  refine snd_ret ?_
  exact rt (T := TB) (fun V => rfl)
theorem c_genusOk_rg {p : Int} {n : Nat} {T : Nat → Nat → Nat → Int} {fo : Nat → Int} (hv0 : VN p n T fo) {M : Nat} {F : Nat → Nat → Int} (hM : M ≤ 16777216) (hF : ∀ i, B8 (F i)) (hz : VZ p n T fo M F) : ACalls Try.prog TB 69 [algA p (n : Int) T fo, .bool false, vlA M F] (.int .i64 2) [] := by
  refine acalls_of tokTB Try.func69 rfl rfl (Nat.le_of_ble_eq_true rfl) ?_
  apply sr tokTB (by kernel_rfl)
  · intro RR hRR
    refine w_boxc (HV.eq (by constructor)) (by exact trivial) ?_
    refine w_assign (by constructor) ?_
    exact hRR
  refine snd_seq ?_
  apply sr tokTB (by kernel_rfl)
  · intro RR hRR
    refine w_ldc rfl kn34 (by constructor) (by exact sz34.symm) (by exact ag34.symm) ?_
    refine w_move (by constructor) ?_
    refine y_call rfl (exc exp_alg (exc ex_vl exn)) ((vz_code hz ▸ c_valid hv0.rb hv0.rv (by omega) hF)) ?_
    refine w_assign (by constructor) ?_
    exact hRR
  apply sr tokTB (by kernel_rfl)
  · intro RR hRR
    refine w_move (by constructor) ?_
    refine w_neq rfl rfl ?_
    exact hRR
  refine snd_cond_false rfl ?_
  refine snd_skip ?_
  refine snd_seq ?_
  refine snd_block ?_
  apply sr tokTB (by kernel_rfl)
  · intro RR hRR
    refine w_move (by constructor) ?_
    refine w_not rfl ?_
    refine w_assign (by constructor) ?_
    exact hRR
  refine snd_cond_true rfl ?_
  apply sr tokTB (by kernel_rfl)
  · intro RR hRR
    refine w_assign (by constructor) ?_
    exact hRR
  refine snd_ret ?_
  exact rt (T := TB) (fun V => rfl)
theorem c_genusOk_no {p n : Int} {T : Nat → Nat → Nat → Int} {fo : Nat → Int} (hT : RB T) (hf : RV fo) {M : Nat} {F : Nat → Nat → Int} (hM : M ≤ 16777216) (hF : ∀ i, B8 (F i)) (hz : ¬ VZ p n T fo M F) {b : Bool} : ACalls Try.prog TB 69 [algA p n T fo, .bool b, vlA M F] (.int .i64 1) [] := by
  refine acalls_of tokTB Try.func69 rfl rfl (Nat.le_of_ble_eq_true rfl) ?_
  apply sr tokTB (by kernel_rfl)
  · intro RR hRR
    refine w_boxc (HV.eq (by constructor)) (by exact trivial) ?_
    refine w_assign (by constructor) ?_
    exact hRR
  refine snd_seq ?_
  apply sr tokTB (by kernel_rfl)
  · intro RR hRR
    refine w_ldc rfl kn34 (by constructor) (by exact sz34.symm) (by exact ag34.symm) ?_
    refine w_move (by constructor) ?_
    refine y_call rfl (exc exp_alg (exc ex_vl exn)) ((vz_code1 hz ▸ c_valid hT hf hM hF)) ?_
    refine w_assign (by constructor) ?_
    exact hRR
  apply sr tokTB (by kernel_rfl)
  · intro RR hRR
    refine w_move (by constructor) ?_
    refine w_neq rfl rfl ?_
    exact hRR
  refine snd_cond_true rfl ?_
  apply sr tokTB (by kernel_rfl)
  · intro RR hRR
    refine w_move (by constructor) ?_
    refine w_assign (by constructor) ?_
    exact hRR
  refine snd_ret ?_
  exact rt (T := TB) (fun V => rfl)
theorem c_isGenus {g : Int} : ACalls Try.prog TB 70 [.int .i64 g] (.bool (decide (0 ≤ g) && decide (g ≤ 30))) [] := by
  refine acalls_of tokTB Try.func70 rfl rfl (Nat.le_of_ble_eq_true rfl) ?_
  apply sr tokTB (by kernel_rfl)
  · intro RR hRR
    refine w_assign (by constructor) ?_
    exact hRR
  apply sr tokTB (by kernel_rfl)
  · intro RR hRR
    refine w_move (by constructor) ?_
    refine y_call rfl (ec (ec (ec exn))) (c_in) ?_
    refine w_assign (by constructor) ?_
    exact hRR
  refine snd_ret ?_
  exact rt (T := TB) (fun V => rfl)
theorem c_iLegNumber_ok {p : Int} {n : Nat} {T : Nat → Nat → Nat → Int} {fo : Nat → Int} (hv0 : VN p n T fo) {M : Nat} {F : Nat → Nat → Int} (hM : M ≤ 6) (hF : ∀ i, B8 (F i)) (hz : VZ p n T fo M F) (hc : comN n T) (hr : rankT p n T fo = n) {k : Nat} (hk : k ≤ 30) : ACalls Try.prog TB 31 [algA p (n : Int) T fo, .int .i64 (k : Int), vlA M F] (.tup 2 (pairA (.int .i64 (formF p fo (legV p n T (powV p n T (uF p n T) (pr1 p n T (cpM p n (formT p T fo)) n) k) F (M)))) (.int .i64 0))) [] := by
  have hp8 := hv0.p0
  have hn6 := hv0.n6
  have hn0 := hv0.n0
  refine acalls_of tokTB Try.func31 rfl rfl (Nat.le_of_ble_eq_true rfl) ?_
  apply sr tokTB (by kernel_rfl)
  · intro RR hRR
    refine w_boxc (HV.eq (by constructor)) (by exact trivial) ?_
    refine w_assign (by constructor) ?_
    refine w_assign (by constructor) ?_
    exact hRR
  refine snd_seq ?_
  apply sdG (env' := (8, _) :: (21, _) :: (20, _) :: (19, .bool (decide ((M : Int) ≤ 6))) :: (18, .any) :: (17, .any) :: (16, .any) :: (15, _) :: (14, _) :: (13, _) :: (12, _) :: _) tokTB mixed (by kernel_rfl) (by kernel_rfl)
  · intro RR hRR
    refine w_ldc rfl kn34 (by constructor) (by exact sz34.symm) (by exact ag34.symm) ?_
    refine w_move (by constructor) ?_
    refine y_call rfl (ec exn) (in_both (show (0 : Int) ≤ (k : Int) ∧ (k : Int) ≤ 30 by omega) ▸ c_isGenus) ?_
    refine w_move (by constructor) ?_
    refine w_g_on rfl rfl rfl ?_
    refine w_move (by constructor) ?_
    refine w_g_on rfl rfl rfl ?_
    first | refine w_len_r rfl rfl und45 ?_ | refine w_len_o rfl rfl und45 ?_ | refine w_len_n rfl rfl und45 ?_
    refine w_g_on rfl rfl rfl ?_
    refine w_leq rfl rfl ?_
    refine w_pick_1 rfl rfl (by constructor) ?_
    refine w_move (by constructor) ?_
    refine y_call rfl (exc exp_alg (exc (by exact congrArg AV.bool (decide_eq_true (by omega))) (exc ex_vl exn))) (c_genusOk_ok hv0 (by omega) hF hz hc hr) ?_
    refine w_assign (by constructor) ?_
    exact hRR _ (EL.cons (.inr rfl) (EL.cons (.inr rfl) (EL.cons (.inr rfl) (EL.cons (.inr (by first | rfl | (simp only [els]; done) | simp)) (EL.cons (.inl rfl) (EL.cons (.inl rfl) (EL.cons (.inl rfl) (EL.cons (.inr rfl) (EL.cons (.inr rfl) (EL.cons (.inr rfl) (EL.cons (.inr rfl) (EL.refl _))))))))))))
  apply sr tokTB (by kernel_rfl)
  · intro RR hRR
    refine w_move (by constructor) ?_
    refine w_neq rfl rfl ?_
    exact hRR
  refine snd_cond_false rfl ?_
  refine snd_skip ?_
  apply sr tokTB (by kernel_rfl)
  · intro RR hRR
    refine y_call rfl (ec exn) (c_handle hv0 hr) ?_
    refine w_move (by constructor) ?_
    refine y_call rfl (ec (ec (ec exn))) (c_powerB hv0 (v := (pr1 p n T (cpM p n (formT p T fo)) n)) (k := k) (B8_of (by omega) (pr1_Bp (by omega) n)) (by omega)) ?_
    refine w_alloc kn32 rfl zr32 ?_
    refine w_stw rfl (by constructor) kn32 rfl (by exact trivial) (by first | exact trivial | exact ssh_vec | exact ssh_alg | exact ssh_pr | exact ssh_tab | exact ssh_mat | exact ⟨rfl, fun _ => trivial⟩ | exact ⟨rfl, fun _ => by rw [zr32]; exact ssh_vec⟩) (by exact sz32.symm) ?_
    exact hRR
  refine snd_seq ?_
  apply sr tokTB (by kernel_rfl)
  · intro RR hRR
    refine w_move (by constructor) ?_
    refine w_len_r rfl rfl und45 ?_
    refine w_move (by constructor) ?_
    exact hRR
  refine snd_block ?_
  refine snd_loop (S := Nat) (fun i => ([(3, .cptr (algA p (n : Int) T fo)), (9, .ptr 9 0 [] 0 (vecA (fun _ => 0))), (28, vlA M F), (29, .int .i64 (M : Int)), (30, .int .i64 (i : Int))], [(9, .one (vecA (fun _ => 0)) (vecA (legV p n T (powV p n T (uF p n T) (pr1 p n T (cpM p n (formT p T fo)) n) k) F (i))))])) (fun i => i ≤ M) (fun i => M - i) (0) ρ0 ?_ ?_ ?_
  · exact ⟨⟨m_calg, ⟨rfl, rfl, rfl, rfl, rfl⟩, (by first | exact m_vl | exact mt_fz (by exact ⟨(ne_fst rfl), trivial⟩) rfl (fun _ _ => mt_vec (fun _ _ => rfl))), (by first | exact m_int rfl | exact m_int (by omega) | exact m_int (by simp; done) | (exact m_int (by simp; omega))), (by first | exact m_int rfl | exact m_int (by omega) | exact m_int (by simp; done) | (exact m_int (by simp; omega))), trivial⟩, ⟨⟨rfl, (by first | exact trivial | exact ssh_vec | exact ssh_alg | exact ssh_pr | exact ssh_tab | exact ssh_mat | exact ⟨rfl, fun _ => trivial⟩ | exact ⟨rfl, fun _ => by rw [zr32]; exact ssh_vec⟩), (by first | exact mt_vec (fun _ _ => rfl) | exact mt_mat (fun _ _ _ _ => rfl) | exact mt_tab (fun _ _ _ _ _ _ => rfl) | exact mt_arr0 | exact mt_app (fun _ _ => rfl) rfl | exact ⟨rfl, fun _ _ => mt_row (fun _ _ => rfl)⟩ | exact Mt_closed (V := _) closed_alg (fun _ _ _ => trivial) (by simp))⟩, trivial⟩, ⟨⟨(fun h => by first | exact ⟨rfl, rfl⟩ | exact absurd h (by decide)), trivial⟩, trivial⟩⟩
  · exact Nat.zero_le _
  intro i hi0
  refine sq (env2 := [(3, .cptr (algA p (n : Int) T fo)), (9, .ptr 9 0 [] 0 (vecA (fun _ => 0))), (28, vlA M F), (29, .int .i64 (M : Int)), (30, .int .i64 (i : Int))]) (ol2 := [(9, .one (vecA (fun _ => 0)) (vecA (legV p n T (powV p n T (uF p n T) (pr1 p n T (cpM p n (formT p T fo)) n) k) F (i))))]) rfl rfl ?_
  apply sr tokTB (by kernel_rfl)
  · intro RR hRR
    refine w_lss rfl rfl ?_
    exact hRR
  refine snd_seq ?_
  refine snd_cond _ rfl (fun hc31 => ?_) (fun hc31 => ?_)
  · try simp only [hcs] at hc31
    have lt_i : i < M := by omega
    refine snd_skip ?_
    refine snd_seq ?_
    refine snd_block ?_
    apply sr tokTB (by kernel_rfl)
    · intro RR hRR
      refine w_iar rfl rfl und45 kn32 (by exact sz32.symm) ?_ rfl ?_
      · exact ⟨by omega, by omega⟩
      first | refine w_ldc rfl kn32 (by constructor) (by exact sz32.symm) (by exact ag32.symm) ?_ | refine w_ldp rfl kn32 rfl (by constructor) (by exact sz32.symm) (by exact ag32.symm) ?_
      refine w_alloc kn32 rfl zr32 ?_
      refine w_stw rfl (by constructor) kn32 rfl (by exact trivial) (by first | exact trivial | exact ssh_vec | exact ssh_alg | exact ssh_pr | exact ssh_tab | exact ssh_mat | exact ⟨rfl, fun _ => trivial⟩ | exact ⟨rfl, fun _ => by rw [zr32]; exact ssh_vec⟩) (by exact sz32.symm) ?_
      exact hRR
    apply lr tokTB (by kernel_rfl)
    · intro RR hRR
      refine w_ldp rfl kn32 rfl (by constructor) (by exact sz32.symm) (by exact ag32.symm) ?_
      refine w_ldp rfl kn32 rfl (by constructor) (by exact sz32.symm) (by exact ag32.symm) ?_
      refine y_call rfl (ec (ec (ec exn))) (c_times (u := legV p n T (powV p n T (uF p n T) (pr1 p n T (cpM p n (formT p T fo)) n) k) F (i)) (v := F i) (by omega) (by omega) hv0.n6 hv0.T8 (B8_of (by omega) (legV_Bp (by omega) (powV_Bp (by omega) hv0.u_Bp k) _)) (hF i)) ?_
      refine w_stw rfl (by constructor) kn32 rfl (by exact trivial) (by first | exact trivial | exact ssh_vec | exact ssh_alg | exact ssh_pr | exact ssh_tab | exact ssh_mat | exact ⟨rfl, fun _ => trivial⟩ | exact ⟨rfl, fun _ => by rw [zr32]; exact ssh_vec⟩) (by exact sz32.symm) ?_
      exact hRR
    apply lr tokTB (by kernel_rfl)
    · intro RR hRR
      refine y_add rfl rfl ?_
      refine w_move (by constructor) ?_
      exact hRR
    refine ⟨i + 1, ρ0, ?_, (by omega), (by dsimp only; omega)⟩
    exact ⟨⟨m_calg, ⟨rfl, rfl, rfl, rfl, rfl⟩, (by first | exact m_vl | exact mt_fz (by exact ⟨(ne_fst rfl), trivial⟩) rfl (fun _ _ => mt_vec (fun _ _ => rfl))), (by first | exact m_int rfl | exact m_int (by omega) | exact m_int (by simp; done) | (exact m_int (by simp; omega))), (by first | exact m_int rfl | exact m_int (by omega) | exact m_int (by simp; done) | (exact m_int (by simp; omega))), trivial⟩, ⟨⟨rfl, (by first | exact trivial | exact ssh_vec | exact ssh_alg | exact ssh_pr | exact ssh_tab | exact ssh_mat | exact ⟨rfl, fun _ => trivial⟩ | exact ⟨rfl, fun _ => by rw [zr32]; exact ssh_vec⟩), (by first | exact mt_vec (fun _ _ => rfl) | exact mt_mat (fun _ _ _ _ => rfl) | exact mt_tab (fun _ _ _ _ _ _ => rfl) | exact mt_arr0 | exact mt_app (fun _ _ => rfl) rfl | exact ⟨rfl, fun _ _ => mt_row (fun _ _ => rfl)⟩ | exact Mt_closed (V := _) closed_alg (fun _ _ _ => trivial) (by simp))⟩, trivial⟩, ⟨⟨(fun h => by first | exact ⟨rfl, rfl⟩ | exact absurd h (by decide)), trivial⟩, trivial⟩⟩
  · try simp only [hcs] at hc31
    have ge_i : M = i := by omega
    subst ge_i
    refine snd_exit ?_
    apply sr tokTB (by kernel_rfl)
    · intro RR hRR
      refine w_ldp rfl kn32 rfl (by constructor) (by exact sz32.symm) (by exact ag32.symm) ?_
      refine y_call rfl (ec (ec exn)) (c_form (v := legV p n T (powV p n T (uF p n T) (pr1 p n T (cpM p n (formT p T fo)) n) k) F (M)) (by omega) hv0.f8 (B8_of (by omega) (legV_Bp (by omega) (powV_Bp (by omega) hv0.u_Bp k) _))) ?_
      refine w_assign (by constructor) ?_
      refine w_assign (by constructor) ?_
      exact hRR
    refine snd_ret ?_
    exact rt_tt (T := TB) (fun V => rfl) (fun V => rfl)
theorem c_iLegNumber_gb {p : Int} {n : Nat} {T : Nat → Nat → Nat → Int} {fo : Nat → Int} (hv0 : VN p n T fo) {M : Nat} {F : Nat → Nat → Int} (hM : M ≤ 16777216) (hF : ∀ i, B8 (F i)) (hz : VZ p n T fo M F) {g : Int} (hg : ¬ (0 ≤ g ∧ g ≤ 30)) : ACalls Try.prog TB 31 [algA p (n : Int) T fo, .int .i64 g, vlA M F] (.tup 2 (pairA (.int .i64 (0)) (.int .i64 2))) [] := by
  refine acalls_of tokTB Try.func31 rfl rfl (Nat.le_of_ble_eq_true rfl) ?_
  apply sr tokTB (by kernel_rfl)
  · intro RR hRR
    refine w_boxc (HV.eq (by constructor)) (by exact trivial) ?_
    refine w_assign (by constructor) ?_
    refine w_assign (by constructor) ?_
    exact hRR
  refine snd_seq ?_
  apply sdG (env' := (8, _) :: (21, _) :: (20, _) :: (19, .bool false) :: (18, .any) :: (17, .any) :: (16, .any) :: (15, _) :: (14, _) :: (13, _) :: (12, _) :: _) tokTB mixed (by kernel_rfl) (by kernel_rfl)
  · intro RR hRR
    refine w_ldc rfl kn34 (by constructor) (by exact sz34.symm) (by exact ag34.symm) ?_
    refine w_move (by constructor) ?_
    refine y_call rfl (ec exn) (in_none hg ▸ c_isGenus) ?_
    refine w_move (by constructor) ?_
    refine w_g_off rfl rfl (by decide) ?_
    refine w_g_off rfl rfl (by decide) ?_
    refine w_g_off rfl rfl (by decide) ?_
    refine w_pick_0 rfl rfl (by constructor) ?_
    refine w_move (by constructor) ?_
    refine y_call rfl (exc exp_alg (exc (by exact rfl) (exc ex_vl exn))) (c_genusOk_rg hv0 (by omega) hF hz) ?_
    refine w_assign (by constructor) ?_
    exact hRR _ (EL.cons (.inr rfl) (EL.cons (.inr rfl) (EL.cons (.inr rfl) (EL.cons (.inr (by first | rfl | (simp only [els]; done) | simp)) (EL.cons (.inl rfl) (EL.cons (.inl rfl) (EL.cons (.inl rfl) (EL.cons (.inr rfl) (EL.cons (.inr rfl) (EL.cons (.inr rfl) (EL.cons (.inr rfl) (EL.refl _))))))))))))
  apply sr tokTB (by kernel_rfl)
  · intro RR hRR
    refine w_move (by constructor) ?_
    refine w_neq rfl rfl ?_
    exact hRR
  refine snd_cond_true rfl ?_
  apply sr tokTB (by kernel_rfl)
  · intro RR hRR
    refine w_move (by constructor) ?_
    refine w_assign (by constructor) ?_
    refine w_assign (by constructor) ?_
    exact hRR
  refine snd_ret ?_
  exact rt_tt (T := TB) (fun V => rfl) (fun V => rfl)
theorem c_iLegNumber_mb {p : Int} {n : Nat} {T : Nat → Nat → Nat → Int} {fo : Nat → Int} (hv0 : VN p n T fo) {M : Nat} {F : Nat → Nat → Int} (hM : M ≤ 16777216) (hM6 : ¬ M ≤ 6) (hF : ∀ i, B8 (F i)) (hz : VZ p n T fo M F) {g : Int} (hg : 0 ≤ g ∧ g ≤ 30) : ACalls Try.prog TB 31 [algA p (n : Int) T fo, .int .i64 g, vlA M F] (.tup 2 (pairA (.int .i64 (0)) (.int .i64 2))) [] := by
  refine acalls_of tokTB Try.func31 rfl rfl (Nat.le_of_ble_eq_true rfl) ?_
  apply sr tokTB (by kernel_rfl)
  · intro RR hRR
    refine w_boxc (HV.eq (by constructor)) (by exact trivial) ?_
    refine w_assign (by constructor) ?_
    refine w_assign (by constructor) ?_
    exact hRR
  refine snd_seq ?_
  apply sdG (env' := (8, _) :: (21, _) :: (20, _) :: (19, .bool (decide ((M : Int) ≤ 6))) :: (18, .any) :: (17, .any) :: (16, .any) :: (15, _) :: (14, _) :: (13, _) :: (12, _) :: _) tokTB mixed (by kernel_rfl) (by kernel_rfl)
  · intro RR hRR
    refine w_ldc rfl kn34 (by constructor) (by exact sz34.symm) (by exact ag34.symm) ?_
    refine w_move (by constructor) ?_
    refine y_call rfl (ec exn) (in_both hg ▸ c_isGenus) ?_
    refine w_move (by constructor) ?_
    refine w_g_on rfl rfl rfl ?_
    refine w_move (by constructor) ?_
    refine w_g_on rfl rfl rfl ?_
    first | refine w_len_r rfl rfl und45 ?_ | refine w_len_o rfl rfl und45 ?_ | refine w_len_n rfl rfl und45 ?_
    refine w_g_on rfl rfl rfl ?_
    refine w_leq rfl rfl ?_
    refine w_pick_1 rfl rfl (by constructor) ?_
    refine w_move (by constructor) ?_
    refine y_call rfl (exc exp_alg (exc (by exact congrArg AV.bool (decide_eq_false (by omega))) (exc ex_vl exn))) (c_genusOk_rg hv0 (by omega) hF hz) ?_
    refine w_assign (by constructor) ?_
    exact hRR _ (EL.cons (.inr rfl) (EL.cons (.inr rfl) (EL.cons (.inr rfl) (EL.cons (.inr (by first | rfl | (simp only [els]; done) | simp)) (EL.cons (.inl rfl) (EL.cons (.inl rfl) (EL.cons (.inl rfl) (EL.cons (.inr rfl) (EL.cons (.inr rfl) (EL.cons (.inr rfl) (EL.cons (.inr rfl) (EL.refl _))))))))))))
  apply sr tokTB (by kernel_rfl)
  · intro RR hRR
    refine w_move (by constructor) ?_
    refine w_neq rfl rfl ?_
    exact hRR
  refine snd_cond_true rfl ?_
  apply sr tokTB (by kernel_rfl)
  · intro RR hRR
    refine w_move (by constructor) ?_
    refine w_assign (by constructor) ?_
    refine w_assign (by constructor) ?_
    exact hRR
  refine snd_ret ?_
  exact rt_tt (T := TB) (fun V => rfl) (fun V => rfl)
theorem c_iLegNumber_nr {p : Int} {n : Nat} {T : Nat → Nat → Nat → Int} {fo : Nat → Int} (hv0 : VN p n T fo) {M : Nat} {F : Nat → Nat → Int} (hM : M ≤ 6) (hF : ∀ i, B8 (F i)) (hz : VZ p n T fo M F) (hc : comN n T) (hr : ¬ rankT p n T fo = n) {g : Int} (hg : 0 ≤ g ∧ g ≤ 30) : ACalls Try.prog TB 31 [algA p (n : Int) T fo, .int .i64 g, vlA M F] (.tup 2 (pairA (.int .i64 (0)) (.int .i64 5))) [] := by
  refine acalls_of tokTB Try.func31 rfl rfl (Nat.le_of_ble_eq_true rfl) ?_
  apply sr tokTB (by kernel_rfl)
  · intro RR hRR
    refine w_boxc (HV.eq (by constructor)) (by exact trivial) ?_
    refine w_assign (by constructor) ?_
    refine w_assign (by constructor) ?_
    exact hRR
  refine snd_seq ?_
  apply sdG (env' := (8, _) :: (21, _) :: (20, _) :: (19, .bool (decide ((M : Int) ≤ 6))) :: (18, .any) :: (17, .any) :: (16, .any) :: (15, _) :: (14, _) :: (13, _) :: (12, _) :: _) tokTB mixed (by kernel_rfl) (by kernel_rfl)
  · intro RR hRR
    refine w_ldc rfl kn34 (by constructor) (by exact sz34.symm) (by exact ag34.symm) ?_
    refine w_move (by constructor) ?_
    refine y_call rfl (ec exn) (in_both hg ▸ c_isGenus) ?_
    refine w_move (by constructor) ?_
    refine w_g_on rfl rfl rfl ?_
    refine w_move (by constructor) ?_
    refine w_g_on rfl rfl rfl ?_
    first | refine w_len_r rfl rfl und45 ?_ | refine w_len_o rfl rfl und45 ?_ | refine w_len_n rfl rfl und45 ?_
    refine w_g_on rfl rfl rfl ?_
    refine w_leq rfl rfl ?_
    refine w_pick_1 rfl rfl (by constructor) ?_
    refine w_move (by constructor) ?_
    refine y_call rfl (exc exp_alg (exc (by exact congrArg AV.bool (decide_eq_true (by omega))) (exc ex_vl exn))) (c_genusOk_nr hv0 (by omega) hF hz hc hr) ?_
    refine w_assign (by constructor) ?_
    exact hRR _ (EL.cons (.inr rfl) (EL.cons (.inr rfl) (EL.cons (.inr rfl) (EL.cons (.inr (by first | rfl | (simp only [els]; done) | simp)) (EL.cons (.inl rfl) (EL.cons (.inl rfl) (EL.cons (.inl rfl) (EL.cons (.inr rfl) (EL.cons (.inr rfl) (EL.cons (.inr rfl) (EL.cons (.inr rfl) (EL.refl _))))))))))))
  apply sr tokTB (by kernel_rfl)
  · intro RR hRR
    refine w_move (by constructor) ?_
    refine w_neq rfl rfl ?_
    exact hRR
  refine snd_cond_true rfl ?_
  apply sr tokTB (by kernel_rfl)
  · intro RR hRR
    refine w_move (by constructor) ?_
    refine w_assign (by constructor) ?_
    refine w_assign (by constructor) ?_
    exact hRR
  refine snd_ret ?_
  exact rt_tt (T := TB) (fun V => rfl) (fun V => rfl)
theorem c_iLegNumber_nc {p : Int} {n : Nat} {T : Nat → Nat → Nat → Int} {fo : Nat → Int} (hv0 : VN p n T fo) {M : Nat} {F : Nat → Nat → Int} (hM : M ≤ 6) (hF : ∀ i, B8 (F i)) (hz : VZ p n T fo M F) (hc : ¬ comN n T) {g : Int} (hg : 0 ≤ g ∧ g ≤ 30) : ACalls Try.prog TB 31 [algA p (n : Int) T fo, .int .i64 g, vlA M F] (.tup 2 (pairA (.int .i64 (0)) (.int .i64 5))) [] := by
  refine acalls_of tokTB Try.func31 rfl rfl (Nat.le_of_ble_eq_true rfl) ?_
  apply sr tokTB (by kernel_rfl)
  · intro RR hRR
    refine w_boxc (HV.eq (by constructor)) (by exact trivial) ?_
    refine w_assign (by constructor) ?_
    refine w_assign (by constructor) ?_
    exact hRR
  refine snd_seq ?_
  apply sdG (env' := (8, _) :: (21, _) :: (20, _) :: (19, .bool (decide ((M : Int) ≤ 6))) :: (18, .any) :: (17, .any) :: (16, .any) :: (15, _) :: (14, _) :: (13, _) :: (12, _) :: _) tokTB mixed (by kernel_rfl) (by kernel_rfl)
  · intro RR hRR
    refine w_ldc rfl kn34 (by constructor) (by exact sz34.symm) (by exact ag34.symm) ?_
    refine w_move (by constructor) ?_
    refine y_call rfl (ec exn) (in_both hg ▸ c_isGenus) ?_
    refine w_move (by constructor) ?_
    refine w_g_on rfl rfl rfl ?_
    refine w_move (by constructor) ?_
    refine w_g_on rfl rfl rfl ?_
    first | refine w_len_r rfl rfl und45 ?_ | refine w_len_o rfl rfl und45 ?_ | refine w_len_n rfl rfl und45 ?_
    refine w_g_on rfl rfl rfl ?_
    refine w_leq rfl rfl ?_
    refine w_pick_1 rfl rfl (by constructor) ?_
    refine w_move (by constructor) ?_
    refine y_call rfl (exc exp_alg (exc (by exact congrArg AV.bool (decide_eq_true (by omega))) (exc ex_vl exn))) (c_genusOk_nc hv0 (by omega) hF hz hc) ?_
    refine w_assign (by constructor) ?_
    exact hRR _ (EL.cons (.inr rfl) (EL.cons (.inr rfl) (EL.cons (.inr rfl) (EL.cons (.inr (by first | rfl | (simp only [els]; done) | simp)) (EL.cons (.inl rfl) (EL.cons (.inl rfl) (EL.cons (.inl rfl) (EL.cons (.inr rfl) (EL.cons (.inr rfl) (EL.cons (.inr rfl) (EL.cons (.inr rfl) (EL.refl _))))))))))))
  apply sr tokTB (by kernel_rfl)
  · intro RR hRR
    refine w_move (by constructor) ?_
    refine w_neq rfl rfl ?_
    exact hRR
  refine snd_cond_true rfl ?_
  apply sr tokTB (by kernel_rfl)
  · intro RR hRR
    refine w_move (by constructor) ?_
    refine w_assign (by constructor) ?_
    refine w_assign (by constructor) ?_
    exact hRR
  refine snd_ret ?_
  exact rt_tt (T := TB) (fun V => rfl) (fun V => rfl)
theorem c_iLegNumber_no0 {p n : Int} {T : Nat → Nat → Nat → Int} {fo : Nat → Int} (hT : RB T) (hf : RV fo) {M : Nat} {F : Nat → Nat → Int} (hM : M ≤ 16777216) (hF : ∀ i, B8 (F i)) (hz : ¬ VZ p n T fo M F) {g : Int} (hg : ¬ (0 ≤ g ∧ g ≤ 30)) : ACalls Try.prog TB 31 [algA p n T fo, .int .i64 g, vlA M F] (.tup 2 (pairA (.int .i64 (0)) (.int .i64 1))) [] := by
  refine acalls_of tokTB Try.func31 rfl rfl (Nat.le_of_ble_eq_true rfl) ?_
  apply sr tokTB (by kernel_rfl)
  · intro RR hRR
    refine w_boxc (HV.eq (by constructor)) (by exact trivial) ?_
    refine w_assign (by constructor) ?_
    refine w_assign (by constructor) ?_
    exact hRR
  refine snd_seq ?_
  apply sdG (env' := (8, _) :: (21, _) :: (20, _) :: (19, .bool false) :: (18, .any) :: (17, .any) :: (16, .any) :: (15, _) :: (14, _) :: (13, _) :: (12, _) :: _) tokTB mixed (by kernel_rfl) (by kernel_rfl)
  · intro RR hRR
    refine w_ldc rfl kn34 (by constructor) (by exact sz34.symm) (by exact ag34.symm) ?_
    refine w_move (by constructor) ?_
    refine y_call rfl (ec exn) (in_none hg ▸ c_isGenus) ?_
    refine w_move (by constructor) ?_
    refine w_g_off rfl rfl (by decide) ?_
    refine w_g_off rfl rfl (by decide) ?_
    refine w_g_off rfl rfl (by decide) ?_
    refine w_pick_0 rfl rfl (by constructor) ?_
    refine w_move (by constructor) ?_
    refine y_call rfl (exc exp_alg (exc (by exact rfl) (exc ex_vl exn))) (c_genusOk_no (b := false) hT hf hM hF hz) ?_
    refine w_assign (by constructor) ?_
    exact hRR _ (EL.cons (.inr rfl) (EL.cons (.inr rfl) (EL.cons (.inr rfl) (EL.cons (.inr (by first | rfl | (simp only [els]; done) | simp)) (EL.cons (.inl rfl) (EL.cons (.inl rfl) (EL.cons (.inl rfl) (EL.cons (.inr rfl) (EL.cons (.inr rfl) (EL.cons (.inr rfl) (EL.cons (.inr rfl) (EL.refl _))))))))))))
  apply sr tokTB (by kernel_rfl)
  · intro RR hRR
    refine w_move (by constructor) ?_
    refine w_neq rfl rfl ?_
    exact hRR
  refine snd_cond_true rfl ?_
  apply sr tokTB (by kernel_rfl)
  · intro RR hRR
    refine w_move (by constructor) ?_
    refine w_assign (by constructor) ?_
    refine w_assign (by constructor) ?_
    exact hRR
  refine snd_ret ?_
  exact rt_tt (T := TB) (fun V => rfl) (fun V => rfl)
theorem c_iLegNumber_no1 {p n : Int} {T : Nat → Nat → Nat → Int} {fo : Nat → Int} (hT : RB T) (hf : RV fo) {M : Nat} {F : Nat → Nat → Int} (hM : M ≤ 16777216) (hF : ∀ i, B8 (F i)) (hz : ¬ VZ p n T fo M F) {g : Int} (hg : 0 ≤ g ∧ g ≤ 30) : ACalls Try.prog TB 31 [algA p n T fo, .int .i64 g, vlA M F] (.tup 2 (pairA (.int .i64 (0)) (.int .i64 1))) [] := by
  refine acalls_of tokTB Try.func31 rfl rfl (Nat.le_of_ble_eq_true rfl) ?_
  apply sr tokTB (by kernel_rfl)
  · intro RR hRR
    refine w_boxc (HV.eq (by constructor)) (by exact trivial) ?_
    refine w_assign (by constructor) ?_
    refine w_assign (by constructor) ?_
    exact hRR
  refine snd_seq ?_
  apply sdG (env' := (8, _) :: (21, _) :: (20, _) :: (19, .bool (decide ((M : Int) ≤ 6))) :: (18, .any) :: (17, .any) :: (16, .any) :: (15, _) :: (14, _) :: (13, _) :: (12, _) :: _) tokTB mixed (by kernel_rfl) (by kernel_rfl)
  · intro RR hRR
    refine w_ldc rfl kn34 (by constructor) (by exact sz34.symm) (by exact ag34.symm) ?_
    refine w_move (by constructor) ?_
    refine y_call rfl (ec exn) (in_both hg ▸ c_isGenus) ?_
    refine w_move (by constructor) ?_
    refine w_g_on rfl rfl rfl ?_
    refine w_move (by constructor) ?_
    refine w_g_on rfl rfl rfl ?_
    first | refine w_len_r rfl rfl und45 ?_ | refine w_len_o rfl rfl und45 ?_ | refine w_len_n rfl rfl und45 ?_
    refine w_g_on rfl rfl rfl ?_
    refine w_leq rfl rfl ?_
    refine w_pick_1 rfl rfl (by constructor) ?_
    refine w_move (by constructor) ?_
    refine y_call rfl (exc exp_alg (exc (by exact rfl) (exc ex_vl exn))) (c_genusOk_no (b := decide ((M : Int) ≤ 6)) hT hf hM hF hz) ?_
    refine w_assign (by constructor) ?_
    exact hRR _ (EL.cons (.inr rfl) (EL.cons (.inr rfl) (EL.cons (.inr rfl) (EL.cons (.inr (by first | rfl | (simp only [els]; done) | simp)) (EL.cons (.inl rfl) (EL.cons (.inl rfl) (EL.cons (.inl rfl) (EL.cons (.inr rfl) (EL.cons (.inr rfl) (EL.cons (.inr rfl) (EL.cons (.inr rfl) (EL.refl _))))))))))))
  apply sr tokTB (by kernel_rfl)
  · intro RR hRR
    refine w_move (by constructor) ?_
    refine w_neq rfl rfl ?_
    exact hRR
  refine snd_cond_true rfl ?_
  apply sr tokTB (by kernel_rfl)
  · intro RR hRR
    refine w_move (by constructor) ?_
    refine w_assign (by constructor) ?_
    refine w_assign (by constructor) ?_
    exact hRR
  refine snd_ret ?_
  exact rt_tt (T := TB) (fun V => rfl) (fun V => rfl)
theorem c_iLegNumber_no {p n : Int} {T : Nat → Nat → Nat → Int} {fo : Nat → Int} (hT : RB T) (hf : RV fo) {M : Nat} {F : Nat → Nat → Int} (hM : M ≤ 16777216) (hF : ∀ i, B8 (F i)) (hz : ¬ VZ p n T fo M F) {g : Int} : ACalls Try.prog TB 31 [algA p n T fo, .int .i64 g, vlA M F] (.tup 2 (pairA (.int .i64 0) (.int .i64 1))) [] := by
  by_cases hg : 0 ≤ g ∧ g ≤ 30
  · exact c_iLegNumber_no1 hT hf hM hF hz hg
  · exact c_iLegNumber_no0 hT hf hM hF hz hg
theorem c_l02Number_ok {p : Int} {n : Nat} {T : Nat → Nat → Nat → Int} {fo : Nat → Int} (hv0 : VN p n T fo) {M : Nat} {F : Nat → Nat → Int} (hM : M ≤ 6) (hF : ∀ i, B8 (F i)) (hz : VZ p n T fo M F) (hc : comN n T) (hr : rankT p n T fo = n) {k : Nat} (hk : k ≤ 30) : ACalls Try.prog TB 68 [algA p (n : Int) T fo, .int .i64 (k : Int), vlA M F] (.tup 2 (pairA (.int .i64 (formF p fo (legV p n T (powV p n T (uF p n T) (pr1 p n T (cpM p n (formT p T fo)) n) k) F (M)))) (.int .i64 0))) [] := by
  have hp8 := hv0.p0
  have hn6 := hv0.n6
  have hn0 := hv0.n0
  refine acalls_of tokTB Try.func68 rfl rfl (Nat.le_of_ble_eq_true rfl) ?_
  apply sr tokTB (by kernel_rfl)
  · intro RR hRR
    refine w_boxc (HV.eq (by constructor)) (by exact trivial) ?_
    refine w_assign (by constructor) ?_
    refine w_assign (by constructor) ?_
    exact hRR
  refine snd_seq ?_
  refine snd_block ?_
  apply sr tokTB (by kernel_rfl)
  · intro RR hRR
    refine w_ldc rfl kn34 (by constructor) (by exact sz34.symm) (by exact ag34.symm) ?_
    refine w_move (by constructor) ?_
    refine y_call rfl (exc exp_alg (exc ex_vl exn)) ((vz_code hz ▸ c_l01Code hv0.rb hv0.rv (by omega) hF)) ?_
    refine w_neq rfl rfl ?_
    refine w_assign (by constructor) ?_
    exact hRR
  refine snd_cond_false rfl ?_
  apply srG (env' := (15, .bool (decide ((M : Int) > 6))) :: (23, .bool (decide ((M : Int) > 6))) :: (22, .any) :: (21, .any) :: (20, .any) :: (19, _) :: (18, _) :: (17, _) :: (16, _) :: _) tokTB (by kernel_rfl)
  · intro RR hRR
    refine w_move (by constructor) ?_
    refine y_call rfl (ec (ec (ec exn))) (in_both (show (0 : Int) ≤ (k : Int) ∧ (k : Int) ≤ 30 by omega) ▸ c_l01In) ?_
    refine w_not rfl ?_
    refine w_move (by constructor) ?_
    refine w_g_on rfl rfl rfl ?_
    refine w_move (by constructor) ?_
    refine w_g_on rfl rfl rfl ?_
    first | refine w_len_r rfl rfl und45 ?_ | refine w_len_o rfl rfl und45 ?_ | refine w_len_n rfl rfl und45 ?_
    refine w_g_on rfl rfl rfl ?_
    refine w_gtr rfl rfl ?_
    refine w_pick_0 rfl rfl (by constructor) ?_
    refine w_assign (by constructor) ?_
    exact hRR _ (EL.cons (.inr (by first | rfl | (simp only [els]; done) | simp)) (EL.cons (.inr (by first | rfl | (simp only [els]; done) | simp)) (EL.cons (.inl rfl) (EL.cons (.inl rfl) (EL.cons (.inl rfl) (EL.cons (.inr rfl) (EL.cons (.inr rfl) (EL.cons (.inr rfl) (EL.cons (.inr rfl) (EL.refl _))))))))))
  refine snd_cond_false (by exact congrArg AV.bool (decide_eq_false (by omega))) ?_
  apply srG (env' := (24, .bool (!true)) :: (32, .bool (!true)) :: (31, .any) :: (30, .any) :: (29, .any) :: (28, _) :: (27, _) :: (26, _) :: (25, _) :: _) tokTB (by kernel_rfl)
  · intro RR hRR
    refine w_ldc rfl kn34 (by constructor) (by exact sz34.symm) (by exact ag34.symm) ?_
    refine y_call rfl (ec exn) (((decide_eq_true (hr)) ▸ c_l01Frobenius hv0)) ?_
    refine w_not rfl ?_
    refine w_move (by constructor) ?_
    refine w_g_on rfl rfl rfl ?_
    refine w_ldc rfl kn34 (by constructor) (by exact sz34.symm) (by exact ag34.symm) ?_
    refine w_g_on rfl rfl rfl ?_
    refine y_call rfl (ec exn) (((decide_eq_true ((com_iff hv0).2 hc)) ▸ c_l01Commutative)) ?_
    refine w_g_on rfl rfl rfl ?_
    refine w_not rfl ?_
    refine w_pick_0 rfl rfl (by constructor) ?_
    refine w_assign (by constructor) ?_
    exact hRR _ (EL.cons (.inr (by first | rfl | (simp only [els]; done) | simp)) (EL.cons (.inr (by first | rfl | (simp only [els]; done) | simp)) (EL.cons (.inl rfl) (EL.cons (.inl rfl) (EL.cons (.inl rfl) (EL.cons (.inr rfl) (EL.cons (.inr rfl) (EL.cons (.inr rfl) (EL.cons (.inr rfl) (EL.refl _))))))))))
  refine snd_cond_false rfl ?_
  refine snd_skip ?_
  apply sr tokTB (by kernel_rfl)
  · intro RR hRR
    refine w_ldc rfl kn34 (by constructor) (by exact sz34.symm) (by exact ag34.symm) ?_
    refine w_move (by constructor) ?_
    refine y_call rfl (ec (ec exn)) (c_l02Power hv0 hr (k := k) (by omega)) ?_
    refine w_alloc kn32 rfl zr32 ?_
    refine w_stw rfl (by constructor) kn32 rfl (by exact trivial) (by first | exact trivial | exact ssh_vec | exact ssh_alg | exact ssh_pr | exact ssh_tab | exact ssh_mat | exact ⟨rfl, fun _ => trivial⟩ | exact ⟨rfl, fun _ => by rw [zr32]; exact ssh_vec⟩) (by exact sz32.symm) ?_
    exact hRR
  refine snd_seq ?_
  apply sr tokTB (by kernel_rfl)
  · intro RR hRR
    refine w_assign (by constructor) ?_
    exact hRR
  refine snd_block ?_
  refine snd_loop (S := Nat) (fun i => ([(2, vlA M F), (3, .cptr (algA p (n : Int) T fo)), (8, .ptr 8 0 [] 0 (vecA (fun _ => 0))), (9, .int .i64 (i : Int))], [(8, .one (vecA (fun _ => 0)) (vecA (legV p n T (powV p n T (uF p n T) (pr1 p n T (cpM p n (formT p T fo)) n) k) F (i))))])) (fun i => i ≤ M) (fun i => M - i) (0) ρ0 ?_ ?_ ?_
  · exact ⟨⟨(by first | exact m_vl | exact mt_fz (by exact ⟨(ne_fst rfl), trivial⟩) rfl (fun _ _ => mt_vec (fun _ _ => rfl))), m_calg, ⟨rfl, rfl, rfl, rfl, rfl⟩, (by first | exact m_int rfl | exact m_int (by omega) | exact m_int (by simp; done) | (exact m_int (by simp; omega))), trivial⟩, ⟨⟨rfl, (by first | exact trivial | exact ssh_vec | exact ssh_alg | exact ssh_pr | exact ssh_tab | exact ssh_mat | exact ⟨rfl, fun _ => trivial⟩ | exact ⟨rfl, fun _ => by rw [zr32]; exact ssh_vec⟩), (by first | exact mt_vec (fun _ _ => rfl) | exact mt_mat (fun _ _ _ _ => rfl) | exact mt_tab (fun _ _ _ _ _ _ => rfl) | exact mt_arr0 | exact mt_app (fun _ _ => rfl) rfl | exact ⟨rfl, fun _ _ => mt_row (fun _ _ => rfl)⟩ | exact Mt_closed (V := _) closed_alg (fun _ _ _ => trivial) (by simp))⟩, trivial⟩, ⟨⟨(fun h => by first | exact ⟨rfl, rfl⟩ | exact absurd h (by decide)), trivial⟩, trivial⟩⟩
  · exact Nat.zero_le _
  intro i hi1
  refine sq (env2 := [(2, vlA M F), (3, .cptr (algA p (n : Int) T fo)), (8, .ptr 8 0 [] 0 (vecA (fun _ => 0))), (9, .int .i64 (i : Int))]) (ol2 := [(8, .one (vecA (fun _ => 0)) (vecA (legV p n T (powV p n T (uF p n T) (pr1 p n T (cpM p n (formT p T fo)) n) k) F (i))))]) rfl rfl ?_
  refine snd_seq ?_
  apply sr tokTB (by kernel_rfl)
  · intro RR hRR
    refine w_move (by constructor) ?_
    refine w_move (by constructor) ?_
    refine w_len_r rfl rfl und45 ?_
    refine w_lss rfl rfl ?_
    exact hRR
  refine snd_cond _ rfl (fun hc39 => ?_) (fun hc39 => ?_)
  · try simp only [hcs] at hc39
    have lt_i : i < M := by omega
    refine snd_skip ?_
    refine snd_seq ?_
    refine snd_block ?_
    apply ld tokTB mixed (by kernel_rfl) (by kernel_rfl)
    · intro RR hRR
      refine w_ldc rfl kn34 (by constructor) (by exact sz34.symm) (by exact ag34.symm) ?_
      refine w_ldp rfl kn32 rfl (by constructor) (by exact sz32.symm) (by exact ag32.symm) ?_
      refine w_move (by constructor) ?_
      refine w_move (by constructor) ?_
      refine w_iar rfl rfl und45 kn32 (by exact sz32.symm) ?_ rfl ?_
      · exact ⟨by omega, by omega⟩
      first | refine w_ldc rfl kn32 (by constructor) (by exact sz32.symm) (by exact ag32.symm) ?_ | refine w_ldp rfl kn32 rfl (by constructor) (by exact sz32.symm) (by exact ag32.symm) ?_
      refine y_call rfl (ec (ec (ec exn))) (c_l01Times (u := legV p n T (powV p n T (uF p n T) (pr1 p n T (cpM p n (formT p T fo)) n) k) F (i)) (v := F i) (by omega) (by omega) hv0.n6 hv0.T8 (B8_of (by omega) (legV_Bp (by omega) (powV_Bp (by omega) hv0.u_Bp k) _)) (hF i)) ?_
      refine w_stw rfl (by constructor) kn32 rfl (by exact trivial) (by first | exact trivial | exact ssh_vec | exact ssh_alg | exact ssh_pr | exact ssh_tab | exact ssh_mat | exact ⟨rfl, fun _ => trivial⟩ | exact ⟨rfl, fun _ => by rw [zr32]; exact ssh_vec⟩) (by exact sz32.symm) ?_
      exact hRR
    apply lr tokTB (by kernel_rfl)
    · intro RR hRR
      refine w_move (by constructor) ?_
      refine y_add rfl rfl ?_
      refine w_assign (by constructor) ?_
      exact hRR
    refine ⟨i + 1, ρ0, ?_, (by omega), (by dsimp only; omega)⟩
    exact ⟨⟨(by first | exact m_vl | exact mt_fz (by exact ⟨(ne_fst rfl), trivial⟩) rfl (fun _ _ => mt_vec (fun _ _ => rfl))), m_calg, ⟨rfl, rfl, rfl, rfl, rfl⟩, (by first | exact m_int rfl | exact m_int (by omega) | exact m_int (by simp; done) | (exact m_int (by simp; omega))), trivial⟩, ⟨⟨rfl, (by first | exact trivial | exact ssh_vec | exact ssh_alg | exact ssh_pr | exact ssh_tab | exact ssh_mat | exact ⟨rfl, fun _ => trivial⟩ | exact ⟨rfl, fun _ => by rw [zr32]; exact ssh_vec⟩), (by first | exact mt_vec (fun _ _ => rfl) | exact mt_mat (fun _ _ _ _ => rfl) | exact mt_tab (fun _ _ _ _ _ _ => rfl) | exact mt_arr0 | exact mt_app (fun _ _ => rfl) rfl | exact ⟨rfl, fun _ _ => mt_row (fun _ _ => rfl)⟩ | exact Mt_closed (V := _) closed_alg (fun _ _ _ => trivial) (by simp))⟩, trivial⟩, ⟨⟨(fun h => by first | exact ⟨rfl, rfl⟩ | exact absurd h (by decide)), trivial⟩, trivial⟩⟩
  · try simp only [hcs] at hc39
    have ge_i : M = i := by omega
    subst ge_i
    refine snd_exit ?_
    apply sr tokTB (by kernel_rfl)
    · intro RR hRR
      refine w_ldc rfl kn34 (by constructor) (by exact sz34.symm) (by exact ag34.symm) ?_
      refine w_ldp rfl kn32 rfl (by constructor) (by exact sz32.symm) (by exact ag32.symm) ?_
      refine y_call rfl (ec (ec exn)) (c_l01Form (v := legV p n T (powV p n T (uF p n T) (pr1 p n T (cpM p n (formT p T fo)) n) k) F (M)) (by omega) hv0.f8 (B8_of (by omega) (legV_Bp (by omega) (powV_Bp (by omega) hv0.u_Bp k) _))) ?_
      refine w_assign (by constructor) ?_
      refine w_assign (by constructor) ?_
      exact hRR
    refine snd_ret ?_
    exact rt_tt (T := TB) (fun V => rfl) (fun V => rfl)
theorem c_l02Number_gb {p : Int} {n : Nat} {T : Nat → Nat → Nat → Int} {fo : Nat → Int} (hv0 : VN p n T fo) {M : Nat} {F : Nat → Nat → Int} (hM : M ≤ 16777216) (hF : ∀ i, B8 (F i)) (hz : VZ p n T fo M F) {g : Int} (hg : ¬ (0 ≤ g ∧ g ≤ 30)) : ACalls Try.prog TB 68 [algA p (n : Int) T fo, .int .i64 g, vlA M F] (.tup 2 (pairA (.int .i64 (0)) (.int .i64 2))) [] := by
  refine acalls_of tokTB Try.func68 rfl rfl (Nat.le_of_ble_eq_true rfl) ?_
  apply sr tokTB (by kernel_rfl)
  · intro RR hRR
    refine w_boxc (HV.eq (by constructor)) (by exact trivial) ?_
    refine w_assign (by constructor) ?_
    refine w_assign (by constructor) ?_
    exact hRR
  refine snd_seq ?_
  refine snd_block ?_
  apply sr tokTB (by kernel_rfl)
  · intro RR hRR
    refine w_ldc rfl kn34 (by constructor) (by exact sz34.symm) (by exact ag34.symm) ?_
    refine w_move (by constructor) ?_
    refine y_call rfl (exc exp_alg (exc ex_vl exn)) ((vz_code hz ▸ c_l01Code hv0.rb hv0.rv (by omega) hF)) ?_
    refine w_neq rfl rfl ?_
    refine w_assign (by constructor) ?_
    exact hRR
  refine snd_cond_false rfl ?_
  apply srG (env' := (15, .bool true) :: (23, .bool true) :: (22, .any) :: (21, .any) :: (20, .any) :: (19, _) :: (18, _) :: (17, _) :: (16, _) :: _) tokTB (by kernel_rfl)
  · intro RR hRR
    refine w_move (by constructor) ?_
    refine y_call rfl (ec (ec (ec exn))) (in_none hg ▸ c_l01In) ?_
    refine w_not rfl ?_
    refine w_move (by constructor) ?_
    refine w_g_off rfl rfl (by decide) ?_
    refine w_g_off rfl rfl (by decide) ?_
    refine w_g_off rfl rfl (by decide) ?_
    refine w_pick_1 rfl rfl (by constructor) ?_
    refine w_assign (by constructor) ?_
    exact hRR _ (EL.cons (.inr (by first | rfl | (simp only [els]; done) | simp)) (EL.cons (.inr (by first | rfl | (simp only [els]; done) | simp)) (EL.cons (.inl rfl) (EL.cons (.inl rfl) (EL.cons (.inl rfl) (EL.cons (.inr rfl) (EL.cons (.inr rfl) (EL.cons (.inr rfl) (EL.cons (.inr rfl) (EL.refl _))))))))))
  refine snd_cond_true rfl ?_
  apply sr tokTB (by kernel_rfl)
  · intro RR hRR
    refine w_assign (by constructor) ?_
    refine w_assign (by constructor) ?_
    exact hRR
  refine snd_ret ?_
  exact rt_tt (T := TB) (fun V => rfl) (fun V => rfl)
theorem c_l02Number_mb {p : Int} {n : Nat} {T : Nat → Nat → Nat → Int} {fo : Nat → Int} (hv0 : VN p n T fo) {M : Nat} {F : Nat → Nat → Int} (hM : M ≤ 16777216) (hM6 : ¬ M ≤ 6) (hF : ∀ i, B8 (F i)) (hz : VZ p n T fo M F) {g : Int} (hg : 0 ≤ g ∧ g ≤ 30) : ACalls Try.prog TB 68 [algA p (n : Int) T fo, .int .i64 g, vlA M F] (.tup 2 (pairA (.int .i64 (0)) (.int .i64 2))) [] := by
  refine acalls_of tokTB Try.func68 rfl rfl (Nat.le_of_ble_eq_true rfl) ?_
  apply sr tokTB (by kernel_rfl)
  · intro RR hRR
    refine w_boxc (HV.eq (by constructor)) (by exact trivial) ?_
    refine w_assign (by constructor) ?_
    refine w_assign (by constructor) ?_
    exact hRR
  refine snd_seq ?_
  refine snd_block ?_
  apply sr tokTB (by kernel_rfl)
  · intro RR hRR
    refine w_ldc rfl kn34 (by constructor) (by exact sz34.symm) (by exact ag34.symm) ?_
    refine w_move (by constructor) ?_
    refine y_call rfl (exc exp_alg (exc ex_vl exn)) ((vz_code hz ▸ c_l01Code hv0.rb hv0.rv (by omega) hF)) ?_
    refine w_neq rfl rfl ?_
    refine w_assign (by constructor) ?_
    exact hRR
  refine snd_cond_false rfl ?_
  apply srG (env' := (15, .bool (decide ((M : Int) > 6))) :: (23, .bool (decide ((M : Int) > 6))) :: (22, .any) :: (21, .any) :: (20, .any) :: (19, _) :: (18, _) :: (17, _) :: (16, _) :: _) tokTB (by kernel_rfl)
  · intro RR hRR
    refine w_move (by constructor) ?_
    refine y_call rfl (ec (ec (ec exn))) (in_both hg ▸ c_l01In) ?_
    refine w_not rfl ?_
    refine w_move (by constructor) ?_
    refine w_g_on rfl rfl rfl ?_
    refine w_move (by constructor) ?_
    refine w_g_on rfl rfl rfl ?_
    first | refine w_len_r rfl rfl und45 ?_ | refine w_len_o rfl rfl und45 ?_ | refine w_len_n rfl rfl und45 ?_
    refine w_g_on rfl rfl rfl ?_
    refine w_gtr rfl rfl ?_
    refine w_pick_0 rfl rfl (by constructor) ?_
    refine w_assign (by constructor) ?_
    exact hRR _ (EL.cons (.inr (by first | rfl | (simp only [els]; done) | simp)) (EL.cons (.inr (by first | rfl | (simp only [els]; done) | simp)) (EL.cons (.inl rfl) (EL.cons (.inl rfl) (EL.cons (.inl rfl) (EL.cons (.inr rfl) (EL.cons (.inr rfl) (EL.cons (.inr rfl) (EL.cons (.inr rfl) (EL.refl _))))))))))
  refine snd_cond_true (by exact congrArg AV.bool (decide_eq_true (by omega))) ?_
  apply sr tokTB (by kernel_rfl)
  · intro RR hRR
    refine w_assign (by constructor) ?_
    refine w_assign (by constructor) ?_
    exact hRR
  refine snd_ret ?_
  exact rt_tt (T := TB) (fun V => rfl) (fun V => rfl)
theorem c_l02Number_nr {p : Int} {n : Nat} {T : Nat → Nat → Nat → Int} {fo : Nat → Int} (hv0 : VN p n T fo) {M : Nat} {F : Nat → Nat → Int} (hM : M ≤ 6) (hF : ∀ i, B8 (F i)) (hz : VZ p n T fo M F) (hr : ¬ rankT p n T fo = n) {g : Int} (hg : 0 ≤ g ∧ g ≤ 30) : ACalls Try.prog TB 68 [algA p (n : Int) T fo, .int .i64 g, vlA M F] (.tup 2 (pairA (.int .i64 (0)) (.int .i64 5))) [] := by
  refine acalls_of tokTB Try.func68 rfl rfl (Nat.le_of_ble_eq_true rfl) ?_
  apply sr tokTB (by kernel_rfl)
  · intro RR hRR
    refine w_boxc (HV.eq (by constructor)) (by exact trivial) ?_
    refine w_assign (by constructor) ?_
    refine w_assign (by constructor) ?_
    exact hRR
  refine snd_seq ?_
  refine snd_block ?_
  apply sr tokTB (by kernel_rfl)
  · intro RR hRR
    refine w_ldc rfl kn34 (by constructor) (by exact sz34.symm) (by exact ag34.symm) ?_
    refine w_move (by constructor) ?_
    refine y_call rfl (exc exp_alg (exc ex_vl exn)) ((vz_code hz ▸ c_l01Code hv0.rb hv0.rv (by omega) hF)) ?_
    refine w_neq rfl rfl ?_
    refine w_assign (by constructor) ?_
    exact hRR
  refine snd_cond_false rfl ?_
  apply srG (env' := (15, .bool (decide ((M : Int) > 6))) :: (23, .bool (decide ((M : Int) > 6))) :: (22, .any) :: (21, .any) :: (20, .any) :: (19, _) :: (18, _) :: (17, _) :: (16, _) :: _) tokTB (by kernel_rfl)
  · intro RR hRR
    refine w_move (by constructor) ?_
    refine y_call rfl (ec (ec (ec exn))) (in_both hg ▸ c_l01In) ?_
    refine w_not rfl ?_
    refine w_move (by constructor) ?_
    refine w_g_on rfl rfl rfl ?_
    refine w_move (by constructor) ?_
    refine w_g_on rfl rfl rfl ?_
    first | refine w_len_r rfl rfl und45 ?_ | refine w_len_o rfl rfl und45 ?_ | refine w_len_n rfl rfl und45 ?_
    refine w_g_on rfl rfl rfl ?_
    refine w_gtr rfl rfl ?_
    refine w_pick_0 rfl rfl (by constructor) ?_
    refine w_assign (by constructor) ?_
    exact hRR _ (EL.cons (.inr (by first | rfl | (simp only [els]; done) | simp)) (EL.cons (.inr (by first | rfl | (simp only [els]; done) | simp)) (EL.cons (.inl rfl) (EL.cons (.inl rfl) (EL.cons (.inl rfl) (EL.cons (.inr rfl) (EL.cons (.inr rfl) (EL.cons (.inr rfl) (EL.cons (.inr rfl) (EL.refl _))))))))))
  refine snd_cond_false (by exact congrArg AV.bool (decide_eq_false (by omega))) ?_
  apply srG (env' := (24, .bool true) :: (32, .bool true) :: (31, .any) :: (30, .any) :: (29, .any) :: (28, _) :: (27, _) :: (26, _) :: (25, _) :: _) tokTB (by kernel_rfl)
  · intro RR hRR
    refine w_ldc rfl kn34 (by constructor) (by exact sz34.symm) (by exact ag34.symm) ?_
    refine y_call rfl (ec exn) (((decide_eq_false (hr)) ▸ c_l01Frobenius hv0)) ?_
    refine w_not rfl ?_
    refine w_move (by constructor) ?_
    refine w_g_off rfl rfl (by decide) ?_
    refine w_g_off rfl rfl (by decide) ?_
    refine w_g_off rfl rfl (by decide) ?_
    refine w_pick_1 rfl rfl (by constructor) ?_
    refine w_assign (by constructor) ?_
    exact hRR _ (EL.cons (.inr (by first | rfl | (simp only [els]; done) | simp)) (EL.cons (.inr (by first | rfl | (simp only [els]; done) | simp)) (EL.cons (.inl rfl) (EL.cons (.inl rfl) (EL.cons (.inl rfl) (EL.cons (.inr rfl) (EL.cons (.inr rfl) (EL.cons (.inr rfl) (EL.cons (.inr rfl) (EL.refl _))))))))))
  refine snd_cond_true rfl ?_
  apply sr tokTB (by kernel_rfl)
  · intro RR hRR
    refine w_assign (by constructor) ?_
    refine w_assign (by constructor) ?_
    exact hRR
  refine snd_ret ?_
  exact rt_tt (T := TB) (fun V => rfl) (fun V => rfl)
theorem c_l02Number_nc {p : Int} {n : Nat} {T : Nat → Nat → Nat → Int} {fo : Nat → Int} (hv0 : VN p n T fo) {M : Nat} {F : Nat → Nat → Int} (hM : M ≤ 6) (hF : ∀ i, B8 (F i)) (hz : VZ p n T fo M F) (hc : ¬ comN n T) (hr : rankT p n T fo = n) {g : Int} (hg : 0 ≤ g ∧ g ≤ 30) : ACalls Try.prog TB 68 [algA p (n : Int) T fo, .int .i64 g, vlA M F] (.tup 2 (pairA (.int .i64 (0)) (.int .i64 5))) [] := by
  refine acalls_of tokTB Try.func68 rfl rfl (Nat.le_of_ble_eq_true rfl) ?_
  apply sr tokTB (by kernel_rfl)
  · intro RR hRR
    refine w_boxc (HV.eq (by constructor)) (by exact trivial) ?_
    refine w_assign (by constructor) ?_
    refine w_assign (by constructor) ?_
    exact hRR
  refine snd_seq ?_
  refine snd_block ?_
  apply sr tokTB (by kernel_rfl)
  · intro RR hRR
    refine w_ldc rfl kn34 (by constructor) (by exact sz34.symm) (by exact ag34.symm) ?_
    refine w_move (by constructor) ?_
    refine y_call rfl (exc exp_alg (exc ex_vl exn)) ((vz_code hz ▸ c_l01Code hv0.rb hv0.rv (by omega) hF)) ?_
    refine w_neq rfl rfl ?_
    refine w_assign (by constructor) ?_
    exact hRR
  refine snd_cond_false rfl ?_
  apply srG (env' := (15, .bool (decide ((M : Int) > 6))) :: (23, .bool (decide ((M : Int) > 6))) :: (22, .any) :: (21, .any) :: (20, .any) :: (19, _) :: (18, _) :: (17, _) :: (16, _) :: _) tokTB (by kernel_rfl)
  · intro RR hRR
    refine w_move (by constructor) ?_
    refine y_call rfl (ec (ec (ec exn))) (in_both hg ▸ c_l01In) ?_
    refine w_not rfl ?_
    refine w_move (by constructor) ?_
    refine w_g_on rfl rfl rfl ?_
    refine w_move (by constructor) ?_
    refine w_g_on rfl rfl rfl ?_
    first | refine w_len_r rfl rfl und45 ?_ | refine w_len_o rfl rfl und45 ?_ | refine w_len_n rfl rfl und45 ?_
    refine w_g_on rfl rfl rfl ?_
    refine w_gtr rfl rfl ?_
    refine w_pick_0 rfl rfl (by constructor) ?_
    refine w_assign (by constructor) ?_
    exact hRR _ (EL.cons (.inr (by first | rfl | (simp only [els]; done) | simp)) (EL.cons (.inr (by first | rfl | (simp only [els]; done) | simp)) (EL.cons (.inl rfl) (EL.cons (.inl rfl) (EL.cons (.inl rfl) (EL.cons (.inr rfl) (EL.cons (.inr rfl) (EL.cons (.inr rfl) (EL.cons (.inr rfl) (EL.refl _))))))))))
  refine snd_cond_false (by exact congrArg AV.bool (decide_eq_false (by omega))) ?_
  apply srG (env' := (24, .bool (!false)) :: (32, .bool (!false)) :: (31, .any) :: (30, .any) :: (29, .any) :: (28, _) :: (27, _) :: (26, _) :: (25, _) :: _) tokTB (by kernel_rfl)
  · intro RR hRR
    refine w_ldc rfl kn34 (by constructor) (by exact sz34.symm) (by exact ag34.symm) ?_
    refine y_call rfl (ec exn) (((decide_eq_true (hr)) ▸ c_l01Frobenius hv0)) ?_
    refine w_not rfl ?_
    refine w_move (by constructor) ?_
    refine w_g_on rfl rfl rfl ?_
    refine w_ldc rfl kn34 (by constructor) (by exact sz34.symm) (by exact ag34.symm) ?_
    refine w_g_on rfl rfl rfl ?_
    refine y_call rfl (ec exn) (((decide_eq_false (fun q => hc ((com_iff hv0).1 q))) ▸ c_l01Commutative)) ?_
    refine w_g_on rfl rfl rfl ?_
    refine w_not rfl ?_
    refine w_pick_0 rfl rfl (by constructor) ?_
    refine w_assign (by constructor) ?_
    exact hRR _ (EL.cons (.inr (by first | rfl | (simp only [els]; done) | simp)) (EL.cons (.inr (by first | rfl | (simp only [els]; done) | simp)) (EL.cons (.inl rfl) (EL.cons (.inl rfl) (EL.cons (.inl rfl) (EL.cons (.inr rfl) (EL.cons (.inr rfl) (EL.cons (.inr rfl) (EL.cons (.inr rfl) (EL.refl _))))))))))
  refine snd_cond_true rfl ?_
  apply sr tokTB (by kernel_rfl)
  · intro RR hRR
    refine w_assign (by constructor) ?_
    refine w_assign (by constructor) ?_
    exact hRR
  refine snd_ret ?_
  exact rt_tt (T := TB) (fun V => rfl) (fun V => rfl)
theorem c_l02Number_no {p n : Int} {T : Nat → Nat → Nat → Int} {fo : Nat → Int} (hT : RB T) (hf : RV fo) {M : Nat} {F : Nat → Nat → Int} (hM : M ≤ 16777216) (hF : ∀ i, B8 (F i)) (hz : ¬ VZ p n T fo M F) {g : Int} : ACalls Try.prog TB 68 [algA p n T fo, .int .i64 g, vlA M F] (.tup 2 (pairA (.int .i64 (0)) (.int .i64 1))) [] := by
  refine acalls_of tokTB Try.func68 rfl rfl (Nat.le_of_ble_eq_true rfl) ?_
  apply sr tokTB (by kernel_rfl)
  · intro RR hRR
    refine w_boxc (HV.eq (by constructor)) (by exact trivial) ?_
    refine w_assign (by constructor) ?_
    refine w_assign (by constructor) ?_
    exact hRR
  refine snd_seq ?_
  refine snd_block ?_
  apply sr tokTB (by kernel_rfl)
  · intro RR hRR
    refine w_ldc rfl kn34 (by constructor) (by exact sz34.symm) (by exact ag34.symm) ?_
    refine w_move (by constructor) ?_
    refine y_call rfl (exc exp_alg (exc ex_vl exn)) ((vz_code1 hz ▸ c_l01Code hT hf hM hF)) ?_
    refine w_neq rfl rfl ?_
    refine w_assign (by constructor) ?_
    exact hRR
  refine snd_cond_true rfl ?_
  apply sr tokTB (by kernel_rfl)
  · intro RR hRR
    refine w_assign (by constructor) ?_
    refine w_assign (by constructor) ?_
    exact hRR
  refine snd_ret ?_
  exact rt_tt (T := TB) (fun V => rfl) (fun V => rfl)
end Go.Am

set_option linter.unusedVariables false
set_option linter.unusedSimpArgs false
set_option maxRecDepth 4000
namespace Go.Am
attribute [local irreducible] retQ retQp
open Go.Proofs
theorem c_sLegNumber_ok {p : Int} {n : Nat} {T : Nat → Nat → Nat → Int} {fo : Nat → Int} (hv0 : VN p n T fo) {M : Nat} {F : Nat → Nat → Int} (hM : M ≤ 6) (hF : ∀ i, B8 (F i)) (hz : VZ p n T fo M F) (hc : comN n T) (hr : rankT p n T fo = n) {k : Nat} (hk : k ≤ 30) : ACalls Try.prog TB 29 [algA p (n : Int) T fo, .int .i64 (k : Int), vlA M F] (.tup 2 (pairA (.int .i64 (formF p fo (legV p n T (powV p n T (uF p n T) (pr1 p n T (cpM p n (formT p T fo)) n) k) F (M)))) (.int .i64 0))) [] := by
  refine acalls_of tokTB Try.func29 rfl rfl (Nat.le_of_ble_eq_true rfl) ?_
  apply sr tokTB (by kernel_rfl)
  · intro RR hRR
    refine w_boxc (HV.eq (by constructor)) (by exact trivial) ?_
    refine w_assign (by constructor) ?_
    refine w_assign (by constructor) ?_
    exact hRR
  apply sr tokTB (by kernel_rfl)
  · intro RR hRR
    refine w_ldc rfl kn34 (by constructor) (by exact sz34.symm) (by exact ag34.symm) ?_
    refine w_move (by constructor) ?_
    refine w_move (by constructor) ?_
    refine y_call rfl (exc exp_alg (exc (by exact rfl) (exc ex_vl exn))) (c_l02Number_ok hv0 hM hF hz hc hr hk) ?_
    refine w_move (by constructor) ?_
    refine w_ext rfl (by decide) (by constructor) ?_
    refine w_ext rfl (by decide) (by constructor) ?_
    refine w_assign (by constructor) ?_
    refine w_assign (by constructor) ?_
    exact hRR
  apply sr tokTB (by kernel_rfl)
  · intro RR hRR
    refine w_move (by constructor) ?_
    refine w_move (by constructor) ?_
    refine w_assign (by constructor) ?_
    refine w_assign (by constructor) ?_
    exact hRR
  refine snd_ret ?_
  exact rt_tt (T := TB) (fun V => rfl) (fun V => rfl)
theorem c_sLegNumber_gb {p : Int} {n : Nat} {T : Nat → Nat → Nat → Int} {fo : Nat → Int} (hv0 : VN p n T fo) {M : Nat} {F : Nat → Nat → Int} (hM : M ≤ 1048576) (hF : ∀ i, B8 (F i)) (hz : VZ p n T fo M F) {g : Int} (hg : ¬ (0 ≤ g ∧ g ≤ 30)) : ACalls Try.prog TB 29 [algA p (n : Int) T fo, .int .i64 g, vlA M F] (.tup 2 (pairA (.int .i64 (0)) (.int .i64 2))) [] := by
  refine acalls_of tokTB Try.func29 rfl rfl (Nat.le_of_ble_eq_true rfl) ?_
  apply sr tokTB (by kernel_rfl)
  · intro RR hRR
    refine w_boxc (HV.eq (by constructor)) (by exact trivial) ?_
    refine w_assign (by constructor) ?_
    refine w_assign (by constructor) ?_
    exact hRR
  apply sr tokTB (by kernel_rfl)
  · intro RR hRR
    refine w_ldc rfl kn34 (by constructor) (by exact sz34.symm) (by exact ag34.symm) ?_
    refine w_move (by constructor) ?_
    refine w_move (by constructor) ?_
    refine y_call rfl (exc exp_alg (exc (by exact rfl) (exc ex_vl exn))) (c_l02Number_gb hv0 (by omega) hF hz hg) ?_
    refine w_move (by constructor) ?_
    refine w_ext rfl (by decide) (by constructor) ?_
    refine w_ext rfl (by decide) (by constructor) ?_
    refine w_assign (by constructor) ?_
    refine w_assign (by constructor) ?_
    exact hRR
  apply sr tokTB (by kernel_rfl)
  · intro RR hRR
    refine w_move (by constructor) ?_
    refine w_move (by constructor) ?_
    refine w_assign (by constructor) ?_
    refine w_assign (by constructor) ?_
    exact hRR
  refine snd_ret ?_
  exact rt_tt (T := TB) (fun V => rfl) (fun V => rfl)
theorem c_sLegNumber_mb {p : Int} {n : Nat} {T : Nat → Nat → Nat → Int} {fo : Nat → Int} (hv0 : VN p n T fo) {M : Nat} {F : Nat → Nat → Int} (hM : M ≤ 1048576) (hM6 : ¬ M ≤ 6) (hF : ∀ i, B8 (F i)) (hz : VZ p n T fo M F) {g : Int} (hg : 0 ≤ g ∧ g ≤ 30) : ACalls Try.prog TB 29 [algA p (n : Int) T fo, .int .i64 g, vlA M F] (.tup 2 (pairA (.int .i64 (0)) (.int .i64 2))) [] := by
  refine acalls_of tokTB Try.func29 rfl rfl (Nat.le_of_ble_eq_true rfl) ?_
  apply sr tokTB (by kernel_rfl)
  · intro RR hRR
    refine w_boxc (HV.eq (by constructor)) (by exact trivial) ?_
    refine w_assign (by constructor) ?_
    refine w_assign (by constructor) ?_
    exact hRR
  apply sr tokTB (by kernel_rfl)
  · intro RR hRR
    refine w_ldc rfl kn34 (by constructor) (by exact sz34.symm) (by exact ag34.symm) ?_
    refine w_move (by constructor) ?_
    refine w_move (by constructor) ?_
    refine y_call rfl (exc exp_alg (exc (by exact rfl) (exc ex_vl exn))) (c_l02Number_mb hv0 (by omega) hM6 hF hz hg) ?_
    refine w_move (by constructor) ?_
    refine w_ext rfl (by decide) (by constructor) ?_
    refine w_ext rfl (by decide) (by constructor) ?_
    refine w_assign (by constructor) ?_
    refine w_assign (by constructor) ?_
    exact hRR
  apply sr tokTB (by kernel_rfl)
  · intro RR hRR
    refine w_move (by constructor) ?_
    refine w_move (by constructor) ?_
    refine w_assign (by constructor) ?_
    refine w_assign (by constructor) ?_
    exact hRR
  refine snd_ret ?_
  exact rt_tt (T := TB) (fun V => rfl) (fun V => rfl)
theorem c_sLegNumber_ca {p : Int} {n : Nat} {T : Nat → Nat → Nat → Int} {fo : Nat → Int} (hv0 : VN p n T fo) {M : Nat} {F : Nat → Nat → Int} (hM : M ≤ 6) (hF : ∀ i, B8 (F i)) (hz : VZ p n T fo M F) (hc : comN n T) (hr : ¬ rankT p n T fo = n) {g : Int} (hg : 0 ≤ g ∧ g ≤ 30) : ACalls Try.prog TB 29 [algA p (n : Int) T fo, .int .i64 g, vlA M F] (.tup 2 (pairA (.int .i64 (0)) (.int .i64 5))) [] := by
  refine acalls_of tokTB Try.func29 rfl rfl (Nat.le_of_ble_eq_true rfl) ?_
  apply sr tokTB (by kernel_rfl)
  · intro RR hRR
    refine w_boxc (HV.eq (by constructor)) (by exact trivial) ?_
    refine w_assign (by constructor) ?_
    refine w_assign (by constructor) ?_
    exact hRR
  apply sr tokTB (by kernel_rfl)
  · intro RR hRR
    refine w_ldc rfl kn34 (by constructor) (by exact sz34.symm) (by exact ag34.symm) ?_
    refine w_move (by constructor) ?_
    refine w_move (by constructor) ?_
    refine y_call rfl (exc exp_alg (exc (by exact rfl) (exc ex_vl exn))) (c_l02Number_nr hv0 hM hF hz hr hg) ?_
    refine w_move (by constructor) ?_
    refine w_ext rfl (by decide) (by constructor) ?_
    refine w_ext rfl (by decide) (by constructor) ?_
    refine w_assign (by constructor) ?_
    refine w_assign (by constructor) ?_
    exact hRR
  apply sr tokTB (by kernel_rfl)
  · intro RR hRR
    refine w_move (by constructor) ?_
    refine w_move (by constructor) ?_
    refine w_assign (by constructor) ?_
    refine w_assign (by constructor) ?_
    exact hRR
  refine snd_ret ?_
  exact rt_tt (T := TB) (fun V => rfl) (fun V => rfl)
theorem c_sLegNumber_cb {p : Int} {n : Nat} {T : Nat → Nat → Nat → Int} {fo : Nat → Int} (hv0 : VN p n T fo) {M : Nat} {F : Nat → Nat → Int} (hM : M ≤ 6) (hF : ∀ i, B8 (F i)) (hz : VZ p n T fo M F) (hc : ¬ comN n T) (hr : rankT p n T fo = n) {g : Int} (hg : 0 ≤ g ∧ g ≤ 30) : ACalls Try.prog TB 29 [algA p (n : Int) T fo, .int .i64 g, vlA M F] (.tup 2 (pairA (.int .i64 (0)) (.int .i64 5))) [] := by
  refine acalls_of tokTB Try.func29 rfl rfl (Nat.le_of_ble_eq_true rfl) ?_
  apply sr tokTB (by kernel_rfl)
  · intro RR hRR
    refine w_boxc (HV.eq (by constructor)) (by exact trivial) ?_
    refine w_assign (by constructor) ?_
    refine w_assign (by constructor) ?_
    exact hRR
  apply sr tokTB (by kernel_rfl)
  · intro RR hRR
    refine w_ldc rfl kn34 (by constructor) (by exact sz34.symm) (by exact ag34.symm) ?_
    refine w_move (by constructor) ?_
    refine w_move (by constructor) ?_
    refine y_call rfl (exc exp_alg (exc (by exact rfl) (exc ex_vl exn))) (c_l02Number_nc hv0 hM hF hz hc hr hg) ?_
    refine w_move (by constructor) ?_
    refine w_ext rfl (by decide) (by constructor) ?_
    refine w_ext rfl (by decide) (by constructor) ?_
    refine w_assign (by constructor) ?_
    refine w_assign (by constructor) ?_
    exact hRR
  apply sr tokTB (by kernel_rfl)
  · intro RR hRR
    refine w_move (by constructor) ?_
    refine w_move (by constructor) ?_
    refine w_assign (by constructor) ?_
    refine w_assign (by constructor) ?_
    exact hRR
  refine snd_ret ?_
  exact rt_tt (T := TB) (fun V => rfl) (fun V => rfl)
theorem c_sLegNumber_cd {p : Int} {n : Nat} {T : Nat → Nat → Nat → Int} {fo : Nat → Int} (hv0 : VN p n T fo) {M : Nat} {F : Nat → Nat → Int} (hM : M ≤ 6) (hF : ∀ i, B8 (F i)) (hz : VZ p n T fo M F) (hc : ¬ comN n T) (hr : ¬ rankT p n T fo = n) {g : Int} (hg : 0 ≤ g ∧ g ≤ 30) : ACalls Try.prog TB 29 [algA p (n : Int) T fo, .int .i64 g, vlA M F] (.tup 2 (pairA (.int .i64 (0)) (.int .i64 5))) [] := by
  refine acalls_of tokTB Try.func29 rfl rfl (Nat.le_of_ble_eq_true rfl) ?_
  apply sr tokTB (by kernel_rfl)
  · intro RR hRR
    refine w_boxc (HV.eq (by constructor)) (by exact trivial) ?_
    refine w_assign (by constructor) ?_
    refine w_assign (by constructor) ?_
    exact hRR
  apply sr tokTB (by kernel_rfl)
  · intro RR hRR
    refine w_ldc rfl kn34 (by constructor) (by exact sz34.symm) (by exact ag34.symm) ?_
    refine w_move (by constructor) ?_
    refine w_move (by constructor) ?_
    refine y_call rfl (exc exp_alg (exc (by exact rfl) (exc ex_vl exn))) (c_l02Number_nr hv0 hM hF hz hr hg) ?_
    refine w_move (by constructor) ?_
    refine w_ext rfl (by decide) (by constructor) ?_
    refine w_ext rfl (by decide) (by constructor) ?_
    refine w_assign (by constructor) ?_
    refine w_assign (by constructor) ?_
    exact hRR
  apply sr tokTB (by kernel_rfl)
  · intro RR hRR
    refine w_move (by constructor) ?_
    refine w_move (by constructor) ?_
    refine w_assign (by constructor) ?_
    refine w_assign (by constructor) ?_
    exact hRR
  refine snd_ret ?_
  exact rt_tt (T := TB) (fun V => rfl) (fun V => rfl)
theorem c_sLegNumber_no {p n : Int} {T : Nat → Nat → Nat → Int} {fo : Nat → Int} (hT : RB T) (hf : RV fo) {M : Nat} {F : Nat → Nat → Int} (hM : M ≤ 1048576) (hF : ∀ i, B8 (F i)) (hz : ¬ VZ p n T fo M F) {g : Int} : ACalls Try.prog TB 29 [algA p n T fo, .int .i64 g, vlA M F] (.tup 2 (pairA (.int .i64 (0)) (.int .i64 1))) [] := by
  refine acalls_of tokTB Try.func29 rfl rfl (Nat.le_of_ble_eq_true rfl) ?_
  apply sr tokTB (by kernel_rfl)
  · intro RR hRR
    refine w_boxc (HV.eq (by constructor)) (by exact trivial) ?_
    refine w_assign (by constructor) ?_
    refine w_assign (by constructor) ?_
    exact hRR
  apply sr tokTB (by kernel_rfl)
  · intro RR hRR
    refine w_ldc rfl kn34 (by constructor) (by exact sz34.symm) (by exact ag34.symm) ?_
    refine w_move (by constructor) ?_
    refine w_move (by constructor) ?_
    refine y_call rfl (exc exp_alg (exc (by exact rfl) (exc ex_vl exn))) (c_l02Number_no hT hf (by omega) hF hz) ?_
    refine w_move (by constructor) ?_
    refine w_ext rfl (by decide) (by constructor) ?_
    refine w_ext rfl (by decide) (by constructor) ?_
    refine w_assign (by constructor) ?_
    refine w_assign (by constructor) ?_
    exact hRR
  apply sr tokTB (by kernel_rfl)
  · intro RR hRR
    refine w_move (by constructor) ?_
    refine w_move (by constructor) ?_
    refine w_assign (by constructor) ?_
    refine w_assign (by constructor) ?_
    exact hRR
  refine snd_ret ?_
  exact rt_tt (T := TB) (fun V => rfl) (fun V => rfl)
theorem lLegNumber_ok {p : Int} {n : Nat} {T : Nat → Nat → Nat → Int} {fo : Nat → Int} (hv0 : VN p n T fo) {M : Nat} {F : Nat → Nat → Int} (hM : M ≤ 6) (hF : ∀ i, B8 (F i)) (hz : VZ p n T fo M F) (hc : comN n T) (hr : rankT p n T fo = n) {k : Nat} (hk : k ≤ 30) : ACalls Try.prog TB 8 [algA p (n : Int) T fo, .int .i64 (k : Int), vlA M F] (.bool true) [] := by
  refine acalls_of tokTB Try.func8 rfl rfl (Nat.le_of_ble_eq_true rfl) ?_
  apply sr tokTB (by kernel_rfl)
  · intro RR hRR
    refine w_boxc (HV.eq (by constructor)) (by exact trivial) ?_
    refine w_assign (by constructor) ?_
    exact hRR
  apply sr tokTB (by kernel_rfl)
  · intro RR hRR
    refine w_assign (by constructor) ?_
    exact hRR
  apply sr tokTB (by kernel_rfl)
  · intro RR hRR
    refine w_move (by constructor) ?_
    refine w_move (by constructor) ?_
    refine y_call rfl (exc ex_vl (exc (by exact rfl) exn)) (c_szVectorS (F := F) (M := M) (by omega)) ?_
    refine w_assign (by constructor) ?_
    exact hRR
  refine snd_seq ?_
  apply sr tokTB (by kernel_rfl)
  · intro RR hRR
    refine w_move (by constructor) ?_
    refine w_lss rfl rfl ?_
    exact hRR
  refine snd_cond_false (by exact congrArg AV.bool (decide_eq_false (by omega))) ?_
  refine snd_skip ?_
  apply sr tokTB (by kernel_rfl)
  · intro RR hRR
    refine w_ldc rfl kn26 (by constructor) (by exact sz26.symm) (by exact ag26.symm) ?_
    refine y_call rfl (ec exn) (c_toAlgebra) ?_
    refine w_move (by constructor) ?_
    refine w_move (by constructor) ?_
    refine w_call rfl (exc ex_vl exn) (c_toVectorS (F := F) (M := M) (by omega)) (.inl ⟨trivial, ⟨fun _ _ => trivial, trivial⟩⟩) rfl (by constructor) rfl ?_
    refine y_call rfl rfl ((c_sLegNumber_ok hv0 hM hF hz hc hr hk).mt ⟨mt_expc closed_alg (by simp), mt_int0, mt_vl0 rfl, trivial⟩) ?_
    refine w_move (by constructor) ?_
    refine w_ext rfl (by decide) (by constructor) ?_
    refine w_ext rfl (by decide) (by constructor) ?_
    refine w_assign (by constructor) ?_
    refine w_assign (by constructor) ?_
    exact hRR
  apply sr tokTB (by kernel_rfl)
  · intro RR hRR
    refine w_move (by constructor) ?_
    refine w_call rfl (exc ex_vl exn) (c_toVectorS (F := F) (M := M) (by omega)) (.inl ⟨trivial, ⟨fun _ _ => trivial, trivial⟩⟩) rfl (by constructor) rfl ?_
    refine w_assign (by constructor) ?_
    exact hRR
  apply sr tokTB (by kernel_rfl)
  · intro RR hRR
    refine w_ldc rfl kn26 (by constructor) (by exact sz26.symm) (by exact ag26.symm) ?_
    refine y_call rfl (ec exn) (c_toAlgebra) ?_
    refine w_move (by constructor) ?_
    refine w_move (by constructor) ?_
    refine y_call rfl rfl ((c_iLegNumber_ok hv0 hM hF hz hc hr hk).mt ⟨mt_expc closed_alg (by simp), mt_int0, mt_vl0 rfl, trivial⟩) ?_
    refine w_move (by constructor) ?_
    refine w_ext rfl (by decide) (by constructor) ?_
    refine w_ext rfl (by decide) (by constructor) ?_
    refine w_assign (by constructor) ?_
    refine w_assign (by constructor) ?_
    exact hRR
  refine snd_seq ?_
  apply srG (env' := (44, .bool (decide (((formF p fo (legV p n T (powV p n T (uF p n T) (pr1 p n T (cpM p n (formT p T fo)) n) k) F (M)) : Int)) ≠ ((formF p fo (legV p n T (powV p n T (uF p n T) (pr1 p n T (cpM p n (formT p T fo)) n) k) F (M)) : Int))) || decide ((0 : Int) ≠ 0))) :: (43, .any) :: (42, .any) :: (41, .any) :: (40, _) :: (39, _) :: (38, _) :: (37, _) :: _) tokTB (by kernel_rfl)
  · intro RR hRR
    refine w_move (by constructor) ?_
    refine w_move (by constructor) ?_
    refine w_neq rfl rfl ?_
    refine w_move (by constructor) ?_
    refine w_g rfl rfl (fun hg3 => ?_) (fun hg3 => ?_)
    · skip
      refine w_move (by constructor) ?_
      refine w_g_on rfl rfl hg3 ?_
      refine w_move (by constructor) ?_
      refine w_g_on rfl rfl hg3 ?_
      refine w_neq rfl rfl ?_
      refine w_pick_0 rfl hg3 (by constructor) ?_
      try simp only [Int.toNat_natCast] at hg3
      exact hRR _ (EL.cons (.inr (by first | rfl | (simp only [hg3, els]; done) | (simp only [hg3, els]; rfl) | simp [hg3])) (EL.cons (.inl rfl) (EL.cons (.inl rfl) (EL.cons (.inl rfl) (EL.cons (.inr rfl) (EL.cons (.inr rfl) (EL.cons (.inr rfl) (EL.cons (.inr rfl) (EL.refl _)))))))))
    · have hg3 := eq_true_of_ne_false hg3
      refine w_g_off rfl rfl (by rw [hg3]; decide) ?_
      refine w_g_off rfl rfl (by rw [hg3]; decide) ?_
      refine w_pick_1 rfl hg3 (by constructor) ?_
      try simp only [Int.toNat_natCast] at hg3
      exact hRR _ (EL.cons (.inr (by first | rfl | (simp only [hg3, els]; done) | (simp only [hg3, els]; rfl) | simp [hg3])) (EL.cons (.inl rfl) (EL.cons (.inl rfl) (EL.cons (.inl rfl) (EL.cons (.inr rfl) (EL.cons (.inr rfl) (EL.cons (.inr rfl) (EL.cons (.inr rfl) (EL.refl _)))))))))
  refine snd_cond _ rfl (fun hc44 => ?_) (fun hc44 => ?_)
  · skip
    exact absurd hc44 (by simp [eqN])
  · skip
    refine snd_skip ?_
    refine snd_seq ?_
    apply sr tokTB (by kernel_rfl)
    · intro RR hRR
      refine w_move (by constructor) ?_
      refine w_move (by constructor) ?_
      refine w_call rfl (exc ex_vl exn) (c_toVectorS (F := F) (M := M) (by omega)) (.inl ⟨trivial, ⟨fun _ _ => trivial, trivial⟩⟩) rfl (by constructor) rfl ?_
      refine y_call rfl rfl ((c_eqVectorS (N := M) (R := F) (S := F) (by omega) (fun i _ j _ => rfl)).mt ⟨mt_vl0 rfl, mt_vl0 rfl, trivial⟩) ?_
      refine w_not rfl ?_
      exact hRR
    refine snd_cond_false (by exact rfl) ?_
    refine snd_skip ?_
    apply sr tokTB (by kernel_rfl)
    · intro RR hRR
      refine w_assign (by constructor) ?_
      exact hRR
    refine snd_ret ?_
    exact rt (T := TB) (fun V => rfl)
theorem lLegNumber_gb {p : Int} {n : Nat} {T : Nat → Nat → Nat → Int} {fo : Nat → Int} (hv0 : VN p n T fo) {M : Nat} {F : Nat → Nat → Int} (hM : M ≤ 1048576) (hF : ∀ i, B8 (F i)) (hz : VZ p n T fo M F) {g : Int} (hg : ¬ (0 ≤ g ∧ g ≤ 30)) : ACalls Try.prog TB 8 [algA p (n : Int) T fo, .int .i64 g, vlA M F] (.bool true) [] := by
  refine acalls_of tokTB Try.func8 rfl rfl (Nat.le_of_ble_eq_true rfl) ?_
  apply sr tokTB (by kernel_rfl)
  · intro RR hRR
    refine w_boxc (HV.eq (by constructor)) (by exact trivial) ?_
    refine w_assign (by constructor) ?_
    exact hRR
  apply sr tokTB (by kernel_rfl)
  · intro RR hRR
    refine w_assign (by constructor) ?_
    exact hRR
  apply sr tokTB (by kernel_rfl)
  · intro RR hRR
    refine w_move (by constructor) ?_
    refine w_move (by constructor) ?_
    refine y_call rfl (exc ex_vl (exc (by exact rfl) exn)) (c_szVectorS (F := F) (M := M) (by omega)) ?_
    refine w_assign (by constructor) ?_
    exact hRR
  refine snd_seq ?_
  apply sr tokTB (by kernel_rfl)
  · intro RR hRR
    refine w_move (by constructor) ?_
    refine w_lss rfl rfl ?_
    exact hRR
  refine snd_cond_false (by exact congrArg AV.bool (decide_eq_false (by omega))) ?_
  refine snd_skip ?_
  apply sr tokTB (by kernel_rfl)
  · intro RR hRR
    refine w_ldc rfl kn26 (by constructor) (by exact sz26.symm) (by exact ag26.symm) ?_
    refine y_call rfl (ec exn) (c_toAlgebra) ?_
    refine w_move (by constructor) ?_
    refine w_move (by constructor) ?_
    refine w_call rfl (exc ex_vl exn) (c_toVectorS (F := F) (M := M) (by omega)) (.inl ⟨trivial, ⟨fun _ _ => trivial, trivial⟩⟩) rfl (by constructor) rfl ?_
    refine y_call rfl rfl ((c_sLegNumber_gb hv0 hM hF hz hg).mt ⟨mt_expc closed_alg (by simp), mt_int0, mt_vl0 rfl, trivial⟩) ?_
    refine w_move (by constructor) ?_
    refine w_ext rfl (by decide) (by constructor) ?_
    refine w_ext rfl (by decide) (by constructor) ?_
    refine w_assign (by constructor) ?_
    refine w_assign (by constructor) ?_
    exact hRR
  apply sr tokTB (by kernel_rfl)
  · intro RR hRR
    refine w_move (by constructor) ?_
    refine w_call rfl (exc ex_vl exn) (c_toVectorS (F := F) (M := M) (by omega)) (.inl ⟨trivial, ⟨fun _ _ => trivial, trivial⟩⟩) rfl (by constructor) rfl ?_
    refine w_assign (by constructor) ?_
    exact hRR
  apply sr tokTB (by kernel_rfl)
  · intro RR hRR
    refine w_ldc rfl kn26 (by constructor) (by exact sz26.symm) (by exact ag26.symm) ?_
    refine y_call rfl (ec exn) (c_toAlgebra) ?_
    refine w_move (by constructor) ?_
    refine w_move (by constructor) ?_
    refine y_call rfl rfl ((c_iLegNumber_gb hv0 (by omega) hF hz hg).mt ⟨mt_expc closed_alg (by simp), mt_int0, mt_vl0 rfl, trivial⟩) ?_
    refine w_move (by constructor) ?_
    refine w_ext rfl (by decide) (by constructor) ?_
    refine w_ext rfl (by decide) (by constructor) ?_
    refine w_assign (by constructor) ?_
    refine w_assign (by constructor) ?_
    exact hRR
  refine snd_seq ?_
  apply srG (env' := (44, .bool (decide (((0 : Int)) ≠ ((0 : Int))) || decide ((2 : Int) ≠ 2))) :: (43, .any) :: (42, .any) :: (41, .any) :: (40, _) :: (39, _) :: (38, _) :: (37, _) :: _) tokTB (by kernel_rfl)
  · intro RR hRR
    refine w_move (by constructor) ?_
    refine w_move (by constructor) ?_
    refine w_neq rfl rfl ?_
    refine w_move (by constructor) ?_
    refine w_g rfl rfl (fun hg3 => ?_) (fun hg3 => ?_)
    · skip
      refine w_move (by constructor) ?_
      refine w_g_on rfl rfl hg3 ?_
      refine w_move (by constructor) ?_
      refine w_g_on rfl rfl hg3 ?_
      refine w_neq rfl rfl ?_
      refine w_pick_0 rfl hg3 (by constructor) ?_
      try simp only [Int.toNat_natCast] at hg3
      exact hRR _ (EL.cons (.inr (by first | rfl | (simp only [hg3, els]; done) | (simp only [hg3, els]; rfl) | simp [hg3])) (EL.cons (.inl rfl) (EL.cons (.inl rfl) (EL.cons (.inl rfl) (EL.cons (.inr rfl) (EL.cons (.inr rfl) (EL.cons (.inr rfl) (EL.cons (.inr rfl) (EL.refl _)))))))))
    · have hg3 := eq_true_of_ne_false hg3
      refine w_g_off rfl rfl (by rw [hg3]; decide) ?_
      refine w_g_off rfl rfl (by rw [hg3]; decide) ?_
      refine w_pick_1 rfl hg3 (by constructor) ?_
      try simp only [Int.toNat_natCast] at hg3
      exact hRR _ (EL.cons (.inr (by first | rfl | (simp only [hg3, els]; done) | (simp only [hg3, els]; rfl) | simp [hg3])) (EL.cons (.inl rfl) (EL.cons (.inl rfl) (EL.cons (.inl rfl) (EL.cons (.inr rfl) (EL.cons (.inr rfl) (EL.cons (.inr rfl) (EL.cons (.inr rfl) (EL.refl _)))))))))
  refine snd_cond _ rfl (fun hc44 => ?_) (fun hc44 => ?_)
  · skip
    exact absurd hc44 (by simp [eqN])
  · skip
    refine snd_skip ?_
    refine snd_seq ?_
    apply sr tokTB (by kernel_rfl)
    · intro RR hRR
      refine w_move (by constructor) ?_
      refine w_move (by constructor) ?_
      refine w_call rfl (exc ex_vl exn) (c_toVectorS (F := F) (M := M) (by omega)) (.inl ⟨trivial, ⟨fun _ _ => trivial, trivial⟩⟩) rfl (by constructor) rfl ?_
      refine y_call rfl rfl ((c_eqVectorS (N := M) (R := F) (S := F) (by omega) (fun i _ j _ => rfl)).mt ⟨mt_vl0 rfl, mt_vl0 rfl, trivial⟩) ?_
      refine w_not rfl ?_
      exact hRR
    refine snd_cond_false (by exact rfl) ?_
    refine snd_skip ?_
    apply sr tokTB (by kernel_rfl)
    · intro RR hRR
      refine w_assign (by constructor) ?_
      exact hRR
    refine snd_ret ?_
    exact rt (T := TB) (fun V => rfl)
theorem lLegNumber_mb {p : Int} {n : Nat} {T : Nat → Nat → Nat → Int} {fo : Nat → Int} (hv0 : VN p n T fo) {M : Nat} {F : Nat → Nat → Int} (hM : M ≤ 1048576) (hM6 : ¬ M ≤ 6) (hF : ∀ i, B8 (F i)) (hz : VZ p n T fo M F) {g : Int} (hg : 0 ≤ g ∧ g ≤ 30) : ACalls Try.prog TB 8 [algA p (n : Int) T fo, .int .i64 g, vlA M F] (.bool true) [] := by
  refine acalls_of tokTB Try.func8 rfl rfl (Nat.le_of_ble_eq_true rfl) ?_
  apply sr tokTB (by kernel_rfl)
  · intro RR hRR
    refine w_boxc (HV.eq (by constructor)) (by exact trivial) ?_
    refine w_assign (by constructor) ?_
    exact hRR
  apply sr tokTB (by kernel_rfl)
  · intro RR hRR
    refine w_assign (by constructor) ?_
    exact hRR
  apply sr tokTB (by kernel_rfl)
  · intro RR hRR
    refine w_move (by constructor) ?_
    refine w_move (by constructor) ?_
    refine y_call rfl (exc ex_vl (exc (by exact rfl) exn)) (c_szVectorS (F := F) (M := M) (by omega)) ?_
    refine w_assign (by constructor) ?_
    exact hRR
  refine snd_seq ?_
  apply sr tokTB (by kernel_rfl)
  · intro RR hRR
    refine w_move (by constructor) ?_
    refine w_lss rfl rfl ?_
    exact hRR
  refine snd_cond_false (by exact congrArg AV.bool (decide_eq_false (by omega))) ?_
  refine snd_skip ?_
  apply sr tokTB (by kernel_rfl)
  · intro RR hRR
    refine w_ldc rfl kn26 (by constructor) (by exact sz26.symm) (by exact ag26.symm) ?_
    refine y_call rfl (ec exn) (c_toAlgebra) ?_
    refine w_move (by constructor) ?_
    refine w_move (by constructor) ?_
    refine w_call rfl (exc ex_vl exn) (c_toVectorS (F := F) (M := M) (by omega)) (.inl ⟨trivial, ⟨fun _ _ => trivial, trivial⟩⟩) rfl (by constructor) rfl ?_
    refine y_call rfl rfl ((c_sLegNumber_mb hv0 hM hM6 hF hz hg).mt ⟨mt_expc closed_alg (by simp), mt_int0, mt_vl0 rfl, trivial⟩) ?_
    refine w_move (by constructor) ?_
    refine w_ext rfl (by decide) (by constructor) ?_
    refine w_ext rfl (by decide) (by constructor) ?_
    refine w_assign (by constructor) ?_
    refine w_assign (by constructor) ?_
    exact hRR
  apply sr tokTB (by kernel_rfl)
  · intro RR hRR
    refine w_move (by constructor) ?_
    refine w_call rfl (exc ex_vl exn) (c_toVectorS (F := F) (M := M) (by omega)) (.inl ⟨trivial, ⟨fun _ _ => trivial, trivial⟩⟩) rfl (by constructor) rfl ?_
    refine w_assign (by constructor) ?_
    exact hRR
  apply sr tokTB (by kernel_rfl)
  · intro RR hRR
    refine w_ldc rfl kn26 (by constructor) (by exact sz26.symm) (by exact ag26.symm) ?_
    refine y_call rfl (ec exn) (c_toAlgebra) ?_
    refine w_move (by constructor) ?_
    refine w_move (by constructor) ?_
    refine y_call rfl rfl ((c_iLegNumber_mb hv0 (by omega) hM6 hF hz hg).mt ⟨mt_expc closed_alg (by simp), mt_int0, mt_vl0 rfl, trivial⟩) ?_
    refine w_move (by constructor) ?_
    refine w_ext rfl (by decide) (by constructor) ?_
    refine w_ext rfl (by decide) (by constructor) ?_
    refine w_assign (by constructor) ?_
    refine w_assign (by constructor) ?_
    exact hRR
  refine snd_seq ?_
  apply srG (env' := (44, .bool (decide (((0 : Int)) ≠ ((0 : Int))) || decide ((2 : Int) ≠ 2))) :: (43, .any) :: (42, .any) :: (41, .any) :: (40, _) :: (39, _) :: (38, _) :: (37, _) :: _) tokTB (by kernel_rfl)
  · intro RR hRR
    refine w_move (by constructor) ?_
    refine w_move (by constructor) ?_
    refine w_neq rfl rfl ?_
    refine w_move (by constructor) ?_
    refine w_g rfl rfl (fun hg3 => ?_) (fun hg3 => ?_)
    · skip
      refine w_move (by constructor) ?_
      refine w_g_on rfl rfl hg3 ?_
      refine w_move (by constructor) ?_
      refine w_g_on rfl rfl hg3 ?_
      refine w_neq rfl rfl ?_
      refine w_pick_0 rfl hg3 (by constructor) ?_
      try simp only [Int.toNat_natCast] at hg3
      exact hRR _ (EL.cons (.inr (by first | rfl | (simp only [hg3, els]; done) | (simp only [hg3, els]; rfl) | simp [hg3])) (EL.cons (.inl rfl) (EL.cons (.inl rfl) (EL.cons (.inl rfl) (EL.cons (.inr rfl) (EL.cons (.inr rfl) (EL.cons (.inr rfl) (EL.cons (.inr rfl) (EL.refl _)))))))))
    · have hg3 := eq_true_of_ne_false hg3
      refine w_g_off rfl rfl (by rw [hg3]; decide) ?_
      refine w_g_off rfl rfl (by rw [hg3]; decide) ?_
      refine w_pick_1 rfl hg3 (by constructor) ?_
      try simp only [Int.toNat_natCast] at hg3
      exact hRR _ (EL.cons (.inr (by first | rfl | (simp only [hg3, els]; done) | (simp only [hg3, els]; rfl) | simp [hg3])) (EL.cons (.inl rfl) (EL.cons (.inl rfl) (EL.cons (.inl rfl) (EL.cons (.inr rfl) (EL.cons (.inr rfl) (EL.cons (.inr rfl) (EL.cons (.inr rfl) (EL.refl _)))))))))
  refine snd_cond _ rfl (fun hc44 => ?_) (fun hc44 => ?_)
  · skip
    exact absurd hc44 (by simp [eqN])
  · skip
    refine snd_skip ?_
    refine snd_seq ?_
    apply sr tokTB (by kernel_rfl)
    · intro RR hRR
      refine w_move (by constructor) ?_
      refine w_move (by constructor) ?_
      refine w_call rfl (exc ex_vl exn) (c_toVectorS (F := F) (M := M) (by omega)) (.inl ⟨trivial, ⟨fun _ _ => trivial, trivial⟩⟩) rfl (by constructor) rfl ?_
      refine y_call rfl rfl ((c_eqVectorS (N := M) (R := F) (S := F) (by omega) (fun i _ j _ => rfl)).mt ⟨mt_vl0 rfl, mt_vl0 rfl, trivial⟩) ?_
      refine w_not rfl ?_
      exact hRR
    refine snd_cond_false (by exact rfl) ?_
    refine snd_skip ?_
    apply sr tokTB (by kernel_rfl)
    · intro RR hRR
      refine w_assign (by constructor) ?_
      exact hRR
    refine snd_ret ?_
    exact rt (T := TB) (fun V => rfl)
theorem lLegNumber_ca {p : Int} {n : Nat} {T : Nat → Nat → Nat → Int} {fo : Nat → Int} (hv0 : VN p n T fo) {M : Nat} {F : Nat → Nat → Int} (hM : M ≤ 6) (hF : ∀ i, B8 (F i)) (hz : VZ p n T fo M F) (hc : comN n T) (hr : ¬ rankT p n T fo = n) {g : Int} (hg : 0 ≤ g ∧ g ≤ 30) : ACalls Try.prog TB 8 [algA p (n : Int) T fo, .int .i64 g, vlA M F] (.bool true) [] := by
  refine acalls_of tokTB Try.func8 rfl rfl (Nat.le_of_ble_eq_true rfl) ?_
  apply sr tokTB (by kernel_rfl)
  · intro RR hRR
    refine w_boxc (HV.eq (by constructor)) (by exact trivial) ?_
    refine w_assign (by constructor) ?_
    exact hRR
  apply sr tokTB (by kernel_rfl)
  · intro RR hRR
    refine w_assign (by constructor) ?_
    exact hRR
  apply sr tokTB (by kernel_rfl)
  · intro RR hRR
    refine w_move (by constructor) ?_
    refine w_move (by constructor) ?_
    refine y_call rfl (exc ex_vl (exc (by exact rfl) exn)) (c_szVectorS (F := F) (M := M) (by omega)) ?_
    refine w_assign (by constructor) ?_
    exact hRR
  refine snd_seq ?_
  apply sr tokTB (by kernel_rfl)
  · intro RR hRR
    refine w_move (by constructor) ?_
    refine w_lss rfl rfl ?_
    exact hRR
  refine snd_cond_false (by exact congrArg AV.bool (decide_eq_false (by omega))) ?_
  refine snd_skip ?_
  apply sr tokTB (by kernel_rfl)
  · intro RR hRR
    refine w_ldc rfl kn26 (by constructor) (by exact sz26.symm) (by exact ag26.symm) ?_
    refine y_call rfl (ec exn) (c_toAlgebra) ?_
    refine w_move (by constructor) ?_
    refine w_move (by constructor) ?_
    refine w_call rfl (exc ex_vl exn) (c_toVectorS (F := F) (M := M) (by omega)) (.inl ⟨trivial, ⟨fun _ _ => trivial, trivial⟩⟩) rfl (by constructor) rfl ?_
    refine y_call rfl rfl ((c_sLegNumber_ca hv0 hM hF hz hc hr hg).mt ⟨mt_expc closed_alg (by simp), mt_int0, mt_vl0 rfl, trivial⟩) ?_
    refine w_move (by constructor) ?_
    refine w_ext rfl (by decide) (by constructor) ?_
    refine w_ext rfl (by decide) (by constructor) ?_
    refine w_assign (by constructor) ?_
    refine w_assign (by constructor) ?_
    exact hRR
  apply sr tokTB (by kernel_rfl)
  · intro RR hRR
    refine w_move (by constructor) ?_
    refine w_call rfl (exc ex_vl exn) (c_toVectorS (F := F) (M := M) (by omega)) (.inl ⟨trivial, ⟨fun _ _ => trivial, trivial⟩⟩) rfl (by constructor) rfl ?_
    refine w_assign (by constructor) ?_
    exact hRR
  apply sr tokTB (by kernel_rfl)
  · intro RR hRR
    refine w_ldc rfl kn26 (by constructor) (by exact sz26.symm) (by exact ag26.symm) ?_
    refine y_call rfl (ec exn) (c_toAlgebra) ?_
    refine w_move (by constructor) ?_
    refine w_move (by constructor) ?_
    refine y_call rfl rfl ((c_iLegNumber_nr hv0 hM hF hz hc hr hg).mt ⟨mt_expc closed_alg (by simp), mt_int0, mt_vl0 rfl, trivial⟩) ?_
    refine w_move (by constructor) ?_
    refine w_ext rfl (by decide) (by constructor) ?_
    refine w_ext rfl (by decide) (by constructor) ?_
    refine w_assign (by constructor) ?_
    refine w_assign (by constructor) ?_
    exact hRR
  refine snd_seq ?_
  apply srG (env' := (44, .bool (decide (((0 : Int)) ≠ ((0 : Int))) || decide ((5 : Int) ≠ 5))) :: (43, .any) :: (42, .any) :: (41, .any) :: (40, _) :: (39, _) :: (38, _) :: (37, _) :: _) tokTB (by kernel_rfl)
  · intro RR hRR
    refine w_move (by constructor) ?_
    refine w_move (by constructor) ?_
    refine w_neq rfl rfl ?_
    refine w_move (by constructor) ?_
    refine w_g rfl rfl (fun hg3 => ?_) (fun hg3 => ?_)
    · skip
      refine w_move (by constructor) ?_
      refine w_g_on rfl rfl hg3 ?_
      refine w_move (by constructor) ?_
      refine w_g_on rfl rfl hg3 ?_
      refine w_neq rfl rfl ?_
      refine w_pick_0 rfl hg3 (by constructor) ?_
      try simp only [Int.toNat_natCast] at hg3
      exact hRR _ (EL.cons (.inr (by first | rfl | (simp only [hg3, els]; done) | (simp only [hg3, els]; rfl) | simp [hg3])) (EL.cons (.inl rfl) (EL.cons (.inl rfl) (EL.cons (.inl rfl) (EL.cons (.inr rfl) (EL.cons (.inr rfl) (EL.cons (.inr rfl) (EL.cons (.inr rfl) (EL.refl _)))))))))
    · have hg3 := eq_true_of_ne_false hg3
      refine w_g_off rfl rfl (by rw [hg3]; decide) ?_
      refine w_g_off rfl rfl (by rw [hg3]; decide) ?_
      refine w_pick_1 rfl hg3 (by constructor) ?_
      try simp only [Int.toNat_natCast] at hg3
      exact hRR _ (EL.cons (.inr (by first | rfl | (simp only [hg3, els]; done) | (simp only [hg3, els]; rfl) | simp [hg3])) (EL.cons (.inl rfl) (EL.cons (.inl rfl) (EL.cons (.inl rfl) (EL.cons (.inr rfl) (EL.cons (.inr rfl) (EL.cons (.inr rfl) (EL.cons (.inr rfl) (EL.refl _)))))))))
  refine snd_cond _ rfl (fun hc44 => ?_) (fun hc44 => ?_)
  · skip
    exact absurd hc44 (by simp [eqN])
  · skip
    refine snd_skip ?_
    refine snd_seq ?_
    apply sr tokTB (by kernel_rfl)
    · intro RR hRR
      refine w_move (by constructor) ?_
      refine w_move (by constructor) ?_
      refine w_call rfl (exc ex_vl exn) (c_toVectorS (F := F) (M := M) (by omega)) (.inl ⟨trivial, ⟨fun _ _ => trivial, trivial⟩⟩) rfl (by constructor) rfl ?_
      refine y_call rfl rfl ((c_eqVectorS (N := M) (R := F) (S := F) (by omega) (fun i _ j _ => rfl)).mt ⟨mt_vl0 rfl, mt_vl0 rfl, trivial⟩) ?_
      refine w_not rfl ?_
      exact hRR
    refine snd_cond_false (by exact rfl) ?_
    refine snd_skip ?_
    apply sr tokTB (by kernel_rfl)
    · intro RR hRR
      refine w_assign (by constructor) ?_
      exact hRR
    refine snd_ret ?_
    exact rt (T := TB) (fun V => rfl)
theorem lLegNumber_cb {p : Int} {n : Nat} {T : Nat → Nat → Nat → Int} {fo : Nat → Int} (hv0 : VN p n T fo) {M : Nat} {F : Nat → Nat → Int} (hM : M ≤ 6) (hF : ∀ i, B8 (F i)) (hz : VZ p n T fo M F) (hc : ¬ comN n T) (hr : rankT p n T fo = n) {g : Int} (hg : 0 ≤ g ∧ g ≤ 30) : ACalls Try.prog TB 8 [algA p (n : Int) T fo, .int .i64 g, vlA M F] (.bool true) [] := by
  refine acalls_of tokTB Try.func8 rfl rfl (Nat.le_of_ble_eq_true rfl) ?_
  apply sr tokTB (by kernel_rfl)
  · intro RR hRR
    refine w_boxc (HV.eq (by constructor)) (by exact trivial) ?_
    refine w_assign (by constructor) ?_
    exact hRR
  apply sr tokTB (by kernel_rfl)
  · intro RR hRR
    refine w_assign (by constructor) ?_
    exact hRR
  apply sr tokTB (by kernel_rfl)
  · intro RR hRR
    refine w_move (by constructor) ?_
    refine w_move (by constructor) ?_
    refine y_call rfl (exc ex_vl (exc (by exact rfl) exn)) (c_szVectorS (F := F) (M := M) (by omega)) ?_
    refine w_assign (by constructor) ?_
    exact hRR
  refine snd_seq ?_
  apply sr tokTB (by kernel_rfl)
  · intro RR hRR
    refine w_move (by constructor) ?_
    refine w_lss rfl rfl ?_
    exact hRR
  refine snd_cond_false (by exact congrArg AV.bool (decide_eq_false (by omega))) ?_
  refine snd_skip ?_
  apply sr tokTB (by kernel_rfl)
  · intro RR hRR
    refine w_ldc rfl kn26 (by constructor) (by exact sz26.symm) (by exact ag26.symm) ?_
    refine y_call rfl (ec exn) (c_toAlgebra) ?_
    refine w_move (by constructor) ?_
    refine w_move (by constructor) ?_
    refine w_call rfl (exc ex_vl exn) (c_toVectorS (F := F) (M := M) (by omega)) (.inl ⟨trivial, ⟨fun _ _ => trivial, trivial⟩⟩) rfl (by constructor) rfl ?_
    refine y_call rfl rfl ((c_sLegNumber_cb hv0 hM hF hz hc hr hg).mt ⟨mt_expc closed_alg (by simp), mt_int0, mt_vl0 rfl, trivial⟩) ?_
    refine w_move (by constructor) ?_
    refine w_ext rfl (by decide) (by constructor) ?_
    refine w_ext rfl (by decide) (by constructor) ?_
    refine w_assign (by constructor) ?_
    refine w_assign (by constructor) ?_
    exact hRR
  apply sr tokTB (by kernel_rfl)
  · intro RR hRR
    refine w_move (by constructor) ?_
    refine w_call rfl (exc ex_vl exn) (c_toVectorS (F := F) (M := M) (by omega)) (.inl ⟨trivial, ⟨fun _ _ => trivial, trivial⟩⟩) rfl (by constructor) rfl ?_
    refine w_assign (by constructor) ?_
    exact hRR
  apply sr tokTB (by kernel_rfl)
  · intro RR hRR
    refine w_ldc rfl kn26 (by constructor) (by exact sz26.symm) (by exact ag26.symm) ?_
    refine y_call rfl (ec exn) (c_toAlgebra) ?_
    refine w_move (by constructor) ?_
    refine w_move (by constructor) ?_
    refine y_call rfl rfl ((c_iLegNumber_nc hv0 hM hF hz hc hg).mt ⟨mt_expc closed_alg (by simp), mt_int0, mt_vl0 rfl, trivial⟩) ?_
    refine w_move (by constructor) ?_
    refine w_ext rfl (by decide) (by constructor) ?_
    refine w_ext rfl (by decide) (by constructor) ?_
    refine w_assign (by constructor) ?_
    refine w_assign (by constructor) ?_
    exact hRR
  refine snd_seq ?_
  apply srG (env' := (44, .bool (decide (((0 : Int)) ≠ ((0 : Int))) || decide ((5 : Int) ≠ 5))) :: (43, .any) :: (42, .any) :: (41, .any) :: (40, _) :: (39, _) :: (38, _) :: (37, _) :: _) tokTB (by kernel_rfl)
  · intro RR hRR
    refine w_move (by constructor) ?_
    refine w_move (by constructor) ?_
    refine w_neq rfl rfl ?_
    refine w_move (by constructor) ?_
    refine w_g rfl rfl (fun hg3 => ?_) (fun hg3 => ?_)
    · skip
      refine w_move (by constructor) ?_
      refine w_g_on rfl rfl hg3 ?_
      refine w_move (by constructor) ?_
      refine w_g_on rfl rfl hg3 ?_
      refine w_neq rfl rfl ?_
      refine w_pick_0 rfl hg3 (by constructor) ?_
      try simp only [Int.toNat_natCast] at hg3
      exact hRR _ (EL.cons (.inr (by first | rfl | (simp only [hg3, els]; done) | (simp only [hg3, els]; rfl) | simp [hg3])) (EL.cons (.inl rfl) (EL.cons (.inl rfl) (EL.cons (.inl rfl) (EL.cons (.inr rfl) (EL.cons (.inr rfl) (EL.cons (.inr rfl) (EL.cons (.inr rfl) (EL.refl _)))))))))
    · have hg3 := eq_true_of_ne_false hg3
      refine w_g_off rfl rfl (by rw [hg3]; decide) ?_
      refine w_g_off rfl rfl (by rw [hg3]; decide) ?_
      refine w_pick_1 rfl hg3 (by constructor) ?_
      try simp only [Int.toNat_natCast] at hg3
      exact hRR _ (EL.cons (.inr (by first | rfl | (simp only [hg3, els]; done) | (simp only [hg3, els]; rfl) | simp [hg3])) (EL.cons (.inl rfl) (EL.cons (.inl rfl) (EL.cons (.inl rfl) (EL.cons (.inr rfl) (EL.cons (.inr rfl) (EL.cons (.inr rfl) (EL.cons (.inr rfl) (EL.refl _)))))))))
  refine snd_cond _ rfl (fun hc44 => ?_) (fun hc44 => ?_)
  · skip
    exact absurd hc44 (by simp [eqN])
  · skip
    refine snd_skip ?_
    refine snd_seq ?_
    apply sr tokTB (by kernel_rfl)
    · intro RR hRR
      refine w_move (by constructor) ?_
      refine w_move (by constructor) ?_
      refine w_call rfl (exc ex_vl exn) (c_toVectorS (F := F) (M := M) (by omega)) (.inl ⟨trivial, ⟨fun _ _ => trivial, trivial⟩⟩) rfl (by constructor) rfl ?_
      refine y_call rfl rfl ((c_eqVectorS (N := M) (R := F) (S := F) (by omega) (fun i _ j _ => rfl)).mt ⟨mt_vl0 rfl, mt_vl0 rfl, trivial⟩) ?_
      refine w_not rfl ?_
      exact hRR
    refine snd_cond_false (by exact rfl) ?_
    refine snd_skip ?_
    apply sr tokTB (by kernel_rfl)
    · intro RR hRR
      refine w_assign (by constructor) ?_
      exact hRR
    refine snd_ret ?_
    exact rt (T := TB) (fun V => rfl)
theorem lLegNumber_cd {p : Int} {n : Nat} {T : Nat → Nat → Nat → Int} {fo : Nat → Int} (hv0 : VN p n T fo) {M : Nat} {F : Nat → Nat → Int} (hM : M ≤ 6) (hF : ∀ i, B8 (F i)) (hz : VZ p n T fo M F) (hc : ¬ comN n T) (hr : ¬ rankT p n T fo = n) {g : Int} (hg : 0 ≤ g ∧ g ≤ 30) : ACalls Try.prog TB 8 [algA p (n : Int) T fo, .int .i64 g, vlA M F] (.bool true) [] := by
  refine acalls_of tokTB Try.func8 rfl rfl (Nat.le_of_ble_eq_true rfl) ?_
  apply sr tokTB (by kernel_rfl)
  · intro RR hRR
    refine w_boxc (HV.eq (by constructor)) (by exact trivial) ?_
    refine w_assign (by constructor) ?_
    exact hRR
  apply sr tokTB (by kernel_rfl)
  · intro RR hRR
    refine w_assign (by constructor) ?_
    exact hRR
  apply sr tokTB (by kernel_rfl)
  · intro RR hRR
    refine w_move (by constructor) ?_
    refine w_move (by constructor) ?_
    refine y_call rfl (exc ex_vl (exc (by exact rfl) exn)) (c_szVectorS (F := F) (M := M) (by omega)) ?_
    refine w_assign (by constructor) ?_
    exact hRR
  refine snd_seq ?_
  apply sr tokTB (by kernel_rfl)
  · intro RR hRR
    refine w_move (by constructor) ?_
    refine w_lss rfl rfl ?_
    exact hRR
  refine snd_cond_false (by exact congrArg AV.bool (decide_eq_false (by omega))) ?_
  refine snd_skip ?_
  apply sr tokTB (by kernel_rfl)
  · intro RR hRR
    refine w_ldc rfl kn26 (by constructor) (by exact sz26.symm) (by exact ag26.symm) ?_
    refine y_call rfl (ec exn) (c_toAlgebra) ?_
    refine w_move (by constructor) ?_
    refine w_move (by constructor) ?_
    refine w_call rfl (exc ex_vl exn) (c_toVectorS (F := F) (M := M) (by omega)) (.inl ⟨trivial, ⟨fun _ _ => trivial, trivial⟩⟩) rfl (by constructor) rfl ?_
    refine y_call rfl rfl ((c_sLegNumber_cd hv0 hM hF hz hc hr hg).mt ⟨mt_expc closed_alg (by simp), mt_int0, mt_vl0 rfl, trivial⟩) ?_
    refine w_move (by constructor) ?_
    refine w_ext rfl (by decide) (by constructor) ?_
    refine w_ext rfl (by decide) (by constructor) ?_
    refine w_assign (by constructor) ?_
    refine w_assign (by constructor) ?_
    exact hRR
  apply sr tokTB (by kernel_rfl)
  · intro RR hRR
    refine w_move (by constructor) ?_
    refine w_call rfl (exc ex_vl exn) (c_toVectorS (F := F) (M := M) (by omega)) (.inl ⟨trivial, ⟨fun _ _ => trivial, trivial⟩⟩) rfl (by constructor) rfl ?_
    refine w_assign (by constructor) ?_
    exact hRR
  apply sr tokTB (by kernel_rfl)
  · intro RR hRR
    refine w_ldc rfl kn26 (by constructor) (by exact sz26.symm) (by exact ag26.symm) ?_
    refine y_call rfl (ec exn) (c_toAlgebra) ?_
    refine w_move (by constructor) ?_
    refine w_move (by constructor) ?_
    refine y_call rfl rfl ((c_iLegNumber_nc hv0 hM hF hz hc hg).mt ⟨mt_expc closed_alg (by simp), mt_int0, mt_vl0 rfl, trivial⟩) ?_
    refine w_move (by constructor) ?_
    refine w_ext rfl (by decide) (by constructor) ?_
    refine w_ext rfl (by decide) (by constructor) ?_
    refine w_assign (by constructor) ?_
    refine w_assign (by constructor) ?_
    exact hRR
  refine snd_seq ?_
  apply srG (env' := (44, .bool (decide (((0 : Int)) ≠ ((0 : Int))) || decide ((5 : Int) ≠ 5))) :: (43, .any) :: (42, .any) :: (41, .any) :: (40, _) :: (39, _) :: (38, _) :: (37, _) :: _) tokTB (by kernel_rfl)
  · intro RR hRR
    refine w_move (by constructor) ?_
    refine w_move (by constructor) ?_
    refine w_neq rfl rfl ?_
    refine w_move (by constructor) ?_
    refine w_g rfl rfl (fun hg3 => ?_) (fun hg3 => ?_)
    · skip
      refine w_move (by constructor) ?_
      refine w_g_on rfl rfl hg3 ?_
      refine w_move (by constructor) ?_
      refine w_g_on rfl rfl hg3 ?_
      refine w_neq rfl rfl ?_
      refine w_pick_0 rfl hg3 (by constructor) ?_
      try simp only [Int.toNat_natCast] at hg3
      exact hRR _ (EL.cons (.inr (by first | rfl | (simp only [hg3, els]; done) | (simp only [hg3, els]; rfl) | simp [hg3])) (EL.cons (.inl rfl) (EL.cons (.inl rfl) (EL.cons (.inl rfl) (EL.cons (.inr rfl) (EL.cons (.inr rfl) (EL.cons (.inr rfl) (EL.cons (.inr rfl) (EL.refl _)))))))))
    · have hg3 := eq_true_of_ne_false hg3
      refine w_g_off rfl rfl (by rw [hg3]; decide) ?_
      refine w_g_off rfl rfl (by rw [hg3]; decide) ?_
      refine w_pick_1 rfl hg3 (by constructor) ?_
      try simp only [Int.toNat_natCast] at hg3
      exact hRR _ (EL.cons (.inr (by first | rfl | (simp only [hg3, els]; done) | (simp only [hg3, els]; rfl) | simp [hg3])) (EL.cons (.inl rfl) (EL.cons (.inl rfl) (EL.cons (.inl rfl) (EL.cons (.inr rfl) (EL.cons (.inr rfl) (EL.cons (.inr rfl) (EL.cons (.inr rfl) (EL.refl _)))))))))
  refine snd_cond _ rfl (fun hc44 => ?_) (fun hc44 => ?_)
  · skip
    exact absurd hc44 (by simp [eqN])
  · skip
    refine snd_skip ?_
    refine snd_seq ?_
    apply sr tokTB (by kernel_rfl)
    · intro RR hRR
      refine w_move (by constructor) ?_
      refine w_move (by constructor) ?_
      refine w_call rfl (exc ex_vl exn) (c_toVectorS (F := F) (M := M) (by omega)) (.inl ⟨trivial, ⟨fun _ _ => trivial, trivial⟩⟩) rfl (by constructor) rfl ?_
      refine y_call rfl rfl ((c_eqVectorS (N := M) (R := F) (S := F) (by omega) (fun i _ j _ => rfl)).mt ⟨mt_vl0 rfl, mt_vl0 rfl, trivial⟩) ?_
      refine w_not rfl ?_
      exact hRR
    refine snd_cond_false (by exact rfl) ?_
    refine snd_skip ?_
    apply sr tokTB (by kernel_rfl)
    · intro RR hRR
      refine w_assign (by constructor) ?_
      exact hRR
    refine snd_ret ?_
    exact rt (T := TB) (fun V => rfl)
theorem lLegNumber_no {p n : Int} {T : Nat → Nat → Nat → Int} {fo : Nat → Int} (hT : RB T) (hf : RV fo) {M : Nat} {F : Nat → Nat → Int} (hM : M ≤ 1048576) (hF : ∀ i, B8 (F i)) (hz : ¬ VZ p n T fo M F) {g : Int} : ACalls Try.prog TB 8 [algA p n T fo, .int .i64 g, vlA M F] (.bool true) [] := by
  refine acalls_of tokTB Try.func8 rfl rfl (Nat.le_of_ble_eq_true rfl) ?_
  apply sr tokTB (by kernel_rfl)
  · intro RR hRR
    refine w_boxc (HV.eq (by constructor)) (by exact trivial) ?_
    refine w_assign (by constructor) ?_
    exact hRR
  apply sr tokTB (by kernel_rfl)
  · intro RR hRR
    refine w_assign (by constructor) ?_
    exact hRR
  apply sr tokTB (by kernel_rfl)
  · intro RR hRR
    refine w_move (by constructor) ?_
    refine w_move (by constructor) ?_
    refine y_call rfl (exc ex_vl (exc (by exact rfl) exn)) (c_szVectorS (F := F) (M := M) (by omega)) ?_
    refine w_assign (by constructor) ?_
    exact hRR
  refine snd_seq ?_
  apply sr tokTB (by kernel_rfl)
  · intro RR hRR
    refine w_move (by constructor) ?_
    refine w_lss rfl rfl ?_
    exact hRR
  refine snd_cond_false (by exact congrArg AV.bool (decide_eq_false (by omega))) ?_
  refine snd_skip ?_
  apply sr tokTB (by kernel_rfl)
  · intro RR hRR
    refine w_ldc rfl kn26 (by constructor) (by exact sz26.symm) (by exact ag26.symm) ?_
    refine y_call rfl (ec exn) (c_toAlgebra) ?_
    refine w_move (by constructor) ?_
    refine w_move (by constructor) ?_
    refine w_call rfl (exc ex_vl exn) (c_toVectorS (F := F) (M := M) (by omega)) (.inl ⟨trivial, ⟨fun _ _ => trivial, trivial⟩⟩) rfl (by constructor) rfl ?_
    refine y_call rfl rfl ((c_sLegNumber_no hT hf hM hF hz).mt ⟨mt_expc closed_alg (by simp), mt_int0, mt_vl0 rfl, trivial⟩) ?_
    refine w_move (by constructor) ?_
    refine w_ext rfl (by decide) (by constructor) ?_
    refine w_ext rfl (by decide) (by constructor) ?_
    refine w_assign (by constructor) ?_
    refine w_assign (by constructor) ?_
    exact hRR
  apply sr tokTB (by kernel_rfl)
  · intro RR hRR
    refine w_move (by constructor) ?_
    refine w_call rfl (exc ex_vl exn) (c_toVectorS (F := F) (M := M) (by omega)) (.inl ⟨trivial, ⟨fun _ _ => trivial, trivial⟩⟩) rfl (by constructor) rfl ?_
    refine w_assign (by constructor) ?_
    exact hRR
  apply sr tokTB (by kernel_rfl)
  · intro RR hRR
    refine w_ldc rfl kn26 (by constructor) (by exact sz26.symm) (by exact ag26.symm) ?_
    refine y_call rfl (ec exn) (c_toAlgebra) ?_
    refine w_move (by constructor) ?_
    refine w_move (by constructor) ?_
    refine y_call rfl rfl ((c_iLegNumber_no hT hf (by omega) hF hz).mt ⟨mt_expc closed_alg (by simp), mt_int0, mt_vl0 rfl, trivial⟩) ?_
    refine w_move (by constructor) ?_
    refine w_ext rfl (by decide) (by constructor) ?_
    refine w_ext rfl (by decide) (by constructor) ?_
    refine w_assign (by constructor) ?_
    refine w_assign (by constructor) ?_
    exact hRR
  refine snd_seq ?_
  apply srG (env' := (44, .bool (decide (((0 : Int)) ≠ ((0 : Int))) || decide ((1 : Int) ≠ 1))) :: (43, .any) :: (42, .any) :: (41, .any) :: (40, _) :: (39, _) :: (38, _) :: (37, _) :: _) tokTB (by kernel_rfl)
  · intro RR hRR
    refine w_move (by constructor) ?_
    refine w_move (by constructor) ?_
    refine w_neq rfl rfl ?_
    refine w_move (by constructor) ?_
    refine w_g rfl rfl (fun hg3 => ?_) (fun hg3 => ?_)
    · skip
      refine w_move (by constructor) ?_
      refine w_g_on rfl rfl hg3 ?_
      refine w_move (by constructor) ?_
      refine w_g_on rfl rfl hg3 ?_
      refine w_neq rfl rfl ?_
      refine w_pick_0 rfl hg3 (by constructor) ?_
      try simp only [Int.toNat_natCast] at hg3
      exact hRR _ (EL.cons (.inr (by first | rfl | (simp only [hg3, els]; done) | (simp only [hg3, els]; rfl) | simp [hg3])) (EL.cons (.inl rfl) (EL.cons (.inl rfl) (EL.cons (.inl rfl) (EL.cons (.inr rfl) (EL.cons (.inr rfl) (EL.cons (.inr rfl) (EL.cons (.inr rfl) (EL.refl _)))))))))
    · have hg3 := eq_true_of_ne_false hg3
      refine w_g_off rfl rfl (by rw [hg3]; decide) ?_
      refine w_g_off rfl rfl (by rw [hg3]; decide) ?_
      refine w_pick_1 rfl hg3 (by constructor) ?_
      try simp only [Int.toNat_natCast] at hg3
      exact hRR _ (EL.cons (.inr (by first | rfl | (simp only [hg3, els]; done) | (simp only [hg3, els]; rfl) | simp [hg3])) (EL.cons (.inl rfl) (EL.cons (.inl rfl) (EL.cons (.inl rfl) (EL.cons (.inr rfl) (EL.cons (.inr rfl) (EL.cons (.inr rfl) (EL.cons (.inr rfl) (EL.refl _)))))))))
  refine snd_cond _ rfl (fun hc44 => ?_) (fun hc44 => ?_)
  · skip
    exact absurd hc44 (by simp [eqN])
  · skip
    refine snd_skip ?_
    refine snd_seq ?_
    apply sr tokTB (by kernel_rfl)
    · intro RR hRR
      refine w_move (by constructor) ?_
      refine w_move (by constructor) ?_
      refine w_call rfl (exc ex_vl exn) (c_toVectorS (F := F) (M := M) (by omega)) (.inl ⟨trivial, ⟨fun _ _ => trivial, trivial⟩⟩) rfl (by constructor) rfl ?_
      refine y_call rfl rfl ((c_eqVectorS (N := M) (R := F) (S := F) (by omega) (fun i _ j _ => rfl)).mt ⟨mt_vl0 rfl, mt_vl0 rfl, trivial⟩) ?_
      refine w_not rfl ?_
      exact hRR
    refine snd_cond_false (by exact rfl) ?_
    refine snd_skip ?_
    apply sr tokTB (by kernel_rfl)
    · intro RR hRR
      refine w_assign (by constructor) ?_
      exact hRR
    refine snd_ret ?_
    exact rt (T := TB) (fun V => rfl)
theorem lLegNumber_big {p n : Int} {T : Nat → Nat → Nat → Int} {fo : Nat → Int} {M : Nat} {F : Nat → Nat → Int} {g : Int} (hM : 1048576 < M) (hM2 : M ≤ 9223372036854775807) : ACalls Try.prog TB 8 [algA p n T fo, .int .i64 g, vlA M F] (.bool true) [] := by
  refine acalls_of tokTB Try.func8 rfl rfl (Nat.le_of_ble_eq_true rfl) ?_
  apply sr tokTB (by kernel_rfl)
  · intro RR hRR
    refine w_boxc (HV.eq (by constructor)) (by exact trivial) ?_
    refine w_assign (by constructor) ?_
    exact hRR
  apply sr tokTB (by kernel_rfl)
  · intro RR hRR
    refine w_assign (by constructor) ?_
    exact hRR
  apply sr tokTB (by kernel_rfl)
  · intro RR hRR
    refine w_move (by constructor) ?_
    refine w_move (by constructor) ?_
    refine y_call rfl (exc ex_vl (exc (by exact rfl) exn)) (c_szVectorS_big (F := F) hM hM2) ?_
    refine w_assign (by constructor) ?_
    exact hRR
  refine snd_seq ?_
  apply sr tokTB (by kernel_rfl)
  · intro RR hRR
    refine w_move (by constructor) ?_
    refine w_lss rfl rfl ?_
    exact hRR
  refine snd_cond_true (by exact congrArg AV.bool (decide_eq_true (by omega))) ?_
  apply sr tokTB (by kernel_rfl)
  · intro RR hRR
    refine w_assign (by constructor) ?_
    exact hRR
  refine snd_ret ?_
  exact rt (T := TB) (fun V => rfl)
theorem law_LegNumber {p n : Int} {T : Nat → Nat → Nat → Int} {fo : Nat → Int} (hT : RB T) (hf : RV fo) (g : Int) {M : Nat} {F : Nat → Nat → Int} (hM0 : M ≤ maxLen) (hFv : ∀ i, RV (F i)) : ACalls Try.prog TB 8 [algA p n T fo, .int .i64 g, vlA M F] (.bool true) [] := by
  rcases Nat.lt_or_ge 1048576 M with hM | hM
  · exact lLegNumber_big hM hM0
  have hF : ∀ i, B8 (F i) := fun i => (hFv i).b
  by_cases hz : VZ p n T fo M F
  · obtain ⟨hv0, hn⟩ := VN_of hT hf hz.1
    obtain ⟨m, rfl⟩ : ∃ m : Nat, n = (m : Int) := ⟨n.toNat, hn⟩
    have hv0 : VN p m T fo := hv0
    by_cases hg : 0 ≤ g ∧ g ≤ 30
    · by_cases hM6 : M ≤ 6
      · by_cases hc : comN m T
        · by_cases hr : rankT p m T fo = m
          · obtain ⟨k, rfl⟩ : ∃ k : Nat, g = (k : Int) := ⟨g.toNat, by omega⟩
            exact lLegNumber_ok hv0 hM6 hF hz hc hr (by omega)
          · exact lLegNumber_ca hv0 hM6 hF hz hc hr hg
        · by_cases hr : rankT p m T fo = m
          · exact lLegNumber_cb hv0 hM6 hF hz hc hr hg
          · exact lLegNumber_cd hv0 hM6 hF hz hc hr hg
      · exact lLegNumber_mb hv0 hM hM6 hF hz hg
    · exact lLegNumber_gb hv0 hM hF hz hg
  · exact lLegNumber_no hT hf hM hF hz
end Go.Am

