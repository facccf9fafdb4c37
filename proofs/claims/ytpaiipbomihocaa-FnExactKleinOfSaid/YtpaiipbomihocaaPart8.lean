/- Part 8 of what the law stands on: abstract values, their walk, contracts of functions. My own work. Conditions: none. -/
import Derived.Test.YtpaiipbomihocaaPart7
set_option linter.unusedVariables false
set_option linter.unusedSimpArgs false
set_option maxRecDepth 4000
namespace Go.Am
attribute [local irreducible] retQ retQp
open Go.Proofs
theorem c_l08Klein {p : Int} {n : Nat} {T : Nat → Nat → Nat → Int} {fo : Nat → Int} (hv0 : VN p n T fo) (hr : rankT p n T fo = n) {F : Nat → Nat → Int} (hF : ∀ i, B8 (F i)) : ACalls Try.prog TB 89 [algA p (n : Int) T fo, vlA n F] (vecA (pr1 p n (fun i j => timesF p n T (F i) (eF j)) (cpM p n (formT p T fo)) n)) [] := by
  have hp8 := hv0.p0
  have hn6 := hv0.n6
  have hn0 := hv0.n0
  have hCB : ∀ r, Bp p ((cpM p n (formT p T fo)) r) := fun r => cpM_Bp hv0.hp (fun i => formT_Bp (by omega) i) hr r
  have hGB : ∀ i j, B8 (timesF p n T (F i) (eF j)) := fun i j => timesF_B8 (by omega) (by omega)
  refine acalls_of tokTB Try.func89 rfl rfl (Nat.le_of_ble_eq_true rfl) ?_
  apply sr tokTB (by kernel_rfl)
  · intro RR hRR
    refine w_boxc (HV.eq (by constructor)) (by exact trivial) ?_
    refine w_alloc kn32 rfl zr32 ?_
    exact hRR
  apply sr tokTB (by kernel_rfl)
  · intro RR hRR
    refine w_ldc rfl kn34 (by constructor) (by exact sz34.symm) (by exact ag34.symm) ?_
    refine w_callc rfl (ec exn) (c_l02Copairing hv0 hr) (by exact closed_rows) (by exact ⟨closed_alg, trivial⟩) ?_
    refine w_bld_a kn32 zr32 und32 kn5 (fun _ => (by exact sz5.symm)) trivial rfl (by exact sz5.symm) ?_
    refine w_alloc kn32 rfl zr32 ?_
    refine w_assign (by constructor) ?_
    refine w_stw rfl (by constructor) kn32 rfl (by exact trivial) (by first | exact trivial | exact ssh_vec | exact ssh_alg | exact ssh_pr | exact ssh_tab | exact ssh_mat | exact ⟨rfl, fun _ => trivial⟩ | exact ⟨rfl, fun _ => by rw [zr32]; exact ssh_vec⟩) (by exact sz32.symm) ?_
    exact hRR
  refine snd_seq ?_
  apply sr tokTB (by kernel_rfl)
  · intro RR hRR
    refine w_assign (by constructor) ?_
    exact hRR
  refine snd_block ?_
  refine snd_loop (S := Nat) (fun i => ([(1, vlA n F), (2, .cptr (algA p (n : Int) T fo)), (4, .ptr 4 0 [] 0 (vecA (fun _ => 0))), (5, rowsA n n (cpM p n (formT p T fo))), (6, .ptr 6 0 [] 0 (vecA (fun _ => 0))), (7, .int .i64 (i : Int))], [(4, .one (vecA (fun _ => 0)) (vecA (fun _ => 0))), (6, .one (vecA (fun _ => 0)) (vecA (pr1 p n (fun i j => timesF p n T (F i) (eF j)) (cpM p n (formT p T fo)) (i))))])) (fun i => i ≤ n) (fun i => n - i) (0) ρ0 ?_ ?_ ?_
  · exact ⟨⟨(by first | exact m_vl | exact mt_fz (by exact ⟨(ne_fst rfl), (ne_fst rfl), trivial⟩) rfl (fun _ _ => mt_vec (fun _ _ => rfl))), m_calg, ⟨rfl, rfl, rfl, rfl, rfl⟩, (mt_rows (V := _) (fun _ _ _ _ => rfl)), ⟨rfl, rfl, rfl, rfl, rfl⟩, (by first | exact m_int rfl | exact m_int (by omega) | exact m_int (by simp; done) | (exact m_int (by simp; omega))), trivial⟩, ⟨⟨rfl, (by first | exact trivial | exact ssh_vec | exact ssh_alg | exact ssh_pr | exact ssh_tab | exact ssh_mat | exact ⟨rfl, fun _ => trivial⟩ | exact ⟨rfl, fun _ => by rw [zr32]; exact ssh_vec⟩), (by first | exact mt_vec (fun _ _ => rfl) | exact mt_mat (fun _ _ _ _ => rfl) | exact mt_tab (fun _ _ _ _ _ _ => rfl) | exact mt_arr0 | exact mt_app (fun _ _ => rfl) rfl | exact ⟨rfl, fun _ _ => mt_row (fun _ _ => rfl)⟩ | exact Mt_closed (V := _) closed_alg (fun _ _ _ => trivial) (by simp))⟩, ⟨rfl, (by first | exact trivial | exact ssh_vec | exact ssh_alg | exact ssh_pr | exact ssh_tab | exact ssh_mat | exact ⟨rfl, fun _ => trivial⟩ | exact ⟨rfl, fun _ => by rw [zr32]; exact ssh_vec⟩), (by first | exact mt_vec (fun _ _ => rfl) | exact mt_mat (fun _ _ _ _ => rfl) | exact mt_tab (fun _ _ _ _ _ _ => rfl) | exact mt_arr0 | exact mt_app (fun _ _ => rfl) rfl | exact ⟨rfl, fun _ _ => mt_row (fun _ _ => rfl)⟩ | exact Mt_closed (V := _) closed_alg (fun _ _ _ => trivial) (by simp))⟩, trivial⟩, ⟨⟨(fun h => by first | exact ⟨rfl, rfl⟩ | exact absurd h (by decide)), (fun h => by first | exact ⟨rfl, rfl⟩ | exact absurd h (by decide)), trivial⟩, ⟨(fun h => by first | exact ⟨rfl, rfl⟩ | exact absurd h (by decide)), (fun h => by first | exact ⟨rfl, rfl⟩ | exact absurd h (by decide)), trivial⟩, trivial⟩⟩
  · exact Nat.zero_le _
  intro i hi0
  refine sq (env2 := [(1, vlA n F), (2, .cptr (algA p (n : Int) T fo)), (4, .ptr 4 0 [] 0 (vecA (fun _ => 0))), (5, rowsA n n (cpM p n (formT p T fo))), (6, .ptr 6 0 [] 0 (vecA (fun _ => 0))), (7, .int .i64 (i : Int))]) (ol2 := [(4, .one (vecA (fun _ => 0)) (vecA (fun _ => 0))), (6, .one (vecA (fun _ => 0)) (vecA (pr1 p n (fun i j => timesF p n T (F i) (eF j)) (cpM p n (formT p T fo)) (i))))]) rfl rfl ?_
  refine snd_seq ?_
  apply sr tokTB (by kernel_rfl)
  · intro RR hRR
    refine w_move (by constructor) ?_
    refine w_fac rfl und34 rfl kn2 nz2 (by decide) rfl (by constructor) ?_
    refine w_ldc rfl kn2 (by constructor) (by exact sz2.symm) (by exact ag2.symm) ?_
    refine w_lss rfl rfl ?_
    exact hRR
  refine snd_cond _ rfl (fun hc15 => ?_) (fun hc15 => ?_)
  · try simp only [hcs] at hc15
    have lt_i : i < n := by omega
    refine snd_skip ?_
    refine snd_seq ?_
    refine snd_block ?_
    apply sr tokTB (by kernel_rfl)
    · intro RR hRR
      refine w_assign (by constructor) ?_
      exact hRR
    refine snd_block ?_
    refine snd_loop (S := Nat) (fun j => ([(1, vlA n F), (2, .cptr (algA p (n : Int) T fo)), (4, .ptr 4 0 [] 0 (vecA (fun _ => 0))), (5, rowsA n n (cpM p n (formT p T fo))), (6, .ptr 6 0 [] 0 (vecA (fun _ => 0))), (7, .int .i64 (i : Int)), (8, .int .i64 (j : Int))], [(4, .one (vecA (fun _ => 0)) (vecA (fun _ => 0))), (6, .one (vecA (fun _ => 0)) (vecA (pr2 p (fun i j => timesF p n T (F i) (eF j)) (cpM p n (formT p T fo)) i (pr1 p n (fun i j => timesF p n T (F i) (eF j)) (cpM p n (formT p T fo)) i) j)))])) (fun j => j ≤ n) (fun j => n - j) (0) ρ0 ?_ ?_ ?_
    · exact ⟨⟨(by first | exact m_vl | exact mt_fz (by exact ⟨(ne_fst rfl), (ne_fst rfl), trivial⟩) rfl (fun _ _ => mt_vec (fun _ _ => rfl))), m_calg, ⟨rfl, rfl, rfl, rfl, rfl⟩, (mt_rows (V := _) (fun _ _ _ _ => rfl)), ⟨rfl, rfl, rfl, rfl, rfl⟩, (by first | exact m_int rfl | exact m_int (by omega) | exact m_int (by simp; done) | (exact m_int (by simp; omega))), (by first | exact m_int rfl | exact m_int (by omega) | exact m_int (by simp; done) | (exact m_int (by simp; omega))), trivial⟩, ⟨⟨rfl, (by first | exact trivial | exact ssh_vec | exact ssh_alg | exact ssh_pr | exact ssh_tab | exact ssh_mat | exact ⟨rfl, fun _ => trivial⟩ | exact ⟨rfl, fun _ => by rw [zr32]; exact ssh_vec⟩), (by first | exact mt_vec (fun _ _ => rfl) | exact mt_mat (fun _ _ _ _ => rfl) | exact mt_tab (fun _ _ _ _ _ _ => rfl) | exact mt_arr0 | exact mt_app (fun _ _ => rfl) rfl | exact ⟨rfl, fun _ _ => mt_row (fun _ _ => rfl)⟩ | exact Mt_closed (V := _) closed_alg (fun _ _ _ => trivial) (by simp))⟩, ⟨rfl, (by first | exact trivial | exact ssh_vec | exact ssh_alg | exact ssh_pr | exact ssh_tab | exact ssh_mat | exact ⟨rfl, fun _ => trivial⟩ | exact ⟨rfl, fun _ => by rw [zr32]; exact ssh_vec⟩), (by first | exact mt_vec (fun _ _ => rfl) | exact mt_mat (fun _ _ _ _ => rfl) | exact mt_tab (fun _ _ _ _ _ _ => rfl) | exact mt_arr0 | exact mt_app (fun _ _ => rfl) rfl | exact ⟨rfl, fun _ _ => mt_row (fun _ _ => rfl)⟩ | exact Mt_closed (V := _) closed_alg (fun _ _ _ => trivial) (by simp))⟩, trivial⟩, ⟨⟨(fun h => by first | exact ⟨rfl, rfl⟩ | exact absurd h (by decide)), (fun h => by first | exact ⟨rfl, rfl⟩ | exact absurd h (by decide)), trivial⟩, ⟨(fun h => by first | exact ⟨rfl, rfl⟩ | exact absurd h (by decide)), (fun h => by first | exact ⟨rfl, rfl⟩ | exact absurd h (by decide)), trivial⟩, trivial⟩⟩
    · exact Nat.zero_le _
    intro j hi2
    refine sq (env2 := [(1, vlA n F), (2, .cptr (algA p (n : Int) T fo)), (4, .ptr 4 0 [] 0 (vecA (fun _ => 0))), (5, rowsA n n (cpM p n (formT p T fo))), (6, .ptr 6 0 [] 0 (vecA (fun _ => 0))), (7, .int .i64 (i : Int)), (8, .int .i64 (j : Int))]) (ol2 := [(4, .one (vecA (fun _ => 0)) (vecA (fun _ => 0))), (6, .one (vecA (fun _ => 0)) (vecA (pr2 p (fun i j => timesF p n T (F i) (eF j)) (cpM p n (formT p T fo)) i (pr1 p n (fun i j => timesF p n T (F i) (eF j)) (cpM p n (formT p T fo)) i) j)))]) rfl rfl ?_
    refine snd_seq ?_
    apply sr tokTB (by kernel_rfl)
    · intro RR hRR
      refine w_move (by constructor) ?_
      refine w_fac rfl und34 rfl kn2 nz2 (by decide) rfl (by constructor) ?_
      refine w_ldc rfl kn2 (by constructor) (by exact sz2.symm) (by exact ag2.symm) ?_
      refine w_lss rfl rfl ?_
      exact hRR
    refine snd_cond _ rfl (fun hc21 => ?_) (fun hc21 => ?_)
    · try simp only [hcs] at hc21
      have lt_j : j < n := by omega
      refine snd_skip ?_
      refine snd_seq ?_
      refine snd_block ?_
      apply ld tokTB mixed (by kernel_rfl) (by kernel_rfl)
      · intro RR hRR
        refine w_fac rfl und34 rfl kn2 nz2 (by decide) rfl (by constructor) ?_
        refine w_ldc rfl kn2 (by constructor) (by exact sz2.symm) (by exact ag2.symm) ?_
        refine w_ldp rfl kn32 rfl (by constructor) (by exact sz32.symm) (by exact ag32.symm) ?_
        refine w_ldc rfl kn34 (by constructor) (by exact sz34.symm) (by exact ag34.symm) ?_
        refine w_move (by constructor) ?_
        refine w_move (by constructor) ?_
        refine w_iar rfl rfl und45 kn32 (by exact sz32.symm) ?_ rfl ?_
        · exact ⟨by omega, by omega⟩
        first | refine w_ldc rfl kn32 (by constructor) (by exact sz32.symm) (by exact ag32.symm) ?_ | refine w_ldp rfl kn32 rfl (by constructor) (by exact sz32.symm) (by exact ag32.symm) ?_
        refine w_move (by constructor) ?_
        refine y_call rfl (ec exn) (c_l01Basis (i := j) (by omega)) ?_
        refine y_call rfl (ec (ec (ec exn))) (c_l01Times (u := F i) (v := eF j) (by omega) (by omega) hv0.n6 hv0.T8 (hF i) (eF_B8 j)) ?_
        refine w_move (by constructor) ?_
        refine w_move (by constructor) ?_
        refine w_iar rfl rfl und78 kn27 (by exact sz27.symm) ?_ rfl ?_
        · exact ⟨by omega, by omega⟩
        first | refine w_ldc rfl kn27 (by constructor) (by exact sz27.symm) (by exact ag27.symm) ?_ | refine w_ldp rfl kn27 rfl (by constructor) (by exact sz27.symm) (by exact ag27.symm) ?_
        refine w_move (by constructor) ?_
        refine w_iar rfl rfl und27 kn2 (by exact sz2.symm) ?_ rfl ?_
        · exact ⟨by omega, by omega⟩
        first | refine w_ldc rfl kn2 (by constructor) (by exact sz2.symm) (by exact ag2.symm) ?_ | refine w_ldp rfl kn2 rfl (by constructor) (by exact sz2.symm) (by exact ag2.symm) ?_
        refine y_call rfl (ec (ec (ec (ec exn)))) (c_l01Add (u := pr2 p (fun i j => timesF p n T (F i) (eF j)) (cpM p n (formT p T fo)) i (pr1 p n (fun i j => timesF p n T (F i) (eF j)) (cpM p n (formT p T fo)) i) j) (v := timesF p n T (F i) (eF j)) (k := (cpM p n (formT p T fo)) i j) hp8 (B8_of (by omega) (pr2_Bp (by omega) (pr1_Bp (by omega) i) j)) (hGB i j) (by have := hCB i j; omega)) ?_
        refine w_stw rfl (by constructor) kn32 rfl (by exact trivial) (by first | exact trivial | exact ssh_vec | exact ssh_alg | exact ssh_pr | exact ssh_tab | exact ssh_mat | exact ⟨rfl, fun _ => trivial⟩ | exact ⟨rfl, fun _ => by rw [zr32]; exact ssh_vec⟩) (by exact sz32.symm) ?_
        exact hRR
      apply lr tokTB (by kernel_rfl)
      · intro RR hRR
        refine w_move (by constructor) ?_
        refine y_add rfl rfl ?_
        refine w_assign (by constructor) ?_
        exact hRR
      refine ⟨j + 1, ρ0, ?_, (by omega), (by dsimp only; omega)⟩
      exact ⟨⟨(by first | exact m_vl | exact mt_fz (by exact ⟨(ne_fst rfl), (ne_fst rfl), trivial⟩) rfl (fun _ _ => mt_vec (fun _ _ => rfl))), m_calg, ⟨rfl, rfl, rfl, rfl, rfl⟩, (mt_rows (V := _) (fun _ _ _ _ => rfl)), ⟨rfl, rfl, rfl, rfl, rfl⟩, (by first | exact m_int rfl | exact m_int (by omega) | exact m_int (by simp; done) | (exact m_int (by simp; omega))), (by first | exact m_int rfl | exact m_int (by omega) | exact m_int (by simp; done) | (exact m_int (by simp; omega))), trivial⟩, ⟨⟨rfl, (by first | exact trivial | exact ssh_vec | exact ssh_alg | exact ssh_pr | exact ssh_tab | exact ssh_mat | exact ⟨rfl, fun _ => trivial⟩ | exact ⟨rfl, fun _ => by rw [zr32]; exact ssh_vec⟩), (by first | exact mt_vec (fun _ _ => rfl) | exact mt_mat (fun _ _ _ _ => rfl) | exact mt_tab (fun _ _ _ _ _ _ => rfl) | exact mt_arr0 | exact mt_app (fun _ _ => rfl) rfl | exact ⟨rfl, fun _ _ => mt_row (fun _ _ => rfl)⟩ | exact Mt_closed (V := _) closed_alg (fun _ _ _ => trivial) (by simp))⟩, ⟨rfl, (by first | exact trivial | exact ssh_vec | exact ssh_alg | exact ssh_pr | exact ssh_tab | exact ssh_mat | exact ⟨rfl, fun _ => trivial⟩ | exact ⟨rfl, fun _ => by rw [zr32]; exact ssh_vec⟩), (by first | exact mt_vec (fun _ _ => rfl) | exact mt_mat (fun _ _ _ _ => rfl) | exact mt_tab (fun _ _ _ _ _ _ => rfl) | exact mt_arr0 | exact mt_app (fun _ _ => rfl) rfl | exact ⟨rfl, fun _ _ => mt_row (fun _ _ => rfl)⟩ | exact Mt_closed (V := _) closed_alg (fun _ _ _ => trivial) (by simp))⟩, trivial⟩, ⟨⟨(fun h => by first | exact ⟨rfl, rfl⟩ | exact absurd h (by decide)), (fun h => by first | exact ⟨rfl, rfl⟩ | exact absurd h (by decide)), trivial⟩, ⟨(fun h => by first | exact ⟨rfl, rfl⟩ | exact absurd h (by decide)), (fun h => by first | exact ⟨rfl, rfl⟩ | exact absurd h (by decide)), trivial⟩, trivial⟩⟩
    · try simp only [hcs] at hc21
      have ge_j : n = j := by omega
      subst ge_j
      refine snd_exit ?_
      apply lr tokTB (by kernel_rfl)
      · intro RR hRR
        refine w_move (by constructor) ?_
        refine y_add rfl rfl ?_
        refine w_assign (by constructor) ?_
        exact hRR
      refine ⟨i + 1, ρ0, ?_, (by omega), (by dsimp only; omega)⟩
      exact ⟨⟨(by first | exact m_vl | exact mt_fz (by exact ⟨(ne_fst rfl), (ne_fst rfl), trivial⟩) rfl (fun _ _ => mt_vec (fun _ _ => rfl))), m_calg, ⟨rfl, rfl, rfl, rfl, rfl⟩, (mt_rows (V := _) (fun _ _ _ _ => rfl)), ⟨rfl, rfl, rfl, rfl, rfl⟩, (by first | exact m_int rfl | exact m_int (by omega) | exact m_int (by simp; done) | (exact m_int (by simp; omega))), trivial⟩, ⟨⟨rfl, (by first | exact trivial | exact ssh_vec | exact ssh_alg | exact ssh_pr | exact ssh_tab | exact ssh_mat | exact ⟨rfl, fun _ => trivial⟩ | exact ⟨rfl, fun _ => by rw [zr32]; exact ssh_vec⟩), (by first | exact mt_vec (fun _ _ => rfl) | exact mt_mat (fun _ _ _ _ => rfl) | exact mt_tab (fun _ _ _ _ _ _ => rfl) | exact mt_arr0 | exact mt_app (fun _ _ => rfl) rfl | exact ⟨rfl, fun _ _ => mt_row (fun _ _ => rfl)⟩ | exact Mt_closed (V := _) closed_alg (fun _ _ _ => trivial) (by simp))⟩, ⟨rfl, (by first | exact trivial | exact ssh_vec | exact ssh_alg | exact ssh_pr | exact ssh_tab | exact ssh_mat | exact ⟨rfl, fun _ => trivial⟩ | exact ⟨rfl, fun _ => by rw [zr32]; exact ssh_vec⟩), (by first | exact mt_vec (fun _ _ => rfl) | exact mt_mat (fun _ _ _ _ => rfl) | exact mt_tab (fun _ _ _ _ _ _ => rfl) | exact mt_arr0 | exact mt_app (fun _ _ => rfl) rfl | exact ⟨rfl, fun _ _ => mt_row (fun _ _ => rfl)⟩ | exact Mt_closed (V := _) closed_alg (fun _ _ _ => trivial) (by simp))⟩, trivial⟩, ⟨⟨(fun h => by first | exact ⟨rfl, rfl⟩ | exact absurd h (by decide)), (fun h => by first | exact ⟨rfl, rfl⟩ | exact absurd h (by decide)), trivial⟩, ⟨(fun h => by first | exact ⟨rfl, rfl⟩ | exact absurd h (by decide)), (fun h => by first | exact ⟨rfl, rfl⟩ | exact absurd h (by decide)), trivial⟩, trivial⟩⟩
  · try simp only [hcs] at hc15
    have ge_i : n = i := by omega
    subst ge_i
    refine snd_exit ?_
    apply sr tokTB (by kernel_rfl)
    · intro RR hRR
      refine w_ldp rfl kn32 rfl (by constructor) (by exact sz32.symm) (by exact ag32.symm) ?_
      refine w_stw rfl (by constructor) kn32 rfl (by exact trivial) (by first | exact trivial | exact ssh_vec | exact ssh_alg | exact ssh_pr | exact ssh_tab | exact ssh_mat | exact ⟨rfl, fun _ => trivial⟩ | exact ⟨rfl, fun _ => by rw [zr32]; exact ssh_vec⟩) (by exact sz32.symm) ?_
      exact hRR
    refine snd_ret ?_
    exact rt_c (T := TB) rfl kn32 rfl sz32.symm ag32.symm (fun V => m_vec (fun j hj => rfl))
theorem c_klein1 {p : Int} {n : Nat} {T : Nat → Nat → Nat → Int} {fo : Nat → Int} (hv0 : VN p n T fo) {F : Nat → Nat → Int} (hF : ∀ i, B8 (F i)) {i j : Nat} (hi : i < n) (hj : j < n) : ACalls Try.prog TB 127 [.int .i64 (i : Int), .int .i64 (j : Int), .cptr (.cptr (algA p (n : Int) T fo)), .cptr (vlA n F)] (vecA (timesF p n T (F i) (eF j))) [] := by
  have hp8 := hv0.p0
  have hn6 := hv0.n6
  refine acalls_of tokTB Try.func127 rfl rfl (Nat.le_of_ble_eq_true rfl) ?_
  apply sr tokTB (by kernel_rfl)
  · intro RR hRR
    refine w_alloc kn32 rfl zr32 ?_
    exact hRR
  apply sd tokTB mixed (by kernel_rfl) (by kernel_rfl)
  · intro RR hRR
    refine w_ldc rfl kn109 (by constructor) (by exact sz109.symm) (by exact ag109.symm) ?_
    refine w_ldc rfl kn45 (by constructor) (by exact sz45.symm) (by exact ag45.symm) ?_
    refine w_move (by constructor) ?_
    refine w_iar rfl rfl und45 kn32 (by exact sz32.symm) ?_ rfl ?_
    · exact ⟨by omega, by omega⟩
    first | refine w_ldc rfl kn32 (by constructor) (by exact sz32.symm) (by exact ag32.symm) ?_ | refine w_ldp rfl kn32 rfl (by constructor) (by exact sz32.symm) (by exact ag32.symm) ?_
    refine w_move (by constructor) ?_
    refine y_call rfl (ec exn) (c_basis (i := j) (by omega)) ?_
    refine y_call rfl (ec (ec (ec exn))) (c_times (u := F i) (v := eF j) (by omega) (by omega) hv0.n6 hv0.T8 (hF i) (eF_B8 j)) ?_
    refine w_stw rfl (by constructor) kn32 rfl (by exact trivial) (by first | exact trivial | exact ssh_vec | exact ssh_alg | exact ssh_pr | exact ssh_tab | exact ssh_mat | exact ⟨rfl, fun _ => trivial⟩ | exact ⟨rfl, fun _ => by rw [zr32]; exact ssh_vec⟩) (by exact sz32.symm) ?_
    exact hRR
  refine snd_ret ?_
  exact rt_c (T := TB) rfl kn32 rfl sz32.symm ag32.symm (fun V => m_vec (fun j hj => rfl))
theorem c_klein {p : Int} {n : Nat} {T : Nat → Nat → Nat → Int} {fo : Nat → Int} (hv0 : VN p n T fo) (hr : rankT p n T fo = n) {F : Nat → Nat → Int} (hF : ∀ i, B8 (F i)) : ACalls Try.prog TB 91 [.cptr (algA p (n : Int) T fo), vlA n F] (vecA (pr1 p n (fun i j => timesF p n T (F i) (eF j)) (cpM p n (formT p T fo)) n)) [] := by
  have hp8 := hv0.p0
  refine acalls_of tokTB Try.func91 rfl rfl (Nat.le_of_ble_eq_true rfl) ?_
  apply sr tokTB (by kernel_rfl)
  · intro RR hRR
    refine w_boxc (HV.eq (by constructor)) (by exact trivial) ?_
    refine w_boxc (HV.eq (by constructor)) (by exact trivial) ?_
    refine w_alloc kn32 rfl zr32 ?_
    exact hRR
  apply sr tokTB (by kernel_rfl)
  · intro RR hRR
    refine w_ldc rfl kn109 (by constructor) (by exact sz109.symm) (by exact ag109.symm) ?_
    refine w_mkf2 (by constructor) (by constructor) ?_
    refine y_call rfl (exc exp_calg (exc (exp_closed (closed_cap2 (a := .cptr (.cptr (algA p (n : Int) T fo))) (b := .cptr (vlA n F)) closed_calg (closed_vl (M := n) (F := F)))) exn)) (c_paired (G := (fun i j => timesF p n T (F i) (eF j))) (g := 127) (nc := 2) (caps := (cap2 (.cptr (.cptr (algA p (n : Int) T fo))) (.cptr (vlA n F)))) hv0 hr (closed_cap2 (a := .cptr (.cptr (algA p (n : Int) T fo))) (b := .cptr (vlA n F)) closed_calg (closed_vl (M := n) (F := F))) (fun i j => timesF_B8 (by omega) (by omega)) (fun i j hi hj => c_klein1 hv0 hF hi hj)) ?_
    refine w_stw rfl (by constructor) kn32 rfl (by exact trivial) (by first | exact trivial | exact ssh_vec | exact ssh_alg | exact ssh_pr | exact ssh_tab | exact ssh_mat | exact ⟨rfl, fun _ => trivial⟩ | exact ⟨rfl, fun _ => by rw [zr32]; exact ssh_vec⟩) (by exact sz32.symm) ?_
    exact hRR
  refine snd_ret ?_
  exact rt_c (T := TB) rfl kn32 rfl sz32.symm ag32.symm (fun V => m_vec (fun j hj => rfl))
theorem c_l08Code_ok {p : Int} {n : Nat} {T : Nat → Nat → Nat → Int} {fo : Nat → Int} (hv0 : VN p n T fo) {F : Nat → Nat → Int} (hF : ∀ i, B8 (F i)) (hl : ∀ i, i < n → smP p (n : Int) (F i)) (hc : comN n T) (hr : rankT p n T fo = n) (hs : starP p n T fo F) : ACalls Try.prog TB 88 [algA p (n : Int) T fo, vlA n F, .nilsl] (.int .i64 0) [] := by
  refine acalls_of tokTB Try.func88 rfl rfl (Nat.le_of_ble_eq_true rfl) ?_
  apply sr tokTB (by kernel_rfl)
  · intro RR hRR
    refine w_boxc (HV.eq (by constructor)) (by exact trivial) ?_
    refine w_assign (by constructor) ?_
    exact hRR
  apply sr tokTB (by kernel_rfl)
  · intro RR hRR
    refine w_ldc rfl kn34 (by constructor) (by exact sz34.symm) (by exact ag34.symm) ?_
    refine w_move (by constructor) ?_
    refine w_move (by constructor) ?_
    refine y_call rfl (exc exp_alg (exc ex_vl (exc (by exact rfl) exn))) (((if_pos (⟨rfl, hl⟩ : liP p (n : Int) n F) : (if liP p (n : Int) n F then (0 : Int) else 2) = 0) ▸ c_l08List0_ok hv0 (by have := hv0.n6; omega) hF)) ?_
    refine w_assign (by constructor) ?_
    exact hRR
  refine snd_seq ?_
  apply srG (env' := (29, .bool (!true)) :: (28, .bool (!true)) :: (27, .any) :: (26, .any) :: (25, .any) :: (24, .any) :: (23, .any) :: (22, .bool (!true)) :: (21, .any) :: (20, .any) :: (19, .any) :: (18, .any) :: (17, .any) :: (16, .any) :: (15, .any) :: (14, _) :: (13, _) :: (12, _) :: _) tokTB (by kernel_rfl)
  · intro RR hRR
    refine w_move (by constructor) ?_
    refine w_eql rfl rfl ?_
    refine w_move (by constructor) ?_
    refine w_g_on rfl rfl rfl ?_
    refine w_ldc rfl kn34 (by constructor) (by exact sz34.symm) (by exact ag34.symm) ?_
    refine w_g_on rfl rfl rfl ?_
    refine y_call rfl (ec exn) (((decide_eq_true ((com_iff hv0).2 hc)) ▸ c_l01Commutative)) ?_
    refine w_g_on rfl rfl rfl ?_
    refine w_not rfl ?_
    refine w_g_on rfl rfl rfl ?_
    refine w_move (by constructor) ?_
    refine w_g_on rfl rfl rfl ?_
    refine w_ldc rfl kn34 (by constructor) (by exact sz34.symm) (by exact ag34.symm) ?_
    refine w_g_on rfl rfl rfl ?_
    refine y_call rfl (ec exn) (((decide_eq_true (hr)) ▸ c_l01Frobenius hv0)) ?_
    refine w_g_on rfl rfl rfl ?_
    refine w_not rfl ?_
    refine w_g_on rfl rfl rfl ?_
    refine w_pick_0 rfl rfl (by constructor) ?_
    refine w_g_on rfl rfl rfl ?_
    refine w_move (by constructor) ?_
    refine w_g_on rfl rfl rfl ?_
    refine w_ldc rfl kn34 (by constructor) (by exact sz34.symm) (by exact ag34.symm) ?_
    refine w_g_on rfl rfl rfl ?_
    refine w_move (by constructor) ?_
    refine w_g_on rfl rfl rfl ?_
    refine y_call rfl (ec (ec exn)) (((decide_eq_true (hs)) ▸ c_l08Star hv0 hF)) ?_
    refine w_g_on rfl rfl rfl ?_
    refine w_not rfl ?_
    refine w_g_on rfl rfl rfl ?_
    refine w_pick_0 rfl rfl (by constructor) ?_
    refine w_pick_1 rfl rfl (by constructor) ?_
    exact hRR _ (EL.cons (.inr (by first | rfl | (simp only [els]; done) | simp)) (EL.cons (.inr (by first | rfl | (simp only [els]; done) | simp)) (EL.cons (.inl rfl) (EL.cons (.inl rfl) (EL.cons (.inl rfl) (EL.cons (.inl rfl) (EL.cons (.inl rfl) (EL.cons (.inr (by first | rfl | (simp only [els]; done) | simp)) (EL.cons (.inl rfl) (EL.cons (.inl rfl) (EL.cons (.inl rfl) (EL.cons (.inl rfl) (EL.cons (.inl rfl) (EL.cons (.inl rfl) (EL.cons (.inl rfl) (EL.cons (.inr rfl) (EL.cons (.inr rfl) (EL.cons (.inr rfl) (EL.refl _)))))))))))))))))))
  refine snd_cond_false rfl ?_
  refine snd_skip ?_
  apply sr tokTB (by kernel_rfl)
  · intro RR hRR
    refine w_move (by constructor) ?_
    refine w_assign (by constructor) ?_
    exact hRR
  refine snd_ret ?_
  exact rt (T := TB) (fun V => rfl)
theorem c_l08Code_nc {p : Int} {n : Nat} {T : Nat → Nat → Nat → Int} {fo : Nat → Int} (hv0 : VN p n T fo) {F : Nat → Nat → Int} (hF : ∀ i, B8 (F i)) (hl : ∀ i, i < n → smP p (n : Int) (F i)) (hc : ¬ comN n T) : ACalls Try.prog TB 88 [algA p (n : Int) T fo, vlA n F, .nilsl] (.int .i64 5) [] := by
  refine acalls_of tokTB Try.func88 rfl rfl (Nat.le_of_ble_eq_true rfl) ?_
  apply sr tokTB (by kernel_rfl)
  · intro RR hRR
    refine w_boxc (HV.eq (by constructor)) (by exact trivial) ?_
    refine w_assign (by constructor) ?_
    exact hRR
  apply sr tokTB (by kernel_rfl)
  · intro RR hRR
    refine w_ldc rfl kn34 (by constructor) (by exact sz34.symm) (by exact ag34.symm) ?_
    refine w_move (by constructor) ?_
    refine w_move (by constructor) ?_
    refine y_call rfl (exc exp_alg (exc ex_vl (exc (by exact rfl) exn))) (((if_pos (⟨rfl, hl⟩ : liP p (n : Int) n F) : (if liP p (n : Int) n F then (0 : Int) else 2) = 0) ▸ c_l08List0_ok hv0 (by have := hv0.n6; omega) hF)) ?_
    refine w_assign (by constructor) ?_
    exact hRR
  refine snd_seq ?_
  apply srG (env' := (29, .bool true) :: (28, .bool true) :: (27, .any) :: (26, .any) :: (25, .any) :: (24, .any) :: (23, .any) :: (22, .bool true) :: (21, .any) :: (20, .any) :: (19, .any) :: (18, .any) :: (17, .any) :: (16, .any) :: (15, .any) :: (14, _) :: (13, _) :: (12, _) :: _) tokTB (by kernel_rfl)
  · intro RR hRR
    refine w_move (by constructor) ?_
    refine w_eql rfl rfl ?_
    refine w_move (by constructor) ?_
    refine w_g_on rfl rfl rfl ?_
    refine w_ldc rfl kn34 (by constructor) (by exact sz34.symm) (by exact ag34.symm) ?_
    refine w_g_on rfl rfl rfl ?_
    refine y_call rfl (ec exn) (((decide_eq_false (fun q => hc ((com_iff hv0).1 q))) ▸ c_l01Commutative)) ?_
    refine w_g_on rfl rfl rfl ?_
    refine w_not rfl ?_
    refine w_g_on rfl rfl rfl ?_
    refine w_move (by constructor) ?_
    refine w_g_off rfl rfl (by decide) ?_
    refine w_g_off rfl rfl (by decide) ?_
    refine w_g_off rfl rfl (by decide) ?_
    refine w_g_on rfl rfl rfl ?_
    refine w_pick_1 rfl rfl (by constructor) ?_
    refine w_g_on rfl rfl rfl ?_
    refine w_move (by constructor) ?_
    refine w_g_off rfl rfl (by decide) ?_
    refine w_g_off rfl rfl (by decide) ?_
    refine w_g_off rfl rfl (by decide) ?_
    refine w_g_off rfl rfl (by decide) ?_
    refine w_g_on rfl rfl rfl ?_
    refine w_pick_1 rfl rfl (by constructor) ?_
    refine w_pick_1 rfl rfl (by constructor) ?_
    exact hRR _ (EL.cons (.inr (by first | rfl | (simp only [els]; done) | simp)) (EL.cons (.inr (by first | rfl | (simp only [els]; done) | simp)) (EL.cons (.inl rfl) (EL.cons (.inl rfl) (EL.cons (.inl rfl) (EL.cons (.inl rfl) (EL.cons (.inl rfl) (EL.cons (.inr (by first | rfl | (simp only [els]; done) | simp)) (EL.cons (.inl rfl) (EL.cons (.inl rfl) (EL.cons (.inl rfl) (EL.cons (.inl rfl) (EL.cons (.inl rfl) (EL.cons (.inl rfl) (EL.cons (.inl rfl) (EL.cons (.inr rfl) (EL.cons (.inr rfl) (EL.cons (.inr rfl) (EL.refl _)))))))))))))))))))
  refine snd_cond_true rfl ?_
  apply lr tokTB (by kernel_rfl)
  · intro RR hRR
    refine w_assign (by constructor) ?_
    exact hRR
  apply sr tokTB (by kernel_rfl)
  · intro RR hRR
    refine w_move (by constructor) ?_
    refine w_assign (by constructor) ?_
    exact hRR
  refine snd_ret ?_
  exact rt (T := TB) (fun V => rfl)
theorem c_l08Code_nr {p : Int} {n : Nat} {T : Nat → Nat → Nat → Int} {fo : Nat → Int} (hv0 : VN p n T fo) {F : Nat → Nat → Int} (hF : ∀ i, B8 (F i)) (hl : ∀ i, i < n → smP p (n : Int) (F i)) (hc : comN n T) (hr : ¬ rankT p n T fo = n) : ACalls Try.prog TB 88 [algA p (n : Int) T fo, vlA n F, .nilsl] (.int .i64 5) [] := by
  refine acalls_of tokTB Try.func88 rfl rfl (Nat.le_of_ble_eq_true rfl) ?_
  apply sr tokTB (by kernel_rfl)
  · intro RR hRR
    refine w_boxc (HV.eq (by constructor)) (by exact trivial) ?_
    refine w_assign (by constructor) ?_
    exact hRR
  apply sr tokTB (by kernel_rfl)
  · intro RR hRR
    refine w_ldc rfl kn34 (by constructor) (by exact sz34.symm) (by exact ag34.symm) ?_
    refine w_move (by constructor) ?_
    refine w_move (by constructor) ?_
    refine y_call rfl (exc exp_alg (exc ex_vl (exc (by exact rfl) exn))) (((if_pos (⟨rfl, hl⟩ : liP p (n : Int) n F) : (if liP p (n : Int) n F then (0 : Int) else 2) = 0) ▸ c_l08List0_ok hv0 (by have := hv0.n6; omega) hF)) ?_
    refine w_assign (by constructor) ?_
    exact hRR
  refine snd_seq ?_
  apply srG (env' := (29, .bool true) :: (28, .bool true) :: (27, .any) :: (26, .any) :: (25, .any) :: (24, .any) :: (23, .any) :: (22, .bool (!false)) :: (21, .any) :: (20, .any) :: (19, .any) :: (18, .any) :: (17, .any) :: (16, .any) :: (15, .any) :: (14, _) :: (13, _) :: (12, _) :: _) tokTB (by kernel_rfl)
  · intro RR hRR
    refine w_move (by constructor) ?_
    refine w_eql rfl rfl ?_
    refine w_move (by constructor) ?_
    refine w_g_on rfl rfl rfl ?_
    refine w_ldc rfl kn34 (by constructor) (by exact sz34.symm) (by exact ag34.symm) ?_
    refine w_g_on rfl rfl rfl ?_
    refine y_call rfl (ec exn) (((decide_eq_true ((com_iff hv0).2 hc)) ▸ c_l01Commutative)) ?_
    refine w_g_on rfl rfl rfl ?_
    refine w_not rfl ?_
    refine w_g_on rfl rfl rfl ?_
    refine w_move (by constructor) ?_
    refine w_g_on rfl rfl rfl ?_
    refine w_ldc rfl kn34 (by constructor) (by exact sz34.symm) (by exact ag34.symm) ?_
    refine w_g_on rfl rfl rfl ?_
    refine y_call rfl (ec exn) (((decide_eq_false (hr)) ▸ c_l01Frobenius hv0)) ?_
    refine w_g_on rfl rfl rfl ?_
    refine w_not rfl ?_
    refine w_g_on rfl rfl rfl ?_
    refine w_pick_0 rfl rfl (by constructor) ?_
    refine w_g_on rfl rfl rfl ?_
    refine w_move (by constructor) ?_
    refine w_g_off rfl rfl (by decide) ?_
    refine w_g_off rfl rfl (by decide) ?_
    refine w_g_off rfl rfl (by decide) ?_
    refine w_g_off rfl rfl (by decide) ?_
    refine w_g_on rfl rfl rfl ?_
    refine w_pick_1 rfl rfl (by constructor) ?_
    refine w_pick_1 rfl rfl (by constructor) ?_
    exact hRR _ (EL.cons (.inr (by first | rfl | (simp only [els]; done) | simp)) (EL.cons (.inr (by first | rfl | (simp only [els]; done) | simp)) (EL.cons (.inl rfl) (EL.cons (.inl rfl) (EL.cons (.inl rfl) (EL.cons (.inl rfl) (EL.cons (.inl rfl) (EL.cons (.inr (by first | rfl | (simp only [els]; done) | simp)) (EL.cons (.inl rfl) (EL.cons (.inl rfl) (EL.cons (.inl rfl) (EL.cons (.inl rfl) (EL.cons (.inl rfl) (EL.cons (.inl rfl) (EL.cons (.inl rfl) (EL.cons (.inr rfl) (EL.cons (.inr rfl) (EL.cons (.inr rfl) (EL.refl _)))))))))))))))))))
  refine snd_cond_true rfl ?_
  apply lr tokTB (by kernel_rfl)
  · intro RR hRR
    refine w_assign (by constructor) ?_
    exact hRR
  apply sr tokTB (by kernel_rfl)
  · intro RR hRR
    refine w_move (by constructor) ?_
    refine w_assign (by constructor) ?_
    exact hRR
  refine snd_ret ?_
  exact rt (T := TB) (fun V => rfl)
theorem c_l08Code_ns {p : Int} {n : Nat} {T : Nat → Nat → Nat → Int} {fo : Nat → Int} (hv0 : VN p n T fo) {F : Nat → Nat → Int} (hF : ∀ i, B8 (F i)) (hl : ∀ i, i < n → smP p (n : Int) (F i)) (hc : comN n T) (hr : rankT p n T fo = n) (hs : ¬ starP p n T fo F) : ACalls Try.prog TB 88 [algA p (n : Int) T fo, vlA n F, .nilsl] (.int .i64 5) [] := by
  refine acalls_of tokTB Try.func88 rfl rfl (Nat.le_of_ble_eq_true rfl) ?_
  apply sr tokTB (by kernel_rfl)
  · intro RR hRR
    refine w_boxc (HV.eq (by constructor)) (by exact trivial) ?_
    refine w_assign (by constructor) ?_
    exact hRR
  apply sr tokTB (by kernel_rfl)
  · intro RR hRR
    refine w_ldc rfl kn34 (by constructor) (by exact sz34.symm) (by exact ag34.symm) ?_
    refine w_move (by constructor) ?_
    refine w_move (by constructor) ?_
    refine y_call rfl (exc exp_alg (exc ex_vl (exc (by exact rfl) exn))) (((if_pos (⟨rfl, hl⟩ : liP p (n : Int) n F) : (if liP p (n : Int) n F then (0 : Int) else 2) = 0) ▸ c_l08List0_ok hv0 (by have := hv0.n6; omega) hF)) ?_
    refine w_assign (by constructor) ?_
    exact hRR
  refine snd_seq ?_
  apply srG (env' := (29, .bool (!false)) :: (28, .bool (!false)) :: (27, .any) :: (26, .any) :: (25, .any) :: (24, .any) :: (23, .any) :: (22, .bool (!true)) :: (21, .any) :: (20, .any) :: (19, .any) :: (18, .any) :: (17, .any) :: (16, .any) :: (15, .any) :: (14, _) :: (13, _) :: (12, _) :: _) tokTB (by kernel_rfl)
  · intro RR hRR
    refine w_move (by constructor) ?_
    refine w_eql rfl rfl ?_
    refine w_move (by constructor) ?_
    refine w_g_on rfl rfl rfl ?_
    refine w_ldc rfl kn34 (by constructor) (by exact sz34.symm) (by exact ag34.symm) ?_
    refine w_g_on rfl rfl rfl ?_
    refine y_call rfl (ec exn) (((decide_eq_true ((com_iff hv0).2 hc)) ▸ c_l01Commutative)) ?_
    refine w_g_on rfl rfl rfl ?_
    refine w_not rfl ?_
    refine w_g_on rfl rfl rfl ?_
    refine w_move (by constructor) ?_
    refine w_g_on rfl rfl rfl ?_
    refine w_ldc rfl kn34 (by constructor) (by exact sz34.symm) (by exact ag34.symm) ?_
    refine w_g_on rfl rfl rfl ?_
    refine y_call rfl (ec exn) (((decide_eq_true (hr)) ▸ c_l01Frobenius hv0)) ?_
    refine w_g_on rfl rfl rfl ?_
    refine w_not rfl ?_
    refine w_g_on rfl rfl rfl ?_
    refine w_pick_0 rfl rfl (by constructor) ?_
    refine w_g_on rfl rfl rfl ?_
    refine w_move (by constructor) ?_
    refine w_g_on rfl rfl rfl ?_
    refine w_ldc rfl kn34 (by constructor) (by exact sz34.symm) (by exact ag34.symm) ?_
    refine w_g_on rfl rfl rfl ?_
    refine w_move (by constructor) ?_
    refine w_g_on rfl rfl rfl ?_
    refine y_call rfl (ec (ec exn)) (((decide_eq_false (hs)) ▸ c_l08Star hv0 hF)) ?_
    refine w_g_on rfl rfl rfl ?_
    refine w_not rfl ?_
    refine w_g_on rfl rfl rfl ?_
    refine w_pick_0 rfl rfl (by constructor) ?_
    refine w_pick_1 rfl rfl (by constructor) ?_
    exact hRR _ (EL.cons (.inr (by first | rfl | (simp only [els]; done) | simp)) (EL.cons (.inr (by first | rfl | (simp only [els]; done) | simp)) (EL.cons (.inl rfl) (EL.cons (.inl rfl) (EL.cons (.inl rfl) (EL.cons (.inl rfl) (EL.cons (.inl rfl) (EL.cons (.inr (by first | rfl | (simp only [els]; done) | simp)) (EL.cons (.inl rfl) (EL.cons (.inl rfl) (EL.cons (.inl rfl) (EL.cons (.inl rfl) (EL.cons (.inl rfl) (EL.cons (.inl rfl) (EL.cons (.inl rfl) (EL.cons (.inr rfl) (EL.cons (.inr rfl) (EL.cons (.inr rfl) (EL.refl _)))))))))))))))))))
  refine snd_cond_true rfl ?_
  apply lr tokTB (by kernel_rfl)
  · intro RR hRR
    refine w_assign (by constructor) ?_
    exact hRR
  apply sr tokTB (by kernel_rfl)
  · intro RR hRR
    refine w_move (by constructor) ?_
    refine w_assign (by constructor) ?_
    exact hRR
  refine snd_ret ?_
  exact rt (T := TB) (fun V => rfl)
theorem c_l08Code_nl {p : Int} {n : Nat} {T : Nat → Nat → Nat → Int} {fo : Nat → Int} (hv0 : VN p n T fo) {M : Nat} {F : Nat → Nat → Int} (hM : M ≤ 16777216) (hF : ∀ i, B8 (F i)) (hl : ¬ liP p (n : Int) M F) : ACalls Try.prog TB 88 [algA p (n : Int) T fo, vlA M F, .nilsl] (.int .i64 2) [] := by
  refine acalls_of tokTB Try.func88 rfl rfl (Nat.le_of_ble_eq_true rfl) ?_
  apply sr tokTB (by kernel_rfl)
  · intro RR hRR
    refine w_boxc (HV.eq (by constructor)) (by exact trivial) ?_
    refine w_assign (by constructor) ?_
    exact hRR
  apply sr tokTB (by kernel_rfl)
  · intro RR hRR
    refine w_ldc rfl kn34 (by constructor) (by exact sz34.symm) (by exact ag34.symm) ?_
    refine w_move (by constructor) ?_
    refine w_move (by constructor) ?_
    refine y_call rfl (exc exp_alg (exc ex_vl (exc (by exact rfl) exn))) (((if_neg hl : (if liP p (n : Int) M F then (0 : Int) else 2) = 2) ▸ c_l08List0_ok hv0 hM hF)) ?_
    refine w_assign (by constructor) ?_
    exact hRR
  refine snd_seq ?_
  apply srG (env' := (29, .bool false) :: (28, .any) :: (27, .any) :: (26, .any) :: (25, .any) :: (24, .any) :: (23, .any) :: (22, .any) :: (21, .any) :: (20, .any) :: (19, .any) :: (18, .any) :: (17, .any) :: (16, .any) :: (15, .any) :: (14, _) :: (13, _) :: (12, _) :: _) tokTB (by kernel_rfl)
  · intro RR hRR
    refine w_move (by constructor) ?_
    refine w_eql rfl rfl ?_
    refine w_move (by constructor) ?_
    refine w_g_off rfl rfl (by decide) ?_
    refine w_g_off rfl rfl (by decide) ?_
    refine w_g_off rfl rfl (by decide) ?_
    refine w_g_off rfl rfl (by decide) ?_
    refine w_g_und rfl rfl ?_
    refine w_g_und rfl rfl ?_
    refine w_g_und rfl rfl ?_
    refine w_g_off rfl rfl (by decide) ?_
    refine w_g_off rfl rfl (by decide) ?_
    refine w_g_und rfl rfl ?_
    refine w_g_und rfl rfl ?_
    refine w_g_und rfl rfl ?_
    refine w_g_und rfl rfl ?_
    refine w_g_off rfl rfl (by decide) ?_
    refine w_pick_0 rfl rfl (by constructor) ?_
    exact hRR _ (EL.cons (.inr (by first | rfl | (simp only [els]; done) | simp)) (EL.cons (.inl rfl) (EL.cons (.inl rfl) (EL.cons (.inl rfl) (EL.cons (.inl rfl) (EL.cons (.inl rfl) (EL.cons (.inl rfl) (EL.cons (.inl rfl) (EL.cons (.inl rfl) (EL.cons (.inl rfl) (EL.cons (.inl rfl) (EL.cons (.inl rfl) (EL.cons (.inl rfl) (EL.cons (.inl rfl) (EL.cons (.inl rfl) (EL.cons (.inr rfl) (EL.cons (.inr rfl) (EL.cons (.inr rfl) (EL.refl _)))))))))))))))))))
  refine snd_cond_false rfl ?_
  refine snd_skip ?_
  apply sr tokTB (by kernel_rfl)
  · intro RR hRR
    refine w_move (by constructor) ?_
    refine w_assign (by constructor) ?_
    exact hRR
  refine snd_ret ?_
  exact rt (T := TB) (fun V => rfl)
theorem c_l08Code_no {p n : Int} {T : Nat → Nat → Nat → Int} {fo : Nat → Int} (hT : RB T) (hf : RV fo) (hz : ¬ VZ p n T fo 0 (fun _ _ => 0)) {M : Nat} {F : Nat → Nat → Int} (hM : M ≤ 16777216) (hF : ∀ i, B8 (F i)) : ACalls Try.prog TB 88 [algA p n T fo, vlA M F, .nilsl] (.int .i64 1) [] := by
  refine acalls_of tokTB Try.func88 rfl rfl (Nat.le_of_ble_eq_true rfl) ?_
  apply sr tokTB (by kernel_rfl)
  · intro RR hRR
    refine w_boxc (HV.eq (by constructor)) (by exact trivial) ?_
    refine w_assign (by constructor) ?_
    exact hRR
  apply sr tokTB (by kernel_rfl)
  · intro RR hRR
    refine w_ldc rfl kn34 (by constructor) (by exact sz34.symm) (by exact ag34.symm) ?_
    refine w_move (by constructor) ?_
    refine w_move (by constructor) ?_
    refine y_call rfl (exc exp_alg (exc ex_vl (exc (by exact rfl) exn))) (c_l08List0_no hT hf hz) ?_
    refine w_assign (by constructor) ?_
    exact hRR
  refine snd_seq ?_
  apply srG (env' := (29, .bool false) :: (28, .any) :: (27, .any) :: (26, .any) :: (25, .any) :: (24, .any) :: (23, .any) :: (22, .any) :: (21, .any) :: (20, .any) :: (19, .any) :: (18, .any) :: (17, .any) :: (16, .any) :: (15, .any) :: (14, _) :: (13, _) :: (12, _) :: _) tokTB (by kernel_rfl)
  · intro RR hRR
    refine w_move (by constructor) ?_
    refine w_eql rfl rfl ?_
    refine w_move (by constructor) ?_
    refine w_g_off rfl rfl (by decide) ?_
    refine w_g_off rfl rfl (by decide) ?_
    refine w_g_off rfl rfl (by decide) ?_
    refine w_g_off rfl rfl (by decide) ?_
    refine w_g_und rfl rfl ?_
    refine w_g_und rfl rfl ?_
    refine w_g_und rfl rfl ?_
    refine w_g_off rfl rfl (by decide) ?_
    refine w_g_off rfl rfl (by decide) ?_
    refine w_g_und rfl rfl ?_
    refine w_g_und rfl rfl ?_
    refine w_g_und rfl rfl ?_
    refine w_g_und rfl rfl ?_
    refine w_g_off rfl rfl (by decide) ?_
    refine w_pick_0 rfl rfl (by constructor) ?_
    exact hRR _ (EL.cons (.inr (by first | rfl | (simp only [els]; done) | simp)) (EL.cons (.inl rfl) (EL.cons (.inl rfl) (EL.cons (.inl rfl) (EL.cons (.inl rfl) (EL.cons (.inl rfl) (EL.cons (.inl rfl) (EL.cons (.inl rfl) (EL.cons (.inl rfl) (EL.cons (.inl rfl) (EL.cons (.inl rfl) (EL.cons (.inl rfl) (EL.cons (.inl rfl) (EL.cons (.inl rfl) (EL.cons (.inl rfl) (EL.cons (.inr rfl) (EL.cons (.inr rfl) (EL.cons (.inr rfl) (EL.refl _)))))))))))))))))))
  refine snd_cond_false rfl ?_
  refine snd_skip ?_
  apply sr tokTB (by kernel_rfl)
  · intro RR hRR
    refine w_move (by constructor) ?_
    refine w_assign (by constructor) ?_
    exact hRR
  refine snd_ret ?_
  exact rt (T := TB) (fun V => rfl)
theorem c_stars_ok {p : Int} {n : Nat} {T : Nat → Nat → Nat → Int} {fo : Nat → Int} (hv0 : VN p n T fo) {F : Nat → Nat → Int} (hF : ∀ i, B8 (F i)) (hl : ∀ i, i < n → smP p (n : Int) (F i)) (hc : comN n T) (hr : rankT p n T fo = n) (hs : starP p n T fo F) : ACalls Try.prog TB 90 [algA p (n : Int) T fo, vlA n F, .nilsl] (.int .i64 0) [] := by
  refine acalls_of tokTB Try.func90 rfl rfl (Nat.le_of_ble_eq_true rfl) ?_
  apply sr tokTB (by kernel_rfl)
  · intro RR hRR
    refine w_boxc (HV.eq (by constructor)) (by exact trivial) ?_
    refine w_assign (by constructor) ?_
    exact hRR
  refine snd_seq ?_
  apply sr tokTB (by kernel_rfl)
  · intro RR hRR
    refine w_ldc rfl kn34 (by constructor) (by exact sz34.symm) (by exact ag34.symm) ?_
    refine w_move (by constructor) ?_
    refine w_move (by constructor) ?_
    refine y_call rfl (exc exp_alg (exc ex_vl (exc (by exact rfl) exn))) (((if_pos (⟨rfl, hl⟩ : liP p (n : Int) n F) : (if liP p (n : Int) n F then (0 : Int) else 2) = 0) ▸ c_listed0_ok hv0 (by have := hv0.n6; omega) hF)) ?_
    refine w_assign (by constructor) ?_
    exact hRR
  apply sr tokTB (by kernel_rfl)
  · intro RR hRR
    refine w_move (by constructor) ?_
    refine w_neq rfl rfl ?_
    exact hRR
  refine snd_cond_false rfl ?_
  refine snd_skip ?_
  refine snd_seq ?_
  apply srG (env' := (25, .bool (!true)) :: (24, .any) :: (23, .any) :: (22, .any) :: (21, .bool (!true)) :: (20, .bool (!true)) :: (19, .any) :: (18, .any) :: (17, _) :: (16, _) :: (15, _) :: _) tokTB (by kernel_rfl)
  · intro RR hRR
    refine y_call rfl (ec exn) (((decide_eq_true (hc)) ▸ c_commutative hv0.n6)) ?_
    refine w_not rfl ?_
    refine w_move (by constructor) ?_
    refine w_g_on rfl rfl rfl ?_
    refine y_call rfl (ec exn) (((decide_eq_true (hr)) ▸ c_frobenius hv0)) ?_
    refine w_g_on rfl rfl rfl ?_
    refine w_not rfl ?_
    refine w_pick_0 rfl rfl (by constructor) ?_
    refine w_move (by constructor) ?_
    refine w_g_on rfl rfl rfl ?_
    refine w_move (by constructor) ?_
    refine w_g_on rfl rfl rfl ?_
    refine y_call rfl (ec (ec exn)) (((decide_eq_true (hs)) ▸ c_isStar hv0 hF)) ?_
    refine w_g_on rfl rfl rfl ?_
    refine w_not rfl ?_
    refine w_pick_0 rfl rfl (by constructor) ?_
    exact hRR _ (EL.cons (.inr (by first | rfl | (simp only [els]; done) | simp)) (EL.cons (.inl rfl) (EL.cons (.inl rfl) (EL.cons (.inl rfl) (EL.cons (.inr (by first | rfl | (simp only [els]; done) | simp)) (EL.cons (.inr (by first | rfl | (simp only [els]; done) | simp)) (EL.cons (.inl rfl) (EL.cons (.inl rfl) (EL.cons (.inr rfl) (EL.cons (.inr rfl) (EL.cons (.inr rfl) (EL.refl _))))))))))))
  refine snd_cond_false rfl ?_
  refine snd_skip ?_
  apply sr tokTB (by kernel_rfl)
  · intro RR hRR
    refine w_assign (by constructor) ?_
    exact hRR
  refine snd_ret ?_
  exact rt (T := TB) (fun V => rfl)
theorem c_stars_nc {p : Int} {n : Nat} {T : Nat → Nat → Nat → Int} {fo : Nat → Int} (hv0 : VN p n T fo) {F : Nat → Nat → Int} (hF : ∀ i, B8 (F i)) (hl : ∀ i, i < n → smP p (n : Int) (F i)) (hc : ¬ comN n T) : ACalls Try.prog TB 90 [algA p (n : Int) T fo, vlA n F, .nilsl] (.int .i64 5) [] := by
  refine acalls_of tokTB Try.func90 rfl rfl (Nat.le_of_ble_eq_true rfl) ?_
  apply sr tokTB (by kernel_rfl)
  · intro RR hRR
    refine w_boxc (HV.eq (by constructor)) (by exact trivial) ?_
    refine w_assign (by constructor) ?_
    exact hRR
  refine snd_seq ?_
  apply sr tokTB (by kernel_rfl)
  · intro RR hRR
    refine w_ldc rfl kn34 (by constructor) (by exact sz34.symm) (by exact ag34.symm) ?_
    refine w_move (by constructor) ?_
    refine w_move (by constructor) ?_
    refine y_call rfl (exc exp_alg (exc ex_vl (exc (by exact rfl) exn))) (((if_pos (⟨rfl, hl⟩ : liP p (n : Int) n F) : (if liP p (n : Int) n F then (0 : Int) else 2) = 0) ▸ c_listed0_ok hv0 (by have := hv0.n6; omega) hF)) ?_
    refine w_assign (by constructor) ?_
    exact hRR
  apply sr tokTB (by kernel_rfl)
  · intro RR hRR
    refine w_move (by constructor) ?_
    refine w_neq rfl rfl ?_
    exact hRR
  refine snd_cond_false rfl ?_
  refine snd_skip ?_
  refine snd_seq ?_
  apply srG (env' := (25, .bool true) :: (24, .any) :: (23, .any) :: (22, .any) :: (21, .bool true) :: (20, .bool true) :: (19, .any) :: (18, .any) :: (17, _) :: (16, _) :: (15, _) :: _) tokTB (by kernel_rfl)
  · intro RR hRR
    refine y_call rfl (ec exn) (((decide_eq_false (hc)) ▸ c_commutative hv0.n6)) ?_
    refine w_not rfl ?_
    refine w_move (by constructor) ?_
    refine w_g_off rfl rfl (by decide) ?_
    refine w_g_off rfl rfl (by decide) ?_
    refine w_pick_1 rfl rfl (by constructor) ?_
    refine w_move (by constructor) ?_
    refine w_g_off rfl rfl (by decide) ?_
    refine w_g_off rfl rfl (by decide) ?_
    refine w_g_off rfl rfl (by decide) ?_
    refine w_pick_1 rfl rfl (by constructor) ?_
    exact hRR _ (EL.cons (.inr (by first | rfl | (simp only [els]; done) | simp)) (EL.cons (.inl rfl) (EL.cons (.inl rfl) (EL.cons (.inl rfl) (EL.cons (.inr (by first | rfl | (simp only [els]; done) | simp)) (EL.cons (.inr (by first | rfl | (simp only [els]; done) | simp)) (EL.cons (.inl rfl) (EL.cons (.inl rfl) (EL.cons (.inr rfl) (EL.cons (.inr rfl) (EL.cons (.inr rfl) (EL.refl _))))))))))))
  refine snd_cond_true rfl ?_
  apply sr tokTB (by kernel_rfl)
  · intro RR hRR
    refine w_assign (by constructor) ?_
    exact hRR
  refine snd_ret ?_
  exact rt (T := TB) (fun V => rfl)
theorem c_stars_nr {p : Int} {n : Nat} {T : Nat → Nat → Nat → Int} {fo : Nat → Int} (hv0 : VN p n T fo) {F : Nat → Nat → Int} (hF : ∀ i, B8 (F i)) (hl : ∀ i, i < n → smP p (n : Int) (F i)) (hc : comN n T) (hr : ¬ rankT p n T fo = n) : ACalls Try.prog TB 90 [algA p (n : Int) T fo, vlA n F, .nilsl] (.int .i64 5) [] := by
  refine acalls_of tokTB Try.func90 rfl rfl (Nat.le_of_ble_eq_true rfl) ?_
  apply sr tokTB (by kernel_rfl)
  · intro RR hRR
    refine w_boxc (HV.eq (by constructor)) (by exact trivial) ?_
    refine w_assign (by constructor) ?_
    exact hRR
  refine snd_seq ?_
  apply sr tokTB (by kernel_rfl)
  · intro RR hRR
    refine w_ldc rfl kn34 (by constructor) (by exact sz34.symm) (by exact ag34.symm) ?_
    refine w_move (by constructor) ?_
    refine w_move (by constructor) ?_
    refine y_call rfl (exc exp_alg (exc ex_vl (exc (by exact rfl) exn))) (((if_pos (⟨rfl, hl⟩ : liP p (n : Int) n F) : (if liP p (n : Int) n F then (0 : Int) else 2) = 0) ▸ c_listed0_ok hv0 (by have := hv0.n6; omega) hF)) ?_
    refine w_assign (by constructor) ?_
    exact hRR
  apply sr tokTB (by kernel_rfl)
  · intro RR hRR
    refine w_move (by constructor) ?_
    refine w_neq rfl rfl ?_
    exact hRR
  refine snd_cond_false rfl ?_
  refine snd_skip ?_
  refine snd_seq ?_
  apply srG (env' := (25, .bool true) :: (24, .any) :: (23, .any) :: (22, .any) :: (21, .bool (!false)) :: (20, .bool (!false)) :: (19, .any) :: (18, .any) :: (17, _) :: (16, _) :: (15, _) :: _) tokTB (by kernel_rfl)
  · intro RR hRR
    refine y_call rfl (ec exn) (((decide_eq_true (hc)) ▸ c_commutative hv0.n6)) ?_
    refine w_not rfl ?_
    refine w_move (by constructor) ?_
    refine w_g_on rfl rfl rfl ?_
    refine y_call rfl (ec exn) (((decide_eq_false (hr)) ▸ c_frobenius hv0)) ?_
    refine w_g_on rfl rfl rfl ?_
    refine w_not rfl ?_
    refine w_pick_0 rfl rfl (by constructor) ?_
    refine w_move (by constructor) ?_
    refine w_g_off rfl rfl (by decide) ?_
    refine w_g_off rfl rfl (by decide) ?_
    refine w_g_off rfl rfl (by decide) ?_
    refine w_pick_1 rfl rfl (by constructor) ?_
    exact hRR _ (EL.cons (.inr (by first | rfl | (simp only [els]; done) | simp)) (EL.cons (.inl rfl) (EL.cons (.inl rfl) (EL.cons (.inl rfl) (EL.cons (.inr (by first | rfl | (simp only [els]; done) | simp)) (EL.cons (.inr (by first | rfl | (simp only [els]; done) | simp)) (EL.cons (.inl rfl) (EL.cons (.inl rfl) (EL.cons (.inr rfl) (EL.cons (.inr rfl) (EL.cons (.inr rfl) (EL.refl _))))))))))))
  refine snd_cond_true rfl ?_
  apply sr tokTB (by kernel_rfl)
  · intro RR hRR
    refine w_assign (by constructor) ?_
    exact hRR
  refine snd_ret ?_
  exact rt (T := TB) (fun V => rfl)
theorem c_stars_ns {p : Int} {n : Nat} {T : Nat → Nat → Nat → Int} {fo : Nat → Int} (hv0 : VN p n T fo) {F : Nat → Nat → Int} (hF : ∀ i, B8 (F i)) (hl : ∀ i, i < n → smP p (n : Int) (F i)) (hc : comN n T) (hr : rankT p n T fo = n) (hs : ¬ starP p n T fo F) : ACalls Try.prog TB 90 [algA p (n : Int) T fo, vlA n F, .nilsl] (.int .i64 5) [] := by
  refine acalls_of tokTB Try.func90 rfl rfl (Nat.le_of_ble_eq_true rfl) ?_
  apply sr tokTB (by kernel_rfl)
  · intro RR hRR
    refine w_boxc (HV.eq (by constructor)) (by exact trivial) ?_
    refine w_assign (by constructor) ?_
    exact hRR
  refine snd_seq ?_
  apply sr tokTB (by kernel_rfl)
  · intro RR hRR
    refine w_ldc rfl kn34 (by constructor) (by exact sz34.symm) (by exact ag34.symm) ?_
    refine w_move (by constructor) ?_
    refine w_move (by constructor) ?_
    refine y_call rfl (exc exp_alg (exc ex_vl (exc (by exact rfl) exn))) (((if_pos (⟨rfl, hl⟩ : liP p (n : Int) n F) : (if liP p (n : Int) n F then (0 : Int) else 2) = 0) ▸ c_listed0_ok hv0 (by have := hv0.n6; omega) hF)) ?_
    refine w_assign (by constructor) ?_
    exact hRR
  apply sr tokTB (by kernel_rfl)
  · intro RR hRR
    refine w_move (by constructor) ?_
    refine w_neq rfl rfl ?_
    exact hRR
  refine snd_cond_false rfl ?_
  refine snd_skip ?_
  refine snd_seq ?_
  apply srG (env' := (25, .bool (!false)) :: (24, .any) :: (23, .any) :: (22, .any) :: (21, .bool (!true)) :: (20, .bool (!true)) :: (19, .any) :: (18, .any) :: (17, _) :: (16, _) :: (15, _) :: _) tokTB (by kernel_rfl)
  · intro RR hRR
    refine y_call rfl (ec exn) (((decide_eq_true (hc)) ▸ c_commutative hv0.n6)) ?_
    refine w_not rfl ?_
    refine w_move (by constructor) ?_
    refine w_g_on rfl rfl rfl ?_
    refine y_call rfl (ec exn) (((decide_eq_true (hr)) ▸ c_frobenius hv0)) ?_
    refine w_g_on rfl rfl rfl ?_
    refine w_not rfl ?_
    refine w_pick_0 rfl rfl (by constructor) ?_
    refine w_move (by constructor) ?_
    refine w_g_on rfl rfl rfl ?_
    refine w_move (by constructor) ?_
    refine w_g_on rfl rfl rfl ?_
    refine y_call rfl (ec (ec exn)) (((decide_eq_false (hs)) ▸ c_isStar hv0 hF)) ?_
    refine w_g_on rfl rfl rfl ?_
    refine w_not rfl ?_
    refine w_pick_0 rfl rfl (by constructor) ?_
    exact hRR _ (EL.cons (.inr (by first | rfl | (simp only [els]; done) | simp)) (EL.cons (.inl rfl) (EL.cons (.inl rfl) (EL.cons (.inl rfl) (EL.cons (.inr (by first | rfl | (simp only [els]; done) | simp)) (EL.cons (.inr (by first | rfl | (simp only [els]; done) | simp)) (EL.cons (.inl rfl) (EL.cons (.inl rfl) (EL.cons (.inr rfl) (EL.cons (.inr rfl) (EL.cons (.inr rfl) (EL.refl _))))))))))))
  refine snd_cond_true rfl ?_
  apply sr tokTB (by kernel_rfl)
  · intro RR hRR
    refine w_assign (by constructor) ?_
    exact hRR
  refine snd_ret ?_
  exact rt (T := TB) (fun V => rfl)
theorem c_stars_nl {p : Int} {n : Nat} {T : Nat → Nat → Nat → Int} {fo : Nat → Int} (hv0 : VN p n T fo) {M : Nat} {F : Nat → Nat → Int} (hM : M ≤ 16777216) (hF : ∀ i, B8 (F i)) (hl : ¬ liP p (n : Int) M F) : ACalls Try.prog TB 90 [algA p (n : Int) T fo, vlA M F, .nilsl] (.int .i64 2) [] := by
  refine acalls_of tokTB Try.func90 rfl rfl (Nat.le_of_ble_eq_true rfl) ?_
  apply sr tokTB (by kernel_rfl)
  · intro RR hRR
    refine w_boxc (HV.eq (by constructor)) (by exact trivial) ?_
    refine w_assign (by constructor) ?_
    exact hRR
  refine snd_seq ?_
  apply sr tokTB (by kernel_rfl)
  · intro RR hRR
    refine w_ldc rfl kn34 (by constructor) (by exact sz34.symm) (by exact ag34.symm) ?_
    refine w_move (by constructor) ?_
    refine w_move (by constructor) ?_
    refine y_call rfl (exc exp_alg (exc ex_vl (exc (by exact rfl) exn))) (((if_neg hl : (if liP p (n : Int) M F then (0 : Int) else 2) = 2) ▸ c_listed0_ok hv0 hM hF)) ?_
    refine w_assign (by constructor) ?_
    exact hRR
  apply sr tokTB (by kernel_rfl)
  · intro RR hRR
    refine w_move (by constructor) ?_
    refine w_neq rfl rfl ?_
    exact hRR
  refine snd_cond_true rfl ?_
  apply sr tokTB (by kernel_rfl)
  · intro RR hRR
    refine w_move (by constructor) ?_
    refine w_assign (by constructor) ?_
    exact hRR
  refine snd_ret ?_
  exact rt (T := TB) (fun V => rfl)
theorem c_stars_no {p n : Int} {T : Nat → Nat → Nat → Int} {fo : Nat → Int} (hT : RB T) (hf : RV fo) (hz : ¬ VZ p n T fo 0 (fun _ _ => 0)) {M : Nat} {F : Nat → Nat → Int} (hM : M ≤ 16777216) (hF : ∀ i, B8 (F i)) : ACalls Try.prog TB 90 [algA p n T fo, vlA M F, .nilsl] (.int .i64 1) [] := by
  refine acalls_of tokTB Try.func90 rfl rfl (Nat.le_of_ble_eq_true rfl) ?_
  apply sr tokTB (by kernel_rfl)
  · intro RR hRR
    refine w_boxc (HV.eq (by constructor)) (by exact trivial) ?_
    refine w_assign (by constructor) ?_
    exact hRR
  refine snd_seq ?_
  apply sr tokTB (by kernel_rfl)
  · intro RR hRR
    refine w_ldc rfl kn34 (by constructor) (by exact sz34.symm) (by exact ag34.symm) ?_
    refine w_move (by constructor) ?_
    refine w_move (by constructor) ?_
    refine y_call rfl (exc exp_alg (exc ex_vl (exc (by exact rfl) exn))) (c_listed0_no hT hf hz) ?_
    refine w_assign (by constructor) ?_
    exact hRR
  apply sr tokTB (by kernel_rfl)
  · intro RR hRR
    refine w_move (by constructor) ?_
    refine w_neq rfl rfl ?_
    exact hRR
  refine snd_cond_true rfl ?_
  apply sr tokTB (by kernel_rfl)
  · intro RR hRR
    refine w_move (by constructor) ?_
    refine w_assign (by constructor) ?_
    exact hRR
  refine snd_ret ?_
  exact rt (T := TB) (fun V => rfl)
theorem c_sKleinOf_ok {p : Int} {n : Nat} {T : Nat → Nat → Nat → Int} {fo : Nat → Int} (hv0 : VN p n T fo) {F : Nat → Nat → Int} (hF : ∀ i, B8 (F i)) (hl : ∀ i, i < n → smP p (n : Int) (F i)) (hc : comN n T) (hr : rankT p n T fo = n) (hs : starP p n T fo F) : ACalls Try.prog TB 44 [algA p (n : Int) T fo, vlA n F] (.tup 2 (pairA (vecA (pr1 p n (fun i j => timesF p n T (F i) (eF j)) (cpM p n (formT p T fo)) n)) (.int .i64 0))) [] := by
  refine acalls_of tokTB Try.func44 rfl rfl (Nat.le_of_ble_eq_true rfl) ?_
  apply sr tokTB (by kernel_rfl)
  · intro RR hRR
    refine w_boxc (HV.eq (by constructor)) (by exact trivial) ?_
    refine w_alloc kn32 rfl zr32 ?_
    refine w_assign (by constructor) ?_
    exact hRR
  refine snd_seq ?_
  apply sr tokTB (by kernel_rfl)
  · intro RR hRR
    refine w_ldc rfl kn34 (by constructor) (by exact sz34.symm) (by exact ag34.symm) ?_
    refine w_move (by constructor) ?_
    refine y_call rfl (exc exp_alg (exc ex_vl (exc (by exact rfl) exn))) (c_l08Code_ok hv0 hF hl hc hr hs) ?_
    refine w_assign (by constructor) ?_
    exact hRR
  apply sr tokTB (by kernel_rfl)
  · intro RR hRR
    refine w_move (by constructor) ?_
    refine w_neq rfl rfl ?_
    exact hRR
  refine snd_cond_false rfl ?_
  refine snd_skip ?_
  apply sr tokTB (by kernel_rfl)
  · intro RR hRR
    refine w_ldc rfl kn34 (by constructor) (by exact sz34.symm) (by exact ag34.symm) ?_
    refine w_move (by constructor) ?_
    refine y_call rfl (ec (ec exn)) (c_l08Klein hv0 hr hF) ?_
    refine w_stw rfl (by constructor) kn32 rfl (by exact trivial) (by first | exact trivial | exact ssh_vec | exact ssh_alg | exact ssh_pr | exact ssh_tab | exact ssh_mat | exact ⟨rfl, fun _ => trivial⟩ | exact ⟨rfl, fun _ => by rw [zr32]; exact ssh_vec⟩) (by exact sz32.symm) ?_
    refine w_assign (by constructor) ?_
    exact hRR
  refine snd_ret ?_
  show retQ TB _ _ _ _ _ _
  exact rt_ct (T := TB) rfl kn32 rfl sz32.symm ag32.symm (fun V => mt_vec (fun z _ => rfl)) (fun V => rfl)
theorem c_sKleinOf_nc {p : Int} {n : Nat} {T : Nat → Nat → Nat → Int} {fo : Nat → Int} (hv0 : VN p n T fo) {F : Nat → Nat → Int} (hF : ∀ i, B8 (F i)) (hl : ∀ i, i < n → smP p (n : Int) (F i)) (hc : ¬ comN n T) : ACalls Try.prog TB 44 [algA p (n : Int) T fo, vlA n F] (.tup 2 (pairA (vecA (fun _ => 0)) (.int .i64 5))) [] := by
  refine acalls_of tokTB Try.func44 rfl rfl (Nat.le_of_ble_eq_true rfl) ?_
  apply sr tokTB (by kernel_rfl)
  · intro RR hRR
    refine w_boxc (HV.eq (by constructor)) (by exact trivial) ?_
    refine w_alloc kn32 rfl zr32 ?_
    refine w_assign (by constructor) ?_
    exact hRR
  refine snd_seq ?_
  apply sr tokTB (by kernel_rfl)
  · intro RR hRR
    refine w_ldc rfl kn34 (by constructor) (by exact sz34.symm) (by exact ag34.symm) ?_
    refine w_move (by constructor) ?_
    refine y_call rfl (exc exp_alg (exc ex_vl (exc (by exact rfl) exn))) (c_l08Code_nc hv0 hF hl hc) ?_
    refine w_assign (by constructor) ?_
    exact hRR
  apply sr tokTB (by kernel_rfl)
  · intro RR hRR
    refine w_move (by constructor) ?_
    refine w_neq rfl rfl ?_
    exact hRR
  refine snd_cond_true rfl ?_
  apply sr tokTB (by kernel_rfl)
  · intro RR hRR
    refine w_bld_a kn32 zr32 und32 kn5 (fun _ => (by exact sz5.symm)) trivial rfl (by exact sz5.symm) ?_
    refine w_move (by constructor) ?_
    refine w_stw rfl (by constructor) kn32 rfl (by exact trivial) (by first | exact trivial | exact ssh_vec | exact ssh_alg | exact ssh_pr | exact ssh_tab | exact ssh_mat | exact ⟨rfl, fun _ => trivial⟩ | exact ⟨rfl, fun _ => by rw [zr32]; exact ssh_vec⟩) (by exact sz32.symm) ?_
    refine w_assign (by constructor) ?_
    exact hRR
  refine snd_ret ?_
  show retQ TB _ _ _ _ _ _
  exact rt_ct (T := TB) rfl kn32 rfl sz32.symm ag32.symm (fun V => mt_vec (fun z _ => rfl)) (fun V => rfl)
theorem c_sKleinOf_nr {p : Int} {n : Nat} {T : Nat → Nat → Nat → Int} {fo : Nat → Int} (hv0 : VN p n T fo) {F : Nat → Nat → Int} (hF : ∀ i, B8 (F i)) (hl : ∀ i, i < n → smP p (n : Int) (F i)) (hc : comN n T) (hr : ¬ rankT p n T fo = n) : ACalls Try.prog TB 44 [algA p (n : Int) T fo, vlA n F] (.tup 2 (pairA (vecA (fun _ => 0)) (.int .i64 5))) [] := by
  refine acalls_of tokTB Try.func44 rfl rfl (Nat.le_of_ble_eq_true rfl) ?_
  apply sr tokTB (by kernel_rfl)
  · intro RR hRR
    refine w_boxc (HV.eq (by constructor)) (by exact trivial) ?_
    refine w_alloc kn32 rfl zr32 ?_
    refine w_assign (by constructor) ?_
    exact hRR
  refine snd_seq ?_
  apply sr tokTB (by kernel_rfl)
  · intro RR hRR
    refine w_ldc rfl kn34 (by constructor) (by exact sz34.symm) (by exact ag34.symm) ?_
    refine w_move (by constructor) ?_
    refine y_call rfl (exc exp_alg (exc ex_vl (exc (by exact rfl) exn))) (c_l08Code_nr hv0 hF hl hc hr) ?_
    refine w_assign (by constructor) ?_
    exact hRR
  apply sr tokTB (by kernel_rfl)
  · intro RR hRR
    refine w_move (by constructor) ?_
    refine w_neq rfl rfl ?_
    exact hRR
  refine snd_cond_true rfl ?_
  apply sr tokTB (by kernel_rfl)
  · intro RR hRR
    refine w_bld_a kn32 zr32 und32 kn5 (fun _ => (by exact sz5.symm)) trivial rfl (by exact sz5.symm) ?_
    refine w_move (by constructor) ?_
    refine w_stw rfl (by constructor) kn32 rfl (by exact trivial) (by first | exact trivial | exact ssh_vec | exact ssh_alg | exact ssh_pr | exact ssh_tab | exact ssh_mat | exact ⟨rfl, fun _ => trivial⟩ | exact ⟨rfl, fun _ => by rw [zr32]; exact ssh_vec⟩) (by exact sz32.symm) ?_
    refine w_assign (by constructor) ?_
    exact hRR
  refine snd_ret ?_
  show retQ TB _ _ _ _ _ _
  exact rt_ct (T := TB) rfl kn32 rfl sz32.symm ag32.symm (fun V => mt_vec (fun z _ => rfl)) (fun V => rfl)
theorem c_sKleinOf_ns {p : Int} {n : Nat} {T : Nat → Nat → Nat → Int} {fo : Nat → Int} (hv0 : VN p n T fo) {F : Nat → Nat → Int} (hF : ∀ i, B8 (F i)) (hl : ∀ i, i < n → smP p (n : Int) (F i)) (hc : comN n T) (hr : rankT p n T fo = n) (hs : ¬ starP p n T fo F) : ACalls Try.prog TB 44 [algA p (n : Int) T fo, vlA n F] (.tup 2 (pairA (vecA (fun _ => 0)) (.int .i64 5))) [] := by
  refine acalls_of tokTB Try.func44 rfl rfl (Nat.le_of_ble_eq_true rfl) ?_
  apply sr tokTB (by kernel_rfl)
  · intro RR hRR
    refine w_boxc (HV.eq (by constructor)) (by exact trivial) ?_
    refine w_alloc kn32 rfl zr32 ?_
    refine w_assign (by constructor) ?_
    exact hRR
  refine snd_seq ?_
  apply sr tokTB (by kernel_rfl)
  · intro RR hRR
    refine w_ldc rfl kn34 (by constructor) (by exact sz34.symm) (by exact ag34.symm) ?_
    refine w_move (by constructor) ?_
    refine y_call rfl (exc exp_alg (exc ex_vl (exc (by exact rfl) exn))) (c_l08Code_ns hv0 hF hl hc hr hs) ?_
    refine w_assign (by constructor) ?_
    exact hRR
  apply sr tokTB (by kernel_rfl)
  · intro RR hRR
    refine w_move (by constructor) ?_
    refine w_neq rfl rfl ?_
    exact hRR
  refine snd_cond_true rfl ?_
  apply sr tokTB (by kernel_rfl)
  · intro RR hRR
    refine w_bld_a kn32 zr32 und32 kn5 (fun _ => (by exact sz5.symm)) trivial rfl (by exact sz5.symm) ?_
    refine w_move (by constructor) ?_
    refine w_stw rfl (by constructor) kn32 rfl (by exact trivial) (by first | exact trivial | exact ssh_vec | exact ssh_alg | exact ssh_pr | exact ssh_tab | exact ssh_mat | exact ⟨rfl, fun _ => trivial⟩ | exact ⟨rfl, fun _ => by rw [zr32]; exact ssh_vec⟩) (by exact sz32.symm) ?_
    refine w_assign (by constructor) ?_
    exact hRR
  refine snd_ret ?_
  show retQ TB _ _ _ _ _ _
  exact rt_ct (T := TB) rfl kn32 rfl sz32.symm ag32.symm (fun V => mt_vec (fun z _ => rfl)) (fun V => rfl)
theorem c_sKleinOf_nl {p : Int} {n : Nat} {T : Nat → Nat → Nat → Int} {fo : Nat → Int} (hv0 : VN p n T fo) {M : Nat} {F : Nat → Nat → Int} (hM : M ≤ 16777216) (hF : ∀ i, B8 (F i)) (hl : ¬ liP p (n : Int) M F) : ACalls Try.prog TB 44 [algA p (n : Int) T fo, vlA M F] (.tup 2 (pairA (vecA (fun _ => 0)) (.int .i64 2))) [] := by
  refine acalls_of tokTB Try.func44 rfl rfl (Nat.le_of_ble_eq_true rfl) ?_
  apply sr tokTB (by kernel_rfl)
  · intro RR hRR
    refine w_boxc (HV.eq (by constructor)) (by exact trivial) ?_
    refine w_alloc kn32 rfl zr32 ?_
    refine w_assign (by constructor) ?_
    exact hRR
  refine snd_seq ?_
  apply sr tokTB (by kernel_rfl)
  · intro RR hRR
    refine w_ldc rfl kn34 (by constructor) (by exact sz34.symm) (by exact ag34.symm) ?_
    refine w_move (by constructor) ?_
    refine y_call rfl (exc exp_alg (exc ex_vl (exc (by exact rfl) exn))) (c_l08Code_nl hv0 hM hF hl) ?_
    refine w_assign (by constructor) ?_
    exact hRR
  apply sr tokTB (by kernel_rfl)
  · intro RR hRR
    refine w_move (by constructor) ?_
    refine w_neq rfl rfl ?_
    exact hRR
  refine snd_cond_true rfl ?_
  apply sr tokTB (by kernel_rfl)
  · intro RR hRR
    refine w_bld_a kn32 zr32 und32 kn5 (fun _ => (by exact sz5.symm)) trivial rfl (by exact sz5.symm) ?_
    refine w_move (by constructor) ?_
    refine w_stw rfl (by constructor) kn32 rfl (by exact trivial) (by first | exact trivial | exact ssh_vec | exact ssh_alg | exact ssh_pr | exact ssh_tab | exact ssh_mat | exact ⟨rfl, fun _ => trivial⟩ | exact ⟨rfl, fun _ => by rw [zr32]; exact ssh_vec⟩) (by exact sz32.symm) ?_
    refine w_assign (by constructor) ?_
    exact hRR
  refine snd_ret ?_
  show retQ TB _ _ _ _ _ _
  exact rt_ct (T := TB) rfl kn32 rfl sz32.symm ag32.symm (fun V => mt_vec (fun z _ => rfl)) (fun V => rfl)
theorem c_sKleinOf_no {p n : Int} {T : Nat → Nat → Nat → Int} {fo : Nat → Int} (hT : RB T) (hf : RV fo) (hz : ¬ VZ p n T fo 0 (fun _ _ => 0)) {M : Nat} {F : Nat → Nat → Int} (hM : M ≤ 16777216) (hF : ∀ i, B8 (F i)) : ACalls Try.prog TB 44 [algA p n T fo, vlA M F] (.tup 2 (pairA (vecA (fun _ => 0)) (.int .i64 1))) [] := by
  refine acalls_of tokTB Try.func44 rfl rfl (Nat.le_of_ble_eq_true rfl) ?_
  apply sr tokTB (by kernel_rfl)
  · intro RR hRR
    refine w_boxc (HV.eq (by constructor)) (by exact trivial) ?_
    refine w_alloc kn32 rfl zr32 ?_
    refine w_assign (by constructor) ?_
    exact hRR
  refine snd_seq ?_
  apply sr tokTB (by kernel_rfl)
  · intro RR hRR
    refine w_ldc rfl kn34 (by constructor) (by exact sz34.symm) (by exact ag34.symm) ?_
    refine w_move (by constructor) ?_
    refine y_call rfl (exc exp_alg (exc ex_vl (exc (by exact rfl) exn))) (c_l08Code_no hT hf hz hM hF) ?_
    refine w_assign (by constructor) ?_
    exact hRR
  apply sr tokTB (by kernel_rfl)
  · intro RR hRR
    refine w_move (by constructor) ?_
    refine w_neq rfl rfl ?_
    exact hRR
  refine snd_cond_true rfl ?_
  apply sr tokTB (by kernel_rfl)
  · intro RR hRR
    refine w_bld_a kn32 zr32 und32 kn5 (fun _ => (by exact sz5.symm)) trivial rfl (by exact sz5.symm) ?_
    refine w_move (by constructor) ?_
    refine w_stw rfl (by constructor) kn32 rfl (by exact trivial) (by first | exact trivial | exact ssh_vec | exact ssh_alg | exact ssh_pr | exact ssh_tab | exact ssh_mat | exact ⟨rfl, fun _ => trivial⟩ | exact ⟨rfl, fun _ => by rw [zr32]; exact ssh_vec⟩) (by exact sz32.symm) ?_
    refine w_assign (by constructor) ?_
    exact hRR
  refine snd_ret ?_
  show retQ TB _ _ _ _ _ _
  exact rt_ct (T := TB) rfl kn32 rfl sz32.symm ag32.symm (fun V => mt_vec (fun z _ => rfl)) (fun V => rfl)
theorem c_iKleinOf_ok {p : Int} {n : Nat} {T : Nat → Nat → Nat → Int} {fo : Nat → Int} (hv0 : VN p n T fo) {F : Nat → Nat → Int} (hF : ∀ i, B8 (F i)) (hl : ∀ i, i < n → smP p (n : Int) (F i)) (hc : comN n T) (hr : rankT p n T fo = n) (hs : starP p n T fo F) : ACalls Try.prog TB 45 [algA p (n : Int) T fo, vlA n F] (.tup 2 (pairA (vecA (pr1 p n (fun i j => timesF p n T (F i) (eF j)) (cpM p n (formT p T fo)) n)) (.int .i64 0))) [] := by
  refine acalls_of tokTB Try.func45 rfl rfl (Nat.le_of_ble_eq_true rfl) ?_
  apply sr tokTB (by kernel_rfl)
  · intro RR hRR
    refine w_boxc (HV.eq (by constructor)) (by exact trivial) ?_
    refine w_alloc kn32 rfl zr32 ?_
    refine w_assign (by constructor) ?_
    exact hRR
  refine snd_seq ?_
  apply sr tokTB (by kernel_rfl)
  · intro RR hRR
    refine w_ldc rfl kn34 (by constructor) (by exact sz34.symm) (by exact ag34.symm) ?_
    refine w_move (by constructor) ?_
    refine y_call rfl (exc exp_alg (exc ex_vl (exc (by exact rfl) exn))) (c_stars_ok hv0 hF hl hc hr hs) ?_
    refine w_assign (by constructor) ?_
    exact hRR
  apply sr tokTB (by kernel_rfl)
  · intro RR hRR
    refine w_move (by constructor) ?_
    refine w_neq rfl rfl ?_
    exact hRR
  refine snd_cond_false rfl ?_
  refine snd_skip ?_
  apply sr tokTB (by kernel_rfl)
  · intro RR hRR
    refine w_move (by constructor) ?_
    refine y_call rfl (ec (ec exn)) (c_klein hv0 hr hF) ?_
    refine w_stw rfl (by constructor) kn32 rfl (by exact trivial) (by first | exact trivial | exact ssh_vec | exact ssh_alg | exact ssh_pr | exact ssh_tab | exact ssh_mat | exact ⟨rfl, fun _ => trivial⟩ | exact ⟨rfl, fun _ => by rw [zr32]; exact ssh_vec⟩) (by exact sz32.symm) ?_
    refine w_assign (by constructor) ?_
    exact hRR
  refine snd_ret ?_
  show retQ TB _ _ _ _ _ _
  exact rt_ct (T := TB) rfl kn32 rfl sz32.symm ag32.symm (fun V => mt_vec (fun z _ => rfl)) (fun V => rfl)
theorem c_iKleinOf_nc {p : Int} {n : Nat} {T : Nat → Nat → Nat → Int} {fo : Nat → Int} (hv0 : VN p n T fo) {F : Nat → Nat → Int} (hF : ∀ i, B8 (F i)) (hl : ∀ i, i < n → smP p (n : Int) (F i)) (hc : ¬ comN n T) : ACalls Try.prog TB 45 [algA p (n : Int) T fo, vlA n F] (.tup 2 (pairA (vecA (fun _ => 0)) (.int .i64 5))) [] := by
  refine acalls_of tokTB Try.func45 rfl rfl (Nat.le_of_ble_eq_true rfl) ?_
  apply sr tokTB (by kernel_rfl)
  · intro RR hRR
    refine w_boxc (HV.eq (by constructor)) (by exact trivial) ?_
    refine w_alloc kn32 rfl zr32 ?_
    refine w_assign (by constructor) ?_
    exact hRR
  refine snd_seq ?_
  apply sr tokTB (by kernel_rfl)
  · intro RR hRR
    refine w_ldc rfl kn34 (by constructor) (by exact sz34.symm) (by exact ag34.symm) ?_
    refine w_move (by constructor) ?_
    refine y_call rfl (exc exp_alg (exc ex_vl (exc (by exact rfl) exn))) (c_stars_nc hv0 hF hl hc) ?_
    refine w_assign (by constructor) ?_
    exact hRR
  apply sr tokTB (by kernel_rfl)
  · intro RR hRR
    refine w_move (by constructor) ?_
    refine w_neq rfl rfl ?_
    exact hRR
  refine snd_cond_true rfl ?_
  apply sr tokTB (by kernel_rfl)
  · intro RR hRR
    refine w_bld_a kn32 zr32 und32 kn5 (fun _ => (by exact sz5.symm)) trivial rfl (by exact sz5.symm) ?_
    refine w_move (by constructor) ?_
    refine w_stw rfl (by constructor) kn32 rfl (by exact trivial) (by first | exact trivial | exact ssh_vec | exact ssh_alg | exact ssh_pr | exact ssh_tab | exact ssh_mat | exact ⟨rfl, fun _ => trivial⟩ | exact ⟨rfl, fun _ => by rw [zr32]; exact ssh_vec⟩) (by exact sz32.symm) ?_
    refine w_assign (by constructor) ?_
    exact hRR
  refine snd_ret ?_
  show retQ TB _ _ _ _ _ _
  exact rt_ct (T := TB) rfl kn32 rfl sz32.symm ag32.symm (fun V => mt_vec (fun z _ => rfl)) (fun V => rfl)
theorem c_iKleinOf_nr {p : Int} {n : Nat} {T : Nat → Nat → Nat → Int} {fo : Nat → Int} (hv0 : VN p n T fo) {F : Nat → Nat → Int} (hF : ∀ i, B8 (F i)) (hl : ∀ i, i < n → smP p (n : Int) (F i)) (hc : comN n T) (hr : ¬ rankT p n T fo = n) : ACalls Try.prog TB 45 [algA p (n : Int) T fo, vlA n F] (.tup 2 (pairA (vecA (fun _ => 0)) (.int .i64 5))) [] := by
  refine acalls_of tokTB Try.func45 rfl rfl (Nat.le_of_ble_eq_true rfl) ?_
  apply sr tokTB (by kernel_rfl)
  · intro RR hRR
    refine w_boxc (HV.eq (by constructor)) (by exact trivial) ?_
    refine w_alloc kn32 rfl zr32 ?_
    refine w_assign (by constructor) ?_
    exact hRR
  refine snd_seq ?_
  apply sr tokTB (by kernel_rfl)
  · intro RR hRR
    refine w_ldc rfl kn34 (by constructor) (by exact sz34.symm) (by exact ag34.symm) ?_
    refine w_move (by constructor) ?_
    refine y_call rfl (exc exp_alg (exc ex_vl (exc (by exact rfl) exn))) (c_stars_nr hv0 hF hl hc hr) ?_
    refine w_assign (by constructor) ?_
    exact hRR
  apply sr tokTB (by kernel_rfl)
  · intro RR hRR
    refine w_move (by constructor) ?_
    refine w_neq rfl rfl ?_
    exact hRR
  refine snd_cond_true rfl ?_
  apply sr tokTB (by kernel_rfl)
  · intro RR hRR
    refine w_bld_a kn32 zr32 und32 kn5 (fun _ => (by exact sz5.symm)) trivial rfl (by exact sz5.symm) ?_
    refine w_move (by constructor) ?_
    refine w_stw rfl (by constructor) kn32 rfl (by exact trivial) (by first | exact trivial | exact ssh_vec | exact ssh_alg | exact ssh_pr | exact ssh_tab | exact ssh_mat | exact ⟨rfl, fun _ => trivial⟩ | exact ⟨rfl, fun _ => by rw [zr32]; exact ssh_vec⟩) (by exact sz32.symm) ?_
    refine w_assign (by constructor) ?_
    exact hRR
  refine snd_ret ?_
  show retQ TB _ _ _ _ _ _
  exact rt_ct (T := TB) rfl kn32 rfl sz32.symm ag32.symm (fun V => mt_vec (fun z _ => rfl)) (fun V => rfl)
theorem c_iKleinOf_ns {p : Int} {n : Nat} {T : Nat → Nat → Nat → Int} {fo : Nat → Int} (hv0 : VN p n T fo) {F : Nat → Nat → Int} (hF : ∀ i, B8 (F i)) (hl : ∀ i, i < n → smP p (n : Int) (F i)) (hc : comN n T) (hr : rankT p n T fo = n) (hs : ¬ starP p n T fo F) : ACalls Try.prog TB 45 [algA p (n : Int) T fo, vlA n F] (.tup 2 (pairA (vecA (fun _ => 0)) (.int .i64 5))) [] := by
  refine acalls_of tokTB Try.func45 rfl rfl (Nat.le_of_ble_eq_true rfl) ?_
  apply sr tokTB (by kernel_rfl)
  · intro RR hRR
    refine w_boxc (HV.eq (by constructor)) (by exact trivial) ?_
    refine w_alloc kn32 rfl zr32 ?_
    refine w_assign (by constructor) ?_
    exact hRR
  refine snd_seq ?_
  apply sr tokTB (by kernel_rfl)
  · intro RR hRR
    refine w_ldc rfl kn34 (by constructor) (by exact sz34.symm) (by exact ag34.symm) ?_
    refine w_move (by constructor) ?_
    refine y_call rfl (exc exp_alg (exc ex_vl (exc (by exact rfl) exn))) (c_stars_ns hv0 hF hl hc hr hs) ?_
    refine w_assign (by constructor) ?_
    exact hRR
  apply sr tokTB (by kernel_rfl)
  · intro RR hRR
    refine w_move (by constructor) ?_
    refine w_neq rfl rfl ?_
    exact hRR
  refine snd_cond_true rfl ?_
  apply sr tokTB (by kernel_rfl)
  · intro RR hRR
    refine w_bld_a kn32 zr32 und32 kn5 (fun _ => (by exact sz5.symm)) trivial rfl (by exact sz5.symm) ?_
    refine w_move (by constructor) ?_
    refine w_stw rfl (by constructor) kn32 rfl (by exact trivial) (by first | exact trivial | exact ssh_vec | exact ssh_alg | exact ssh_pr | exact ssh_tab | exact ssh_mat | exact ⟨rfl, fun _ => trivial⟩ | exact ⟨rfl, fun _ => by rw [zr32]; exact ssh_vec⟩) (by exact sz32.symm) ?_
    refine w_assign (by constructor) ?_
    exact hRR
  refine snd_ret ?_
  show retQ TB _ _ _ _ _ _
  exact rt_ct (T := TB) rfl kn32 rfl sz32.symm ag32.symm (fun V => mt_vec (fun z _ => rfl)) (fun V => rfl)
theorem c_iKleinOf_nl {p : Int} {n : Nat} {T : Nat → Nat → Nat → Int} {fo : Nat → Int} (hv0 : VN p n T fo) {M : Nat} {F : Nat → Nat → Int} (hM : M ≤ 16777216) (hF : ∀ i, B8 (F i)) (hl : ¬ liP p (n : Int) M F) : ACalls Try.prog TB 45 [algA p (n : Int) T fo, vlA M F] (.tup 2 (pairA (vecA (fun _ => 0)) (.int .i64 2))) [] := by
  refine acalls_of tokTB Try.func45 rfl rfl (Nat.le_of_ble_eq_true rfl) ?_
  apply sr tokTB (by kernel_rfl)
  · intro RR hRR
    refine w_boxc (HV.eq (by constructor)) (by exact trivial) ?_
    refine w_alloc kn32 rfl zr32 ?_
    refine w_assign (by constructor) ?_
    exact hRR
  refine snd_seq ?_
  apply sr tokTB (by kernel_rfl)
  · intro RR hRR
    refine w_ldc rfl kn34 (by constructor) (by exact sz34.symm) (by exact ag34.symm) ?_
    refine w_move (by constructor) ?_
    refine y_call rfl (exc exp_alg (exc ex_vl (exc (by exact rfl) exn))) (c_stars_nl hv0 hM hF hl) ?_
    refine w_assign (by constructor) ?_
    exact hRR
  apply sr tokTB (by kernel_rfl)
  · intro RR hRR
    refine w_move (by constructor) ?_
    refine w_neq rfl rfl ?_
    exact hRR
  refine snd_cond_true rfl ?_
  apply sr tokTB (by kernel_rfl)
  · intro RR hRR
    refine w_bld_a kn32 zr32 und32 kn5 (fun _ => (by exact sz5.symm)) trivial rfl (by exact sz5.symm) ?_
    refine w_move (by constructor) ?_
    refine w_stw rfl (by constructor) kn32 rfl (by exact trivial) (by first | exact trivial | exact ssh_vec | exact ssh_alg | exact ssh_pr | exact ssh_tab | exact ssh_mat | exact ⟨rfl, fun _ => trivial⟩ | exact ⟨rfl, fun _ => by rw [zr32]; exact ssh_vec⟩) (by exact sz32.symm) ?_
    refine w_assign (by constructor) ?_
    exact hRR
  refine snd_ret ?_
  show retQ TB _ _ _ _ _ _
  exact rt_ct (T := TB) rfl kn32 rfl sz32.symm ag32.symm (fun V => mt_vec (fun z _ => rfl)) (fun V => rfl)
theorem c_iKleinOf_no {p n : Int} {T : Nat → Nat → Nat → Int} {fo : Nat → Int} (hT : RB T) (hf : RV fo) (hz : ¬ VZ p n T fo 0 (fun _ _ => 0)) {M : Nat} {F : Nat → Nat → Int} (hM : M ≤ 16777216) (hF : ∀ i, B8 (F i)) : ACalls Try.prog TB 45 [algA p n T fo, vlA M F] (.tup 2 (pairA (vecA (fun _ => 0)) (.int .i64 1))) [] := by
  refine acalls_of tokTB Try.func45 rfl rfl (Nat.le_of_ble_eq_true rfl) ?_
  apply sr tokTB (by kernel_rfl)
  · intro RR hRR
    refine w_boxc (HV.eq (by constructor)) (by exact trivial) ?_
    refine w_alloc kn32 rfl zr32 ?_
    refine w_assign (by constructor) ?_
    exact hRR
  refine snd_seq ?_
  apply sr tokTB (by kernel_rfl)
  · intro RR hRR
    refine w_ldc rfl kn34 (by constructor) (by exact sz34.symm) (by exact ag34.symm) ?_
    refine w_move (by constructor) ?_
    refine y_call rfl (exc exp_alg (exc ex_vl (exc (by exact rfl) exn))) (c_stars_no hT hf hz hM hF) ?_
    refine w_assign (by constructor) ?_
    exact hRR
  apply sr tokTB (by kernel_rfl)
  · intro RR hRR
    refine w_move (by constructor) ?_
    refine w_neq rfl rfl ?_
    exact hRR
  refine snd_cond_true rfl ?_
  apply sr tokTB (by kernel_rfl)
  · intro RR hRR
    refine w_bld_a kn32 zr32 und32 kn5 (fun _ => (by exact sz5.symm)) trivial rfl (by exact sz5.symm) ?_
    refine w_move (by constructor) ?_
    refine w_stw rfl (by constructor) kn32 rfl (by exact trivial) (by first | exact trivial | exact ssh_vec | exact ssh_alg | exact ssh_pr | exact ssh_tab | exact ssh_mat | exact ⟨rfl, fun _ => trivial⟩ | exact ⟨rfl, fun _ => by rw [zr32]; exact ssh_vec⟩) (by exact sz32.symm) ?_
    refine w_assign (by constructor) ?_
    exact hRR
  refine snd_ret ?_
  show retQ TB _ _ _ _ _ _
  exact rt_ct (T := TB) rfl kn32 rfl sz32.symm ag32.symm (fun V => mt_vec (fun z _ => rfl)) (fun V => rfl)
theorem lKleinOf_ok {p : Int} {n : Nat} {T : Nat → Nat → Nat → Int} {fo : Nat → Int} (hv0 : VN p n T fo) {F : Nat → Nat → Int} (hF : ∀ i, B8 (F i)) (hl : ∀ i, i < n → smP p (n : Int) (F i)) (hc : comN n T) (hr : rankT p n T fo = n) (hs : starP p n T fo F) : ACalls Try.prog TB 13 [algA p (n : Int) T fo, vlA n F] (.bool true) [] := by
  have hn6 := hv0.n6
  refine acalls_of tokTB Try.func13 rfl rfl (Nat.le_of_ble_eq_true rfl) ?_
  apply sr tokTB (by kernel_rfl)
  · intro RR hRR
    refine w_boxc (HV.eq (by constructor)) (by exact trivial) ?_
    refine w_assign (by constructor) ?_
    exact hRR
  apply sr tokTB (by kernel_rfl)
  · intro RR hRR
    refine w_assign (by constructor) ?_
    exact hRR
  apply sr tokTB (by kernel_rfl)
  · intro RR hRR
    refine w_move (by constructor) ?_
    refine w_move (by constructor) ?_
    refine y_call rfl (exc ex_vl (exc (by exact rfl) exn)) (c_szVectorS (F := F) (M := n) (by omega)) ?_
    refine w_assign (by constructor) ?_
    exact hRR
  refine snd_seq ?_
  apply sr tokTB (by kernel_rfl)
  · intro RR hRR
    refine w_move (by constructor) ?_
    refine w_lss rfl rfl ?_
    exact hRR
  refine snd_cond_false (by exact congrArg AV.bool (decide_eq_false (by omega))) ?_
  refine snd_skip ?_
  apply sr tokTB (by kernel_rfl)
  · intro RR hRR
    refine w_ldc rfl kn26 (by constructor) (by exact sz26.symm) (by exact ag26.symm) ?_
    refine y_call rfl (ec exn) (c_toAlgebra) ?_
    refine w_move (by constructor) ?_
    refine w_call rfl (exc ex_vl exn) (c_toVectorS (F := F) (M := n) (by omega)) (.inl ⟨trivial, ⟨fun _ _ => trivial, trivial⟩⟩) rfl (by constructor) rfl ?_
    refine y_call rfl rfl ((c_sKleinOf_ok hv0 hF hl hc hr hs).mt ⟨mt_expc closed_alg (by simp), mt_vl0 rfl, trivial⟩) ?_
    refine w_move (by constructor) ?_
    refine w_ext rfl (by decide) (by constructor) ?_
    refine w_ext rfl (by decide) (by constructor) ?_
    refine w_alloc kn32 rfl zr32 ?_
    refine w_stw rfl (by constructor) kn32 rfl (by exact trivial) (by first | exact trivial | exact ssh_vec | exact ssh_alg | exact ssh_pr | exact ssh_tab | exact ssh_mat | exact ⟨rfl, fun _ => trivial⟩ | exact ⟨rfl, fun _ => by rw [zr32]; exact ssh_vec⟩) (by exact sz32.symm) ?_
    refine w_assign (by constructor) ?_
    exact hRR
  apply sr tokTB (by kernel_rfl)
  · intro RR hRR
    refine w_move (by constructor) ?_
    refine w_call rfl (exc ex_vl exn) (c_toVectorS (F := F) (M := n) (by omega)) (.inl ⟨trivial, ⟨fun _ _ => trivial, trivial⟩⟩) rfl (by constructor) rfl ?_
    refine w_assign (by constructor) ?_
    exact hRR
  apply sr tokTB (by kernel_rfl)
  · intro RR hRR
    refine w_ldc rfl kn26 (by constructor) (by exact sz26.symm) (by exact ag26.symm) ?_
    refine y_call rfl (ec exn) (c_toAlgebra) ?_
    refine w_move (by constructor) ?_
    refine y_call rfl rfl ((c_iKleinOf_ok hv0 hF hl hc hr hs).mt ⟨mt_expc closed_alg (by simp), mt_vl0 rfl, trivial⟩) ?_
    refine w_move (by constructor) ?_
    refine w_ext rfl (by decide) (by constructor) ?_
    refine w_ext rfl (by decide) (by constructor) ?_
    refine w_alloc kn32 rfl zr32 ?_
    refine w_stw rfl (by constructor) kn32 rfl (by exact trivial) (by first | exact trivial | exact ssh_vec | exact ssh_alg | exact ssh_pr | exact ssh_tab | exact ssh_mat | exact ⟨rfl, fun _ => trivial⟩ | exact ⟨rfl, fun _ => by rw [zr32]; exact ssh_vec⟩) (by exact sz32.symm) ?_
    refine w_assign (by constructor) ?_
    exact hRR
  refine snd_seq ?_
  apply srG (env' := (41, .bool ((!(decide (eqN 6 (pr1 p n (fun i j => timesF p n T (F i) (eF j)) (cpM p n (formT p T fo)) n) (pr1 p n (fun i j => timesF p n T (F i) (eF j)) (cpM p n (formT p T fo)) n)))) || decide ((0 : Int) ≠ 0))) :: (40, .any) :: (39, .any) :: (38, .any) :: (37, _) :: (36, _) :: (35, _) :: (34, _) :: (33, _) :: _) tokTB (by kernel_rfl)
  · intro RR hRR
    refine w_ldp rfl kn32 rfl (by constructor) (by exact sz32.symm) (by exact ag32.symm) ?_
    refine w_ldp rfl kn32 rfl (by constructor) (by exact sz32.symm) (by exact ag32.symm) ?_
    refine y_call rfl (ec (ec exn)) (c_eqVector) ?_
    refine w_not rfl ?_
    refine w_move (by constructor) ?_
    refine w_g rfl rfl (fun hg4 => ?_) (fun hg4 => ?_)
    · skip
      refine w_move (by constructor) ?_
      refine w_g_on rfl rfl hg4 ?_
      refine w_move (by constructor) ?_
      refine w_g_on rfl rfl hg4 ?_
      refine w_neq rfl rfl ?_
      refine w_pick_0 rfl hg4 (by constructor) ?_
      try simp only [Int.toNat_natCast] at hg4
      exact hRR _ (EL.cons (.inr (by first | rfl | (simp only [hg4, els]; done) | (simp only [hg4, els]; rfl) | simp [hg4])) (EL.cons (.inl rfl) (EL.cons (.inl rfl) (EL.cons (.inl rfl) (EL.cons (.inr rfl) (EL.cons (.inr rfl) (EL.cons (.inr rfl) (EL.cons (.inr rfl) (EL.cons (.inr rfl) (EL.refl _))))))))))
    · have hg4 := eq_true_of_ne_false hg4
      refine w_g_off rfl rfl (by rw [hg4]; decide) ?_
      refine w_g_off rfl rfl (by rw [hg4]; decide) ?_
      refine w_pick_1 rfl hg4 (by constructor) ?_
      try simp only [Int.toNat_natCast] at hg4
      exact hRR _ (EL.cons (.inr (by first | rfl | (simp only [hg4, els]; done) | (simp only [hg4, els]; rfl) | simp [hg4])) (EL.cons (.inl rfl) (EL.cons (.inl rfl) (EL.cons (.inl rfl) (EL.cons (.inr rfl) (EL.cons (.inr rfl) (EL.cons (.inr rfl) (EL.cons (.inr rfl) (EL.cons (.inr rfl) (EL.refl _))))))))))
  refine snd_cond _ rfl (fun hc41 => ?_) (fun hc41 => ?_)
  · skip
    exact absurd hc41 (by simp [eqN])
  · skip
    refine snd_skip ?_
    refine snd_seq ?_
    apply sr tokTB (by kernel_rfl)
    · intro RR hRR
      refine w_move (by constructor) ?_
      refine w_move (by constructor) ?_
      refine w_call rfl (exc ex_vl exn) (c_toVectorS (F := F) (M := n) (by omega)) (.inl ⟨trivial, ⟨fun _ _ => trivial, trivial⟩⟩) rfl (by constructor) rfl ?_
      refine y_call rfl rfl ((c_eqVectorS (N := n) (R := F) (S := F) (by omega) (fun i _ j _ => rfl)).mt ⟨mt_vl0 rfl, mt_vl0 rfl, trivial⟩) ?_
      refine w_not rfl ?_
      exact hRR
    refine snd_cond_false (by exact rfl) ?_
    refine snd_skip ?_
    apply sr tokTB (by kernel_rfl)
    · intro RR hRR
      refine w_assign (by constructor) ?_
      exact hRR
    refine snd_ret ?_
    exact rt (T := TB) (fun V => rfl)
theorem lKleinOf_nc {p : Int} {n : Nat} {T : Nat → Nat → Nat → Int} {fo : Nat → Int} (hv0 : VN p n T fo) {F : Nat → Nat → Int} (hF : ∀ i, B8 (F i)) (hl : ∀ i, i < n → smP p (n : Int) (F i)) (hc : ¬ comN n T) : ACalls Try.prog TB 13 [algA p (n : Int) T fo, vlA n F] (.bool true) [] := by
  have hn6 := hv0.n6
  refine acalls_of tokTB Try.func13 rfl rfl (Nat.le_of_ble_eq_true rfl) ?_
  apply sr tokTB (by kernel_rfl)
  · intro RR hRR
    refine w_boxc (HV.eq (by constructor)) (by exact trivial) ?_
    refine w_assign (by constructor) ?_
    exact hRR
  apply sr tokTB (by kernel_rfl)
  · intro RR hRR
    refine w_assign (by constructor) ?_
    exact hRR
  apply sr tokTB (by kernel_rfl)
  · intro RR hRR
    refine w_move (by constructor) ?_
    refine w_move (by constructor) ?_
    refine y_call rfl (exc ex_vl (exc (by exact rfl) exn)) (c_szVectorS (F := F) (M := n) (by omega)) ?_
    refine w_assign (by constructor) ?_
    exact hRR
  refine snd_seq ?_
  apply sr tokTB (by kernel_rfl)
  · intro RR hRR
    refine w_move (by constructor) ?_
    refine w_lss rfl rfl ?_
    exact hRR
  refine snd_cond_false (by exact congrArg AV.bool (decide_eq_false (by omega))) ?_
  refine snd_skip ?_
  apply sr tokTB (by kernel_rfl)
  · intro RR hRR
    refine w_ldc rfl kn26 (by constructor) (by exact sz26.symm) (by exact ag26.symm) ?_
    refine y_call rfl (ec exn) (c_toAlgebra) ?_
    refine w_move (by constructor) ?_
    refine w_call rfl (exc ex_vl exn) (c_toVectorS (F := F) (M := n) (by omega)) (.inl ⟨trivial, ⟨fun _ _ => trivial, trivial⟩⟩) rfl (by constructor) rfl ?_
    refine y_call rfl rfl ((c_sKleinOf_nc hv0 hF hl hc).mt ⟨mt_expc closed_alg (by simp), mt_vl0 rfl, trivial⟩) ?_
    refine w_move (by constructor) ?_
    refine w_ext rfl (by decide) (by constructor) ?_
    refine w_ext rfl (by decide) (by constructor) ?_
    refine w_alloc kn32 rfl zr32 ?_
    refine w_stw rfl (by constructor) kn32 rfl (by exact trivial) (by first | exact trivial | exact ssh_vec | exact ssh_alg | exact ssh_pr | exact ssh_tab | exact ssh_mat | exact ⟨rfl, fun _ => trivial⟩ | exact ⟨rfl, fun _ => by rw [zr32]; exact ssh_vec⟩) (by exact sz32.symm) ?_
    refine w_assign (by constructor) ?_
    exact hRR
  apply sr tokTB (by kernel_rfl)
  · intro RR hRR
    refine w_move (by constructor) ?_
    refine w_call rfl (exc ex_vl exn) (c_toVectorS (F := F) (M := n) (by omega)) (.inl ⟨trivial, ⟨fun _ _ => trivial, trivial⟩⟩) rfl (by constructor) rfl ?_
    refine w_assign (by constructor) ?_
    exact hRR
  apply sr tokTB (by kernel_rfl)
  · intro RR hRR
    refine w_ldc rfl kn26 (by constructor) (by exact sz26.symm) (by exact ag26.symm) ?_
    refine y_call rfl (ec exn) (c_toAlgebra) ?_
    refine w_move (by constructor) ?_
    refine y_call rfl rfl ((c_iKleinOf_nc hv0 hF hl hc).mt ⟨mt_expc closed_alg (by simp), mt_vl0 rfl, trivial⟩) ?_
    refine w_move (by constructor) ?_
    refine w_ext rfl (by decide) (by constructor) ?_
    refine w_ext rfl (by decide) (by constructor) ?_
    refine w_alloc kn32 rfl zr32 ?_
    refine w_stw rfl (by constructor) kn32 rfl (by exact trivial) (by first | exact trivial | exact ssh_vec | exact ssh_alg | exact ssh_pr | exact ssh_tab | exact ssh_mat | exact ⟨rfl, fun _ => trivial⟩ | exact ⟨rfl, fun _ => by rw [zr32]; exact ssh_vec⟩) (by exact sz32.symm) ?_
    refine w_assign (by constructor) ?_
    exact hRR
  refine snd_seq ?_
  apply srG (env' := (41, .bool ((!(decide (eqN 6 (fun _ => 0) (fun _ => 0)))) || decide ((5 : Int) ≠ 5))) :: (40, .any) :: (39, .any) :: (38, .any) :: (37, _) :: (36, _) :: (35, _) :: (34, _) :: (33, _) :: _) tokTB (by kernel_rfl)
  · intro RR hRR
    refine w_ldp rfl kn32 rfl (by constructor) (by exact sz32.symm) (by exact ag32.symm) ?_
    refine w_ldp rfl kn32 rfl (by constructor) (by exact sz32.symm) (by exact ag32.symm) ?_
    refine y_call rfl (ec (ec exn)) (c_eqVector) ?_
    refine w_not rfl ?_
    refine w_move (by constructor) ?_
    refine w_g rfl rfl (fun hg4 => ?_) (fun hg4 => ?_)
    · skip
      refine w_move (by constructor) ?_
      refine w_g_on rfl rfl hg4 ?_
      refine w_move (by constructor) ?_
      refine w_g_on rfl rfl hg4 ?_
      refine w_neq rfl rfl ?_
      refine w_pick_0 rfl hg4 (by constructor) ?_
      try simp only [Int.toNat_natCast] at hg4
      exact hRR _ (EL.cons (.inr (by first | rfl | (simp only [hg4, els]; done) | (simp only [hg4, els]; rfl) | simp [hg4])) (EL.cons (.inl rfl) (EL.cons (.inl rfl) (EL.cons (.inl rfl) (EL.cons (.inr rfl) (EL.cons (.inr rfl) (EL.cons (.inr rfl) (EL.cons (.inr rfl) (EL.cons (.inr rfl) (EL.refl _))))))))))
    · have hg4 := eq_true_of_ne_false hg4
      refine w_g_off rfl rfl (by rw [hg4]; decide) ?_
      refine w_g_off rfl rfl (by rw [hg4]; decide) ?_
      refine w_pick_1 rfl hg4 (by constructor) ?_
      try simp only [Int.toNat_natCast] at hg4
      exact hRR _ (EL.cons (.inr (by first | rfl | (simp only [hg4, els]; done) | (simp only [hg4, els]; rfl) | simp [hg4])) (EL.cons (.inl rfl) (EL.cons (.inl rfl) (EL.cons (.inl rfl) (EL.cons (.inr rfl) (EL.cons (.inr rfl) (EL.cons (.inr rfl) (EL.cons (.inr rfl) (EL.cons (.inr rfl) (EL.refl _))))))))))
  refine snd_cond _ rfl (fun hc41 => ?_) (fun hc41 => ?_)
  · skip
    exact absurd hc41 (by simp [eqN])
  · skip
    refine snd_skip ?_
    refine snd_seq ?_
    apply sr tokTB (by kernel_rfl)
    · intro RR hRR
      refine w_move (by constructor) ?_
      refine w_move (by constructor) ?_
      refine w_call rfl (exc ex_vl exn) (c_toVectorS (F := F) (M := n) (by omega)) (.inl ⟨trivial, ⟨fun _ _ => trivial, trivial⟩⟩) rfl (by constructor) rfl ?_
      refine y_call rfl rfl ((c_eqVectorS (N := n) (R := F) (S := F) (by omega) (fun i _ j _ => rfl)).mt ⟨mt_vl0 rfl, mt_vl0 rfl, trivial⟩) ?_
      refine w_not rfl ?_
      exact hRR
    refine snd_cond_false (by exact rfl) ?_
    refine snd_skip ?_
    apply sr tokTB (by kernel_rfl)
    · intro RR hRR
      refine w_assign (by constructor) ?_
      exact hRR
    refine snd_ret ?_
    exact rt (T := TB) (fun V => rfl)
theorem lKleinOf_nr {p : Int} {n : Nat} {T : Nat → Nat → Nat → Int} {fo : Nat → Int} (hv0 : VN p n T fo) {F : Nat → Nat → Int} (hF : ∀ i, B8 (F i)) (hl : ∀ i, i < n → smP p (n : Int) (F i)) (hc : comN n T) (hr : ¬ rankT p n T fo = n) : ACalls Try.prog TB 13 [algA p (n : Int) T fo, vlA n F] (.bool true) [] := by
  have hn6 := hv0.n6
  refine acalls_of tokTB Try.func13 rfl rfl (Nat.le_of_ble_eq_true rfl) ?_
  apply sr tokTB (by kernel_rfl)
  · intro RR hRR
    refine w_boxc (HV.eq (by constructor)) (by exact trivial) ?_
    refine w_assign (by constructor) ?_
    exact hRR
  apply sr tokTB (by kernel_rfl)
  · intro RR hRR
    refine w_assign (by constructor) ?_
    exact hRR
  apply sr tokTB (by kernel_rfl)
  · intro RR hRR
    refine w_move (by constructor) ?_
    refine w_move (by constructor) ?_
    refine y_call rfl (exc ex_vl (exc (by exact rfl) exn)) (c_szVectorS (F := F) (M := n) (by omega)) ?_
    refine w_assign (by constructor) ?_
    exact hRR
  refine snd_seq ?_
  apply sr tokTB (by kernel_rfl)
  · intro RR hRR
    refine w_move (by constructor) ?_
    refine w_lss rfl rfl ?_
    exact hRR
  refine snd_cond_false (by exact congrArg AV.bool (decide_eq_false (by omega))) ?_
  refine snd_skip ?_
  apply sr tokTB (by kernel_rfl)
  · intro RR hRR
    refine w_ldc rfl kn26 (by constructor) (by exact sz26.symm) (by exact ag26.symm) ?_
    refine y_call rfl (ec exn) (c_toAlgebra) ?_
    refine w_move (by constructor) ?_
    refine w_call rfl (exc ex_vl exn) (c_toVectorS (F := F) (M := n) (by omega)) (.inl ⟨trivial, ⟨fun _ _ => trivial, trivial⟩⟩) rfl (by constructor) rfl ?_
    refine y_call rfl rfl ((c_sKleinOf_nr hv0 hF hl hc hr).mt ⟨mt_expc closed_alg (by simp), mt_vl0 rfl, trivial⟩) ?_
    refine w_move (by constructor) ?_
    refine w_ext rfl (by decide) (by constructor) ?_
    refine w_ext rfl (by decide) (by constructor) ?_
    refine w_alloc kn32 rfl zr32 ?_
    refine w_stw rfl (by constructor) kn32 rfl (by exact trivial) (by first | exact trivial | exact ssh_vec | exact ssh_alg | exact ssh_pr | exact ssh_tab | exact ssh_mat | exact ⟨rfl, fun _ => trivial⟩ | exact ⟨rfl, fun _ => by rw [zr32]; exact ssh_vec⟩) (by exact sz32.symm) ?_
    refine w_assign (by constructor) ?_
    exact hRR
  apply sr tokTB (by kernel_rfl)
  · intro RR hRR
    refine w_move (by constructor) ?_
    refine w_call rfl (exc ex_vl exn) (c_toVectorS (F := F) (M := n) (by omega)) (.inl ⟨trivial, ⟨fun _ _ => trivial, trivial⟩⟩) rfl (by constructor) rfl ?_
    refine w_assign (by constructor) ?_
    exact hRR
  apply sr tokTB (by kernel_rfl)
  · intro RR hRR
    refine w_ldc rfl kn26 (by constructor) (by exact sz26.symm) (by exact ag26.symm) ?_
    refine y_call rfl (ec exn) (c_toAlgebra) ?_
    refine w_move (by constructor) ?_
    refine y_call rfl rfl ((c_iKleinOf_nr hv0 hF hl hc hr).mt ⟨mt_expc closed_alg (by simp), mt_vl0 rfl, trivial⟩) ?_
    refine w_move (by constructor) ?_
    refine w_ext rfl (by decide) (by constructor) ?_
    refine w_ext rfl (by decide) (by constructor) ?_
    refine w_alloc kn32 rfl zr32 ?_
    refine w_stw rfl (by constructor) kn32 rfl (by exact trivial) (by first | exact trivial | exact ssh_vec | exact ssh_alg | exact ssh_pr | exact ssh_tab | exact ssh_mat | exact ⟨rfl, fun _ => trivial⟩ | exact ⟨rfl, fun _ => by rw [zr32]; exact ssh_vec⟩) (by exact sz32.symm) ?_
    refine w_assign (by constructor) ?_
    exact hRR
  refine snd_seq ?_
  apply srG (env' := (41, .bool ((!(decide (eqN 6 (fun _ => 0) (fun _ => 0)))) || decide ((5 : Int) ≠ 5))) :: (40, .any) :: (39, .any) :: (38, .any) :: (37, _) :: (36, _) :: (35, _) :: (34, _) :: (33, _) :: _) tokTB (by kernel_rfl)
  · intro RR hRR
    refine w_ldp rfl kn32 rfl (by constructor) (by exact sz32.symm) (by exact ag32.symm) ?_
    refine w_ldp rfl kn32 rfl (by constructor) (by exact sz32.symm) (by exact ag32.symm) ?_
    refine y_call rfl (ec (ec exn)) (c_eqVector) ?_
    refine w_not rfl ?_
    refine w_move (by constructor) ?_
    refine w_g rfl rfl (fun hg4 => ?_) (fun hg4 => ?_)
    · skip
      refine w_move (by constructor) ?_
      refine w_g_on rfl rfl hg4 ?_
      refine w_move (by constructor) ?_
      refine w_g_on rfl rfl hg4 ?_
      refine w_neq rfl rfl ?_
      refine w_pick_0 rfl hg4 (by constructor) ?_
      try simp only [Int.toNat_natCast] at hg4
      exact hRR _ (EL.cons (.inr (by first | rfl | (simp only [hg4, els]; done) | (simp only [hg4, els]; rfl) | simp [hg4])) (EL.cons (.inl rfl) (EL.cons (.inl rfl) (EL.cons (.inl rfl) (EL.cons (.inr rfl) (EL.cons (.inr rfl) (EL.cons (.inr rfl) (EL.cons (.inr rfl) (EL.cons (.inr rfl) (EL.refl _))))))))))
    · have hg4 := eq_true_of_ne_false hg4
      refine w_g_off rfl rfl (by rw [hg4]; decide) ?_
      refine w_g_off rfl rfl (by rw [hg4]; decide) ?_
      refine w_pick_1 rfl hg4 (by constructor) ?_
      try simp only [Int.toNat_natCast] at hg4
      exact hRR _ (EL.cons (.inr (by first | rfl | (simp only [hg4, els]; done) | (simp only [hg4, els]; rfl) | simp [hg4])) (EL.cons (.inl rfl) (EL.cons (.inl rfl) (EL.cons (.inl rfl) (EL.cons (.inr rfl) (EL.cons (.inr rfl) (EL.cons (.inr rfl) (EL.cons (.inr rfl) (EL.cons (.inr rfl) (EL.refl _))))))))))
  refine snd_cond _ rfl (fun hc41 => ?_) (fun hc41 => ?_)
  · skip
    exact absurd hc41 (by simp [eqN])
  · skip
    refine snd_skip ?_
    refine snd_seq ?_
    apply sr tokTB (by kernel_rfl)
    · intro RR hRR
      refine w_move (by constructor) ?_
      refine w_move (by constructor) ?_
      refine w_call rfl (exc ex_vl exn) (c_toVectorS (F := F) (M := n) (by omega)) (.inl ⟨trivial, ⟨fun _ _ => trivial, trivial⟩⟩) rfl (by constructor) rfl ?_
      refine y_call rfl rfl ((c_eqVectorS (N := n) (R := F) (S := F) (by omega) (fun i _ j _ => rfl)).mt ⟨mt_vl0 rfl, mt_vl0 rfl, trivial⟩) ?_
      refine w_not rfl ?_
      exact hRR
    refine snd_cond_false (by exact rfl) ?_
    refine snd_skip ?_
    apply sr tokTB (by kernel_rfl)
    · intro RR hRR
      refine w_assign (by constructor) ?_
      exact hRR
    refine snd_ret ?_
    exact rt (T := TB) (fun V => rfl)
theorem lKleinOf_ns {p : Int} {n : Nat} {T : Nat → Nat → Nat → Int} {fo : Nat → Int} (hv0 : VN p n T fo) {F : Nat → Nat → Int} (hF : ∀ i, B8 (F i)) (hl : ∀ i, i < n → smP p (n : Int) (F i)) (hc : comN n T) (hr : rankT p n T fo = n) (hs : ¬ starP p n T fo F) : ACalls Try.prog TB 13 [algA p (n : Int) T fo, vlA n F] (.bool true) [] := by
  have hn6 := hv0.n6
  refine acalls_of tokTB Try.func13 rfl rfl (Nat.le_of_ble_eq_true rfl) ?_
  apply sr tokTB (by kernel_rfl)
  · intro RR hRR
    refine w_boxc (HV.eq (by constructor)) (by exact trivial) ?_
    refine w_assign (by constructor) ?_
    exact hRR
  apply sr tokTB (by kernel_rfl)
  · intro RR hRR
    refine w_assign (by constructor) ?_
    exact hRR
  apply sr tokTB (by kernel_rfl)
  · intro RR hRR
    refine w_move (by constructor) ?_
    refine w_move (by constructor) ?_
    refine y_call rfl (exc ex_vl (exc (by exact rfl) exn)) (c_szVectorS (F := F) (M := n) (by omega)) ?_
    refine w_assign (by constructor) ?_
    exact hRR
  refine snd_seq ?_
  apply sr tokTB (by kernel_rfl)
  · intro RR hRR
    refine w_move (by constructor) ?_
    refine w_lss rfl rfl ?_
    exact hRR
  refine snd_cond_false (by exact congrArg AV.bool (decide_eq_false (by omega))) ?_
  refine snd_skip ?_
  apply sr tokTB (by kernel_rfl)
  · intro RR hRR
    refine w_ldc rfl kn26 (by constructor) (by exact sz26.symm) (by exact ag26.symm) ?_
    refine y_call rfl (ec exn) (c_toAlgebra) ?_
    refine w_move (by constructor) ?_
    refine w_call rfl (exc ex_vl exn) (c_toVectorS (F := F) (M := n) (by omega)) (.inl ⟨trivial, ⟨fun _ _ => trivial, trivial⟩⟩) rfl (by constructor) rfl ?_
    refine y_call rfl rfl ((c_sKleinOf_ns hv0 hF hl hc hr hs).mt ⟨mt_expc closed_alg (by simp), mt_vl0 rfl, trivial⟩) ?_
    refine w_move (by constructor) ?_
    refine w_ext rfl (by decide) (by constructor) ?_
    refine w_ext rfl (by decide) (by constructor) ?_
    refine w_alloc kn32 rfl zr32 ?_
    refine w_stw rfl (by constructor) kn32 rfl (by exact trivial) (by first | exact trivial | exact ssh_vec | exact ssh_alg | exact ssh_pr | exact ssh_tab | exact ssh_mat | exact ⟨rfl, fun _ => trivial⟩ | exact ⟨rfl, fun _ => by rw [zr32]; exact ssh_vec⟩) (by exact sz32.symm) ?_
    refine w_assign (by constructor) ?_
    exact hRR
  apply sr tokTB (by kernel_rfl)
  · intro RR hRR
    refine w_move (by constructor) ?_
    refine w_call rfl (exc ex_vl exn) (c_toVectorS (F := F) (M := n) (by omega)) (.inl ⟨trivial, ⟨fun _ _ => trivial, trivial⟩⟩) rfl (by constructor) rfl ?_
    refine w_assign (by constructor) ?_
    exact hRR
  apply sr tokTB (by kernel_rfl)
  · intro RR hRR
    refine w_ldc rfl kn26 (by constructor) (by exact sz26.symm) (by exact ag26.symm) ?_
    refine y_call rfl (ec exn) (c_toAlgebra) ?_
    refine w_move (by constructor) ?_
    refine y_call rfl rfl ((c_iKleinOf_ns hv0 hF hl hc hr hs).mt ⟨mt_expc closed_alg (by simp), mt_vl0 rfl, trivial⟩) ?_
    refine w_move (by constructor) ?_
    refine w_ext rfl (by decide) (by constructor) ?_
    refine w_ext rfl (by decide) (by constructor) ?_
    refine w_alloc kn32 rfl zr32 ?_
    refine w_stw rfl (by constructor) kn32 rfl (by exact trivial) (by first | exact trivial | exact ssh_vec | exact ssh_alg | exact ssh_pr | exact ssh_tab | exact ssh_mat | exact ⟨rfl, fun _ => trivial⟩ | exact ⟨rfl, fun _ => by rw [zr32]; exact ssh_vec⟩) (by exact sz32.symm) ?_
    refine w_assign (by constructor) ?_
    exact hRR
  refine snd_seq ?_
  apply srG (env' := (41, .bool ((!(decide (eqN 6 (fun _ => 0) (fun _ => 0)))) || decide ((5 : Int) ≠ 5))) :: (40, .any) :: (39, .any) :: (38, .any) :: (37, _) :: (36, _) :: (35, _) :: (34, _) :: (33, _) :: _) tokTB (by kernel_rfl)
  · intro RR hRR
    refine w_ldp rfl kn32 rfl (by constructor) (by exact sz32.symm) (by exact ag32.symm) ?_
    refine w_ldp rfl kn32 rfl (by constructor) (by exact sz32.symm) (by exact ag32.symm) ?_
    refine y_call rfl (ec (ec exn)) (c_eqVector) ?_
    refine w_not rfl ?_
    refine w_move (by constructor) ?_
    refine w_g rfl rfl (fun hg4 => ?_) (fun hg4 => ?_)
    · skip
      refine w_move (by constructor) ?_
      refine w_g_on rfl rfl hg4 ?_
      refine w_move (by constructor) ?_
      refine w_g_on rfl rfl hg4 ?_
      refine w_neq rfl rfl ?_
      refine w_pick_0 rfl hg4 (by constructor) ?_
      try simp only [Int.toNat_natCast] at hg4
      exact hRR _ (EL.cons (.inr (by first | rfl | (simp only [hg4, els]; done) | (simp only [hg4, els]; rfl) | simp [hg4])) (EL.cons (.inl rfl) (EL.cons (.inl rfl) (EL.cons (.inl rfl) (EL.cons (.inr rfl) (EL.cons (.inr rfl) (EL.cons (.inr rfl) (EL.cons (.inr rfl) (EL.cons (.inr rfl) (EL.refl _))))))))))
    · have hg4 := eq_true_of_ne_false hg4
      refine w_g_off rfl rfl (by rw [hg4]; decide) ?_
      refine w_g_off rfl rfl (by rw [hg4]; decide) ?_
      refine w_pick_1 rfl hg4 (by constructor) ?_
      try simp only [Int.toNat_natCast] at hg4
      exact hRR _ (EL.cons (.inr (by first | rfl | (simp only [hg4, els]; done) | (simp only [hg4, els]; rfl) | simp [hg4])) (EL.cons (.inl rfl) (EL.cons (.inl rfl) (EL.cons (.inl rfl) (EL.cons (.inr rfl) (EL.cons (.inr rfl) (EL.cons (.inr rfl) (EL.cons (.inr rfl) (EL.cons (.inr rfl) (EL.refl _))))))))))
  refine snd_cond _ rfl (fun hc41 => ?_) (fun hc41 => ?_)
  · skip
    exact absurd hc41 (by simp [eqN])
  · skip
    refine snd_skip ?_
    refine snd_seq ?_
    apply sr tokTB (by kernel_rfl)
    · intro RR hRR
      refine w_move (by constructor) ?_
      refine w_move (by constructor) ?_
      refine w_call rfl (exc ex_vl exn) (c_toVectorS (F := F) (M := n) (by omega)) (.inl ⟨trivial, ⟨fun _ _ => trivial, trivial⟩⟩) rfl (by constructor) rfl ?_
      refine y_call rfl rfl ((c_eqVectorS (N := n) (R := F) (S := F) (by omega) (fun i _ j _ => rfl)).mt ⟨mt_vl0 rfl, mt_vl0 rfl, trivial⟩) ?_
      refine w_not rfl ?_
      exact hRR
    refine snd_cond_false (by exact rfl) ?_
    refine snd_skip ?_
    apply sr tokTB (by kernel_rfl)
    · intro RR hRR
      refine w_assign (by constructor) ?_
      exact hRR
    refine snd_ret ?_
    exact rt (T := TB) (fun V => rfl)
theorem lKleinOf_nl {p : Int} {n : Nat} {T : Nat → Nat → Nat → Int} {fo : Nat → Int} (hv0 : VN p n T fo) {M : Nat} {F : Nat → Nat → Int} (hM : M ≤ 1048576) (hF : ∀ i, B8 (F i)) (hl : ¬ liP p (n : Int) M F) : ACalls Try.prog TB 13 [algA p (n : Int) T fo, vlA M F] (.bool true) [] := by
  refine acalls_of tokTB Try.func13 rfl rfl (Nat.le_of_ble_eq_true rfl) ?_
  apply sr tokTB (by kernel_rfl)
  · intro RR hRR
    refine w_boxc (HV.eq (by constructor)) (by exact trivial) ?_
    refine w_assign (by constructor) ?_
    exact hRR
  apply sr tokTB (by kernel_rfl)
  · intro RR hRR
    refine w_assign (by constructor) ?_
    exact hRR
  apply sr tokTB (by kernel_rfl)
  · intro RR hRR
    refine w_move (by constructor) ?_
    refine w_move (by constructor) ?_
    refine y_call rfl (exc ex_vl (exc (by exact rfl) exn)) (c_szVectorS (F := F) (M := M) (by omega)) ?_
    refine w_assign (by constructor) ?_
    exact hRR
  refine snd_seq ?_
  apply sr tokTB (by kernel_rfl)
  · intro RR hRR
    refine w_move (by constructor) ?_
    refine w_lss rfl rfl ?_
    exact hRR
  refine snd_cond_false (by exact congrArg AV.bool (decide_eq_false (by omega))) ?_
  refine snd_skip ?_
  apply sr tokTB (by kernel_rfl)
  · intro RR hRR
    refine w_ldc rfl kn26 (by constructor) (by exact sz26.symm) (by exact ag26.symm) ?_
    refine y_call rfl (ec exn) (c_toAlgebra) ?_
    refine w_move (by constructor) ?_
    refine w_call rfl (exc ex_vl exn) (c_toVectorS (F := F) (M := M) (by omega)) (.inl ⟨trivial, ⟨fun _ _ => trivial, trivial⟩⟩) rfl (by constructor) rfl ?_
    refine y_call rfl rfl ((c_sKleinOf_nl hv0 (by omega) hF hl).mt ⟨mt_expc closed_alg (by simp), mt_vl0 rfl, trivial⟩) ?_
    refine w_move (by constructor) ?_
    refine w_ext rfl (by decide) (by constructor) ?_
    refine w_ext rfl (by decide) (by constructor) ?_
    refine w_alloc kn32 rfl zr32 ?_
    refine w_stw rfl (by constructor) kn32 rfl (by exact trivial) (by first | exact trivial | exact ssh_vec | exact ssh_alg | exact ssh_pr | exact ssh_tab | exact ssh_mat | exact ⟨rfl, fun _ => trivial⟩ | exact ⟨rfl, fun _ => by rw [zr32]; exact ssh_vec⟩) (by exact sz32.symm) ?_
    refine w_assign (by constructor) ?_
    exact hRR
  apply sr tokTB (by kernel_rfl)
  · intro RR hRR
    refine w_move (by constructor) ?_
    refine w_call rfl (exc ex_vl exn) (c_toVectorS (F := F) (M := M) (by omega)) (.inl ⟨trivial, ⟨fun _ _ => trivial, trivial⟩⟩) rfl (by constructor) rfl ?_
    refine w_assign (by constructor) ?_
    exact hRR
  apply sr tokTB (by kernel_rfl)
  · intro RR hRR
    refine w_ldc rfl kn26 (by constructor) (by exact sz26.symm) (by exact ag26.symm) ?_
    refine y_call rfl (ec exn) (c_toAlgebra) ?_
    refine w_move (by constructor) ?_
    refine y_call rfl rfl ((c_iKleinOf_nl hv0 (by omega) hF hl).mt ⟨mt_expc closed_alg (by simp), mt_vl0 rfl, trivial⟩) ?_
    refine w_move (by constructor) ?_
    refine w_ext rfl (by decide) (by constructor) ?_
    refine w_ext rfl (by decide) (by constructor) ?_
    refine w_alloc kn32 rfl zr32 ?_
    refine w_stw rfl (by constructor) kn32 rfl (by exact trivial) (by first | exact trivial | exact ssh_vec | exact ssh_alg | exact ssh_pr | exact ssh_tab | exact ssh_mat | exact ⟨rfl, fun _ => trivial⟩ | exact ⟨rfl, fun _ => by rw [zr32]; exact ssh_vec⟩) (by exact sz32.symm) ?_
    refine w_assign (by constructor) ?_
    exact hRR
  refine snd_seq ?_
  apply srG (env' := (41, .bool ((!(decide (eqN 6 (fun _ => 0) (fun _ => 0)))) || decide ((2 : Int) ≠ 2))) :: (40, .any) :: (39, .any) :: (38, .any) :: (37, _) :: (36, _) :: (35, _) :: (34, _) :: (33, _) :: _) tokTB (by kernel_rfl)
  · intro RR hRR
    refine w_ldp rfl kn32 rfl (by constructor) (by exact sz32.symm) (by exact ag32.symm) ?_
    refine w_ldp rfl kn32 rfl (by constructor) (by exact sz32.symm) (by exact ag32.symm) ?_
    refine y_call rfl (ec (ec exn)) (c_eqVector) ?_
    refine w_not rfl ?_
    refine w_move (by constructor) ?_
    refine w_g rfl rfl (fun hg4 => ?_) (fun hg4 => ?_)
    · skip
      refine w_move (by constructor) ?_
      refine w_g_on rfl rfl hg4 ?_
      refine w_move (by constructor) ?_
      refine w_g_on rfl rfl hg4 ?_
      refine w_neq rfl rfl ?_
      refine w_pick_0 rfl hg4 (by constructor) ?_
      try simp only [Int.toNat_natCast] at hg4
      exact hRR _ (EL.cons (.inr (by first | rfl | (simp only [hg4, els]; done) | (simp only [hg4, els]; rfl) | simp [hg4])) (EL.cons (.inl rfl) (EL.cons (.inl rfl) (EL.cons (.inl rfl) (EL.cons (.inr rfl) (EL.cons (.inr rfl) (EL.cons (.inr rfl) (EL.cons (.inr rfl) (EL.cons (.inr rfl) (EL.refl _))))))))))
    · have hg4 := eq_true_of_ne_false hg4
      refine w_g_off rfl rfl (by rw [hg4]; decide) ?_
      refine w_g_off rfl rfl (by rw [hg4]; decide) ?_
      refine w_pick_1 rfl hg4 (by constructor) ?_
      try simp only [Int.toNat_natCast] at hg4
      exact hRR _ (EL.cons (.inr (by first | rfl | (simp only [hg4, els]; done) | (simp only [hg4, els]; rfl) | simp [hg4])) (EL.cons (.inl rfl) (EL.cons (.inl rfl) (EL.cons (.inl rfl) (EL.cons (.inr rfl) (EL.cons (.inr rfl) (EL.cons (.inr rfl) (EL.cons (.inr rfl) (EL.cons (.inr rfl) (EL.refl _))))))))))
  refine snd_cond _ rfl (fun hc41 => ?_) (fun hc41 => ?_)
  · skip
    exact absurd hc41 (by simp [eqN])
  · skip
    refine snd_skip ?_
    refine snd_seq ?_
    apply sr tokTB (by kernel_rfl)
    · intro RR hRR
      refine w_move (by constructor) ?_
      refine w_move (by constructor) ?_
      refine w_call rfl (exc ex_vl exn) (c_toVectorS (F := F) (M := M) (by omega)) (.inl ⟨trivial, ⟨fun _ _ => trivial, trivial⟩⟩) rfl (by constructor) rfl ?_
      refine y_call rfl rfl ((c_eqVectorS (N := M) (R := F) (S := F) (by omega) (fun i _ j _ => rfl)).mt ⟨mt_vl0 rfl, mt_vl0 rfl, trivial⟩) ?_
      refine w_not rfl ?_
      exact hRR
    refine snd_cond_false (by exact rfl) ?_
    refine snd_skip ?_
    apply sr tokTB (by kernel_rfl)
    · intro RR hRR
      refine w_assign (by constructor) ?_
      exact hRR
    refine snd_ret ?_
    exact rt (T := TB) (fun V => rfl)
theorem lKleinOf_no {p n : Int} {T : Nat → Nat → Nat → Int} {fo : Nat → Int} (hT : RB T) (hf : RV fo) (hz : ¬ VZ p n T fo 0 (fun _ _ => 0)) {M : Nat} {F : Nat → Nat → Int} (hM : M ≤ 1048576) (hF : ∀ i, B8 (F i)) : ACalls Try.prog TB 13 [algA p n T fo, vlA M F] (.bool true) [] := by
  refine acalls_of tokTB Try.func13 rfl rfl (Nat.le_of_ble_eq_true rfl) ?_
  apply sr tokTB (by kernel_rfl)
  · intro RR hRR
    refine w_boxc (HV.eq (by constructor)) (by exact trivial) ?_
    refine w_assign (by constructor) ?_
    exact hRR
  apply sr tokTB (by kernel_rfl)
  · intro RR hRR
    refine w_assign (by constructor) ?_
    exact hRR
  apply sr tokTB (by kernel_rfl)
  · intro RR hRR
    refine w_move (by constructor) ?_
    refine w_move (by constructor) ?_
    refine y_call rfl (exc ex_vl (exc (by exact rfl) exn)) (c_szVectorS (F := F) (M := M) (by omega)) ?_
    refine w_assign (by constructor) ?_
    exact hRR
  refine snd_seq ?_
  apply sr tokTB (by kernel_rfl)
  · intro RR hRR
    refine w_move (by constructor) ?_
    refine w_lss rfl rfl ?_
    exact hRR
  refine snd_cond_false (by exact congrArg AV.bool (decide_eq_false (by omega))) ?_
  refine snd_skip ?_
  apply sr tokTB (by kernel_rfl)
  · intro RR hRR
    refine w_ldc rfl kn26 (by constructor) (by exact sz26.symm) (by exact ag26.symm) ?_
    refine y_call rfl (ec exn) (c_toAlgebra) ?_
    refine w_move (by constructor) ?_
    refine w_call rfl (exc ex_vl exn) (c_toVectorS (F := F) (M := M) (by omega)) (.inl ⟨trivial, ⟨fun _ _ => trivial, trivial⟩⟩) rfl (by constructor) rfl ?_
    refine y_call rfl rfl ((c_sKleinOf_no hT hf hz (by omega) hF).mt ⟨mt_expc closed_alg (by simp), mt_vl0 rfl, trivial⟩) ?_
    refine w_move (by constructor) ?_
    refine w_ext rfl (by decide) (by constructor) ?_
    refine w_ext rfl (by decide) (by constructor) ?_
    refine w_alloc kn32 rfl zr32 ?_
    refine w_stw rfl (by constructor) kn32 rfl (by exact trivial) (by first | exact trivial | exact ssh_vec | exact ssh_alg | exact ssh_pr | exact ssh_tab | exact ssh_mat | exact ⟨rfl, fun _ => trivial⟩ | exact ⟨rfl, fun _ => by rw [zr32]; exact ssh_vec⟩) (by exact sz32.symm) ?_
    refine w_assign (by constructor) ?_
    exact hRR
  apply sr tokTB (by kernel_rfl)
  · intro RR hRR
    refine w_move (by constructor) ?_
    refine w_call rfl (exc ex_vl exn) (c_toVectorS (F := F) (M := M) (by omega)) (.inl ⟨trivial, ⟨fun _ _ => trivial, trivial⟩⟩) rfl (by constructor) rfl ?_
    refine w_assign (by constructor) ?_
    exact hRR
  apply sr tokTB (by kernel_rfl)
  · intro RR hRR
    refine w_ldc rfl kn26 (by constructor) (by exact sz26.symm) (by exact ag26.symm) ?_
    refine y_call rfl (ec exn) (c_toAlgebra) ?_
    refine w_move (by constructor) ?_
    refine y_call rfl rfl ((c_iKleinOf_no hT hf hz (by omega) hF).mt ⟨mt_expc closed_alg (by simp), mt_vl0 rfl, trivial⟩) ?_
    refine w_move (by constructor) ?_
    refine w_ext rfl (by decide) (by constructor) ?_
    refine w_ext rfl (by decide) (by constructor) ?_
    refine w_alloc kn32 rfl zr32 ?_
    refine w_stw rfl (by constructor) kn32 rfl (by exact trivial) (by first | exact trivial | exact ssh_vec | exact ssh_alg | exact ssh_pr | exact ssh_tab | exact ssh_mat | exact ⟨rfl, fun _ => trivial⟩ | exact ⟨rfl, fun _ => by rw [zr32]; exact ssh_vec⟩) (by exact sz32.symm) ?_
    refine w_assign (by constructor) ?_
    exact hRR
  refine snd_seq ?_
  apply srG (env' := (41, .bool ((!(decide (eqN 6 (fun _ => 0) (fun _ => 0)))) || decide ((1 : Int) ≠ 1))) :: (40, .any) :: (39, .any) :: (38, .any) :: (37, _) :: (36, _) :: (35, _) :: (34, _) :: (33, _) :: _) tokTB (by kernel_rfl)
  · intro RR hRR
    refine w_ldp rfl kn32 rfl (by constructor) (by exact sz32.symm) (by exact ag32.symm) ?_
    refine w_ldp rfl kn32 rfl (by constructor) (by exact sz32.symm) (by exact ag32.symm) ?_
    refine y_call rfl (ec (ec exn)) (c_eqVector) ?_
    refine w_not rfl ?_
    refine w_move (by constructor) ?_
    refine w_g rfl rfl (fun hg4 => ?_) (fun hg4 => ?_)
    · skip
      refine w_move (by constructor) ?_
      refine w_g_on rfl rfl hg4 ?_
      refine w_move (by constructor) ?_
      refine w_g_on rfl rfl hg4 ?_
      refine w_neq rfl rfl ?_
      refine w_pick_0 rfl hg4 (by constructor) ?_
      try simp only [Int.toNat_natCast] at hg4
      exact hRR _ (EL.cons (.inr (by first | rfl | (simp only [hg4, els]; done) | (simp only [hg4, els]; rfl) | simp [hg4])) (EL.cons (.inl rfl) (EL.cons (.inl rfl) (EL.cons (.inl rfl) (EL.cons (.inr rfl) (EL.cons (.inr rfl) (EL.cons (.inr rfl) (EL.cons (.inr rfl) (EL.cons (.inr rfl) (EL.refl _))))))))))
    · have hg4 := eq_true_of_ne_false hg4
      refine w_g_off rfl rfl (by rw [hg4]; decide) ?_
      refine w_g_off rfl rfl (by rw [hg4]; decide) ?_
      refine w_pick_1 rfl hg4 (by constructor) ?_
      try simp only [Int.toNat_natCast] at hg4
      exact hRR _ (EL.cons (.inr (by first | rfl | (simp only [hg4, els]; done) | (simp only [hg4, els]; rfl) | simp [hg4])) (EL.cons (.inl rfl) (EL.cons (.inl rfl) (EL.cons (.inl rfl) (EL.cons (.inr rfl) (EL.cons (.inr rfl) (EL.cons (.inr rfl) (EL.cons (.inr rfl) (EL.cons (.inr rfl) (EL.refl _))))))))))
  refine snd_cond _ rfl (fun hc41 => ?_) (fun hc41 => ?_)
  · skip
    exact absurd hc41 (by simp [eqN])
  · skip
    refine snd_skip ?_
    refine snd_seq ?_
    apply sr tokTB (by kernel_rfl)
    · intro RR hRR
      refine w_move (by constructor) ?_
      refine w_move (by constructor) ?_
      refine w_call rfl (exc ex_vl exn) (c_toVectorS (F := F) (M := M) (by omega)) (.inl ⟨trivial, ⟨fun _ _ => trivial, trivial⟩⟩) rfl (by constructor) rfl ?_
      refine y_call rfl rfl ((c_eqVectorS (N := M) (R := F) (S := F) (by omega) (fun i _ j _ => rfl)).mt ⟨mt_vl0 rfl, mt_vl0 rfl, trivial⟩) ?_
      refine w_not rfl ?_
      exact hRR
    refine snd_cond_false (by exact rfl) ?_
    refine snd_skip ?_
    apply sr tokTB (by kernel_rfl)
    · intro RR hRR
      refine w_assign (by constructor) ?_
      exact hRR
    refine snd_ret ?_
    exact rt (T := TB) (fun V => rfl)
theorem lKleinOf_big {p n : Int} {T : Nat → Nat → Nat → Int} {fo : Nat → Int} {M : Nat} {F : Nat → Nat → Int} (hM : 1048576 < M) (hM2 : M ≤ 9223372036854775807) : ACalls Try.prog TB 13 [algA p n T fo, vlA M F] (.bool true) [] := by
  refine acalls_of tokTB Try.func13 rfl rfl (Nat.le_of_ble_eq_true rfl) ?_
  apply sr tokTB (by kernel_rfl)
  · intro RR hRR
    refine w_boxc (HV.eq (by constructor)) (by exact trivial) ?_
    refine w_assign (by constructor) ?_
    exact hRR
  apply sr tokTB (by kernel_rfl)
  · intro RR hRR
    refine w_assign (by constructor) ?_
    exact hRR
  apply sr tokTB (by kernel_rfl)
  · intro RR hRR
    refine w_move (by constructor) ?_
    refine w_move (by constructor) ?_
    refine y_call rfl (exc ex_vl (exc (by exact rfl) exn)) (c_szVectorS_big (F := F) hM hM2) ?_
    refine w_assign (by constructor) ?_
    exact hRR
  refine snd_seq ?_
  apply sr tokTB (by kernel_rfl)
  · intro RR hRR
    refine w_move (by constructor) ?_
    refine w_lss rfl rfl ?_
    exact hRR
  refine snd_cond_true (by exact congrArg AV.bool (decide_eq_true (by omega))) ?_
  apply sr tokTB (by kernel_rfl)
  · intro RR hRR
    refine w_assign (by constructor) ?_
    exact hRR
  refine snd_ret ?_
  exact rt (T := TB) (fun V => rfl)
theorem law_KleinOf {p n : Int} {T : Nat → Nat → Nat → Int} {fo : Nat → Int} (hT : RB T) (hf : RV fo) {M : Nat} {F : Nat → Nat → Int} (hM0 : M ≤ maxLen) (hFv : ∀ i, RV (F i)) : ACalls Try.prog TB 13 [algA p n T fo, vlA M F] (.bool true) [] := by
  rcases Nat.lt_or_ge 1048576 M with hM | hM
  · exact lKleinOf_big hM hM0
  have hF : ∀ i, B8 (F i) := fun i => (hFv i).b
  by_cases hz : VZ p n T fo 0 (fun _ _ => 0)
  · have h1 := VZ_0.1 hz
    obtain ⟨hv0, hn⟩ := VN_of hT hf h1
    obtain ⟨m, rfl⟩ : ∃ m : Nat, n = (m : Int) := ⟨n.toNat, hn⟩
    have hv0 : VN p m T fo := hv0
    by_cases hl : liP p (m : Int) M F
    · obtain rfl : M = m := by have := hl.1; omega
      by_cases hc : comN M T
      · by_cases hr : rankT p M T fo = M
        · by_cases hs : starP p M T fo F
          · exact lKleinOf_ok hv0 hF hl.2 hc hr hs
          · exact lKleinOf_ns hv0 hF hl.2 hc hr hs
        · exact lKleinOf_nr hv0 hF hl.2 hc hr
      · exact lKleinOf_nc hv0 hF hl.2 hc
    · exact lKleinOf_nl hv0 hM hF hl
  · exact lKleinOf_no hT hf hz hM hF
end Go.Am

