/- Part 4 of what the law stands on: abstract values, their walk, contracts of functions. My own work. Conditions: none. -/
import Derived.Test.YtndlghhhkgjohaaPart3
set_option linter.unusedVariables false
set_option linter.unusedSimpArgs false
set_option maxRecDepth 4000
namespace Go.Am
attribute [local irreducible] retQ retQp
open Go.Proofs
theorem c_l08Squares {n : Nat} {G : Nat → Nat → Nat} (hG : RG G) (h : GN n G) : ACalls Try.prog TB 40 [grpA (n : Int) G] (v64A (fun z => ((sqN G (n) z : Nat) : Int))) [] := by
  have hcl := closed_cgrp (n := (n : Int)) (G := G)
  have hcl2 := closed_grp (n := (n : Int)) (G := G)
  have hn6 := h.n6
  refine acalls_of tokTB Try.func40 rfl rfl (Nat.le_of_ble_eq_true rfl) ?_
  apply sr tokTB (by kernel_rfl)
  · intro RR hRR
    refine w_boxc (HV.eq (by constructor)) (by exact trivial) ?_
    refine w_alloc kn65 rfl zr65 ?_
    exact hRR
  apply sr tokTB (by kernel_rfl)
  · intro RR hRR
    refine w_bld_a kn65 zr65 und65 kn2 (fun _ => (by exact sz2.symm)) trivial rfl (by exact sz2.symm) ?_
    refine w_alloc kn65 rfl zr65 ?_
    refine w_stw rfl (by constructor) kn65 rfl (by exact trivial) (sx) (by exact sz65.symm) ?_
    exact hRR
  refine snd_seq ?_
  apply sr tokTB (by kernel_rfl)
  · intro RR hRR
    refine w_assign (by constructor) ?_
    exact hRR
  refine snd_block ?_
  refine snd_loop (S := Nat) (fun i => ([(1, .cptr (grpA (n : Int) G)), (2, .ptr 2 0 [] 0 (v64A (fun _ => 0))), (3, .ptr 3 0 [] 0 (v64A (fun _ => 0))), (4, .int .i64 (i : Int))], [(2, .one (v64A (fun _ => 0)) (v64A (fun _ => 0))), (3, .one (v64A (fun _ => 0)) (v64A (fun z => ((sqN G (i) z : Nat) : Int))))])) (fun i => i ≤ n) (fun i => n - i) (0) ρ0 ?_ ?_ ?_
  · exact ⟨⟨m_cgrp, ⟨rfl, rfl, rfl, rfl, rfl⟩, ⟨rfl, rfl, rfl, rfl, rfl⟩, (mi), trivial⟩, ⟨⟨rfl, (sx), (by first | exact mt_vec (fun _ _ => rfl) | exact mt_mat (fun _ _ _ _ => rfl) | exact mt_tab (fun _ _ _ _ _ _ => rfl) | exact mt_arr0 | exact mt_app (fun _ _ => rfl) rfl | exact ⟨rfl, fun _ _ => mt_row (fun _ _ => rfl)⟩ | exact Mt_closed (V := _) closed_alg (fun _ _ _ => trivial) (by simp))⟩, ⟨rfl, (sx), (by exact mt_vec (fun _ _ => rfl))⟩, trivial⟩, ⟨⟨(fun h => by first | exact ⟨rfl, rfl⟩ | exact absurd h (by decide)), (fun h => by first | exact ⟨rfl, rfl⟩ | exact absurd h (by decide)), trivial⟩, ⟨(fun h => by first | exact ⟨rfl, rfl⟩ | exact absurd h (by decide)), (fun h => by first | exact ⟨rfl, rfl⟩ | exact absurd h (by decide)), trivial⟩, trivial⟩⟩
  · exact Nat.zero_le _
  intro i hi0
  refine sq (env2 := [(1, .cptr (grpA (n : Int) G)), (2, .ptr 2 0 [] 0 (v64A (fun _ => 0))), (3, .ptr 3 0 [] 0 (v64A (fun _ => 0))), (4, .int .i64 (i : Int))]) (ol2 := [(2, .one (v64A (fun _ => 0)) (v64A (fun _ => 0))), (3, .one (v64A (fun _ => 0)) (v64A (fun z => ((sqN G (i) z : Nat) : Int))))]) rfl rfl ?_
  refine snd_seq ?_
  apply sr tokTB (by kernel_rfl)
  · intro RR hRR
    refine w_move (by constructor) ?_
    refine w_fac rfl und38 rfl kn2 nz2 (by decide) rfl (by constructor) ?_
    refine w_ldc rfl kn2 (by constructor) (by exact sz2.symm) (by exact ag2.symm) ?_
    refine w_lss rfl rfl ?_
    exact hRR
  refine snd_cond _ rfl (fun hc9 => ?_) (fun hc9 => ?_)
  · try simp only [hcs] at hc9
    have lt_i : i < n := by omega
    have hgl := h.e6 i i lt_i lt_i
    have hsl := sqN_le G (G i i) i
    refine snd_skip ?_
    refine snd_seq ?_
    refine snd_block ?_
    apply lr tokTB (by kernel_rfl)
    · intro RR hRR
      refine w_move (by constructor) ?_
      refine w_move (by constructor) ?_
      refine w_fac rfl und38 rfl kn23 nz23 (by decide) rfl (by constructor) ?_
      refine w_iac rfl rfl und23 kn22 (by exact sz22.symm) ?_ rfl ?_
      · exact ⟨by omega, by omega⟩
      refine w_iac rfl rfl und22 kn5 (by exact sz5.symm) ?_ rfl ?_
      · exact ⟨by omega, by omega⟩
      first | refine w_ldc rfl kn5 (by constructor) (by exact sz5.symm) (by exact ag5.symm) ?_ | refine w_ldp rfl kn5 rfl (by constructor) (by exact sz5.symm) (by exact ag5.symm) ?_
      refine w_iap rfl rfl und65 kn2 rfl (by exact sz2.symm) rfl ?_ ?_
      · exact ⟨(show (0 : Int) ≤ ((G i i : Nat) : Int) by omega), (show ((G i i : Nat) : Int) < 6 by omega)⟩
      first | refine w_ldc rfl kn2 (by constructor) (by exact sz2.symm) (by exact ag2.symm) ?_ | refine w_ldp rfl kn2 rfl (by constructor) (by exact sz2.symm) (by exact ag2.symm) ?_
      refine w_add rfl rfl (by exact w64 (n := ((sqN G i (G i i) : Nat) : Int) + 1) (by omega) (by omega)) ?_
      refine w_iap rfl rfl und65 kn2 rfl (by exact sz2.symm) rfl ?_ ?_
      · exact ⟨(show (0 : Int) ≤ ((G i i : Nat) : Int) by omega), (show ((G i i : Nat) : Int) < 6 by omega)⟩
      first | refine w_stw rfl (by constructor) kn2 rfl (by exact trivial) (sx) (by exact sz2.symm) ?_ | refine w_sti rfl rfl kn2 rfl (by exact trivial) (by exact sz2.symm) ?_ | refine w_store rfl (HV.eq (by constructor)) kn2 rfl (by exact trivial) (sx) (by exact sz2.symm) (put_in (by first | exact put_mat | exact put_tab | exact put_alg0 | exact put_pr0 | exact put_pr1 | exact put_pr2 | exact put_tn4 | exact put_grp0 | exact put_grp1 | exact put_alg1 | exact put_alg2 | exact put_alg3 | exact put_alg3i | exact put_alg2ij | exact put_alg2ijk | exact put_mat2 | exact put_tab2 | exact put_tab3)) ?_ | refine w_store rfl (HV.eq (by constructor)) kn2 rfl (by exact trivial) (by exact trivial) (by exact sz2.symm) rfl ?_
      exact hRR
    apply lr tokTB (by kernel_rfl)
    · intro RR hRR
      refine w_move (by constructor) ?_
      refine y_add rfl rfl ?_
      refine w_assign (by constructor) ?_
      exact hRR
    refine ⟨i + 1, ρ0, ?_, (by omega), (by dsimp only; omega)⟩
    exact ⟨⟨m_cgrp, ⟨rfl, rfl, rfl, rfl, rfl⟩, ⟨rfl, rfl, rfl, rfl, rfl⟩, (mi), trivial⟩, ⟨⟨rfl, (sx), (by first | exact mt_vec (fun _ _ => rfl) | exact mt_mat (fun _ _ _ _ => rfl) | exact mt_tab (fun _ _ _ _ _ _ => rfl) | exact mt_arr0 | exact mt_app (fun _ _ => rfl) rfl | exact ⟨rfl, fun _ _ => mt_row (fun _ _ => rfl)⟩ | exact Mt_closed (V := _) closed_alg (fun _ _ _ => trivial) (by simp))⟩, ⟨rfl, (sx), (by exact mt_vec (fun z _ => sq_upd))⟩, trivial⟩, ⟨⟨(fun h => by first | exact ⟨rfl, rfl⟩ | exact absurd h (by decide)), (fun h => by first | exact ⟨rfl, rfl⟩ | exact absurd h (by decide)), trivial⟩, ⟨(fun h => by first | exact ⟨rfl, rfl⟩ | exact absurd h (by decide)), (fun h => by first | exact ⟨rfl, rfl⟩ | exact absurd h (by decide)), trivial⟩, trivial⟩⟩
  · try simp only [hcs] at hc9
    have ge_i : n = i := by omega
    subst ge_i
    refine snd_exit ?_
    apply sr tokTB (by kernel_rfl)
    · intro RR hRR
      refine w_ldp rfl kn65 rfl (by constructor) (by exact sz65.symm) (by exact ag65.symm) ?_
      refine w_stw rfl (by constructor) kn65 rfl (by exact trivial) (sx) (by exact sz65.symm) ?_
      exact hRR
    refine snd_ret ?_
    exact rt_c (T := TB) rfl kn65 rfl sz65.symm ag65.symm (fun V => mt_vec (fun _ _ => rfl))
theorem c_iSquareVector_ok {n : Nat} {G : Nat → Nat → Nat} (hG : RG G) (h : GN n G) {p : Int} (hp : primeB p = true) : ACalls Try.prog TB 18 [.int .i64 p, grpA (n : Int) G] (.tup 2 (pairA (vecA (cutF (SVF p n G) (ccN n G))) (.int .i64 0))) [] := by
  have hcl := closed_cgrp (n := (n : Int)) (G := G)
  have hcl2 := closed_grp (n := (n : Int)) (G := G)
  have hn6 := h.n6
  have hpb := primeB_bd hp
  have hc6 := h.cle
  refine acalls_of tokTB Try.func18 rfl rfl (Nat.le_of_ble_eq_true rfl) ?_
  apply sr tokTB (by kernel_rfl)
  · intro RR hRR
    refine w_boxc (HV.eq (by constructor)) (by exact trivial) ?_
    refine w_alloc kn25 rfl zr25 ?_
    refine w_assign (by constructor) ?_
    exact hRR
  refine snd_seq ?_
  apply sr tokTB (by kernel_rfl)
  · intro RR hRR
    refine w_move (by constructor) ?_
    refine w_ldc rfl kn38 (by constructor) (by exact sz38.symm) (by exact ag38.symm) ?_
    refine y_call rfl (ec (exc exp_grp exn)) (c_primed_ok hG h hp) ?_
    refine w_assign (by constructor) ?_
    exact hRR
  apply sr tokTB (by kernel_rfl)
  · intro RR hRR
    refine w_move (by constructor) ?_
    refine w_neq rfl rfl ?_
    exact hRR
  refine snd_cond_false rfl ?_
  refine snd_skip ?_
  apply sr tokTB (by kernel_rfl)
  · intro RR hRR
    refine w_bld_a kn25 zr25 und25 kn5 (fun _ => (by exact sz5.symm)) trivial rfl (by exact sz5.symm) ?_
    refine w_alloc kn25 rfl zr25 ?_
    refine w_stw rfl (by constructor) kn25 rfl (by exact trivial) (sx) (by exact sz25.symm) ?_
    exact hRR
  refine snd_seq ?_
  apply sr tokTB (by kernel_rfl)
  · intro RR hRR
    refine w_callc rfl (exc exp_cgrp exn) (famW_cl (c_classes hG h)) (by exact closed_rowsW) (by exact ⟨closed_cgrp, trivial⟩) ?_
    first | refine w_len_r rfl rfl und35 ?_ | refine w_len_o rfl rfl und35 ?_ | refine w_len_n rfl rfl und35 ?_
    refine w_move (by constructor) ?_
    exact hRR
  refine snd_block ?_
  refine snd_loop (S := Nat) (fun k => ([(0, .int .i64 p), (3, .cptr (grpA (n : Int) G)), (4, .ptr 4 0 [] 0 (vecA (fun _ => 0))), (7, .ptr 7 0 [] 0 (vecA (fun _ => 0))), (20, rowsW (ccN n G) (ccW n G) (ccF n G)), (21, .int .i64 (((ccN n G) : Nat) : Int)), (22, .int .i64 (k : Int))], [(4, .one (vecA (fun _ => 0)) (vecA (fun _ => 0))), (7, .one (vecA (fun _ => 0)) (vecA (cutF (SVF p n G) k)))])) (fun k => k ≤ (ccN n G)) (fun k => (ccN n G) - k) (0) ρ0 ?_ ?_ ?_
  · exact ⟨⟨(mi), m_cgrp, ⟨rfl, rfl, rfl, rfl, rfl⟩, ⟨rfl, rfl, rfl, rfl, rfl⟩, (mt_rowsW (V := _) (fun _ _ _ _ => rfl)), (mi), (mi), trivial⟩, ⟨⟨rfl, (sx), (by first | exact mt_vec (fun _ _ => rfl) | exact mt_mat (fun _ _ _ _ => rfl) | exact mt_tab (fun _ _ _ _ _ _ => rfl) | exact mt_arr0 | exact mt_app (fun _ _ => rfl) rfl | exact ⟨rfl, fun _ _ => mt_row (fun _ _ => rfl)⟩ | exact Mt_closed (V := _) closed_alg (fun _ _ _ => trivial) (by simp))⟩, ⟨rfl, (sx), (by exact mt_vec (fun _ _ => rfl))⟩, trivial⟩, ⟨⟨(fun h => by first | exact ⟨rfl, rfl⟩ | exact absurd h (by decide)), (fun h => by first | exact ⟨rfl, rfl⟩ | exact absurd h (by decide)), trivial⟩, ⟨(fun h => by first | exact ⟨rfl, rfl⟩ | exact absurd h (by decide)), (fun h => by first | exact ⟨rfl, rfl⟩ | exact absurd h (by decide)), trivial⟩, trivial⟩⟩
  · exact Nat.zero_le _
  intro k hi0
  refine sq (env2 := [(0, .int .i64 p), (3, .cptr (grpA (n : Int) G)), (4, .ptr 4 0 [] 0 (vecA (fun _ => 0))), (7, .ptr 7 0 [] 0 (vecA (fun _ => 0))), (20, rowsW (ccN n G) (ccW n G) (ccF n G)), (21, .int .i64 (((ccN n G) : Nat) : Int)), (22, .int .i64 (k : Int))]) (ol2 := [(4, .one (vecA (fun _ => 0)) (vecA (fun _ => 0))), (7, .one (vecA (fun _ => 0)) (vecA (cutF (SVF p n G) k)))]) rfl rfl ?_
  apply sr tokTB (by kernel_rfl)
  · intro RR hRR
    refine w_lss rfl rfl ?_
    exact hRR
  refine snd_seq ?_
  refine snd_cond _ rfl (fun hc23 => ?_) (fun hc23 => ?_)
  · try simp only [hcs] at hc23
    have lt_k : k < (ccN n G) := by omega
    have hcf := (h.rp lt_k).2.1
    refine snd_skip ?_
    refine snd_seq ?_
    refine snd_block ?_
    apply sr tokTB (by kernel_rfl)
    · intro RR hRR
      refine w_move (by constructor) ?_
      refine w_iar rfl rfl und35 kn62 (by exact sz62.symm) ?_ rfl ?_
      · exact ⟨by omega, by omega⟩
      first | refine w_ldc rfl kn62 (by constructor) (by exact sz62.symm) (by exact ag62.symm) ?_ | refine w_ldp rfl kn62 rfl (by constructor) (by exact sz62.symm) (by exact ag62.symm) ?_
      refine w_assign (by constructor) ?_
      refine w_assign (by constructor) ?_
      exact hRR
    apply sr tokTB (by kernel_rfl)
    · intro RR hRR
      refine w_assign (by constructor) ?_
      exact hRR
    refine snd_seq ?_
    apply sr tokTB (by kernel_rfl)
    · intro RR hRR
      refine y_call rfl (exc exp_cgrp exn) (c_gn) ?_
      refine w_move (by constructor) ?_
      exact hRR
    refine snd_block ?_
    refine snd_loop (S := Nat) (fun z => ([(0, .int .i64 p), (3, .cptr (grpA (n : Int) G)), (4, .ptr 4 0 [] 0 (vecA (fun _ => 0))), (7, .ptr 7 0 [] 0 (vecA (fun _ => 0))), (8, .int .i64 (k : Int)), (9, rowA (ccW n G k) (ccF n G k)), (10, .int .i64 ((sqN G z (rpF n G k) : Nat) : Int)), (20, rowsW (ccN n G) (ccW n G) (ccF n G)), (21, .int .i64 (((ccN n G) : Nat) : Int)), (22, .int .i64 (k : Int)), (27, .int .i64 (n : Int)), (28, .int .i64 (z : Int))], [(4, .one (vecA (fun _ => 0)) (vecA (fun _ => 0))), (7, .one (vecA (fun _ => 0)) (vecA (cutF (SVF p n G) k)))])) (fun z => z ≤ n) (fun z => n - z) (0) ρ0 ?_ ?_ ?_
    · exact ⟨⟨(mi), m_cgrp, ⟨rfl, rfl, rfl, rfl, rfl⟩, ⟨rfl, rfl, rfl, rfl, rfl⟩, (mi), (by first | exact mt_row (V := _) (fun _ _ => rfl) | exact mt_fz (by exact ⟨(ne_fst rfl), (ne_fst rfl), trivial⟩) rfl (fun _ _ => rfl)), (by exact m_int rfl), (mt_rowsW (V := _) (fun _ _ _ _ => rfl)), (mi), (mi), (mi), (mi), trivial⟩, ⟨⟨rfl, (sx), (by first | exact mt_vec (fun _ _ => rfl) | exact mt_mat (fun _ _ _ _ => rfl) | exact mt_tab (fun _ _ _ _ _ _ => rfl) | exact mt_arr0 | exact mt_app (fun _ _ => rfl) rfl | exact ⟨rfl, fun _ _ => mt_row (fun _ _ => rfl)⟩ | exact Mt_closed (V := _) closed_alg (fun _ _ _ => trivial) (by simp))⟩, ⟨rfl, (sx), (by first | exact mt_vec (fun _ _ => rfl) | exact mt_mat (fun _ _ _ _ => rfl) | exact mt_tab (fun _ _ _ _ _ _ => rfl) | exact mt_arr0 | exact mt_app (fun _ _ => rfl) rfl | exact ⟨rfl, fun _ _ => mt_row (fun _ _ => rfl)⟩ | exact Mt_closed (V := _) closed_alg (fun _ _ _ => trivial) (by simp))⟩, trivial⟩, ⟨⟨(fun h => by first | exact ⟨rfl, rfl⟩ | exact absurd h (by decide)), (fun h => by first | exact ⟨rfl, rfl⟩ | exact absurd h (by decide)), trivial⟩, ⟨(fun h => by first | exact ⟨rfl, rfl⟩ | exact absurd h (by decide)), (fun h => by first | exact ⟨rfl, rfl⟩ | exact absurd h (by decide)), trivial⟩, trivial⟩⟩
    · exact Nat.zero_le _
    intro z hi2
    refine sq (env2 := [(0, .int .i64 p), (3, .cptr (grpA (n : Int) G)), (4, .ptr 4 0 [] 0 (vecA (fun _ => 0))), (7, .ptr 7 0 [] 0 (vecA (fun _ => 0))), (8, .int .i64 (k : Int)), (9, rowA (ccW n G k) (ccF n G k)), (10, .int .i64 ((sqN G z (rpF n G k) : Nat) : Int)), (20, rowsW (ccN n G) (ccW n G) (ccF n G)), (21, .int .i64 (((ccN n G) : Nat) : Int)), (22, .int .i64 (k : Int)), (27, .int .i64 (n : Int)), (28, .int .i64 (z : Int))]) (ol2 := [(4, .one (vecA (fun _ => 0)) (vecA (fun _ => 0))), (7, .one (vecA (fun _ => 0)) (vecA (cutF (SVF p n G) k)))]) rfl rfl ?_
    apply sr tokTB (by kernel_rfl)
    · intro RR hRR
      refine w_lss rfl rfl ?_
      exact hRR
    refine snd_seq ?_
    refine snd_cond _ rfl (fun hc29 => ?_) (fun hc29 => ?_)
    · try simp only [hcs] at hc29
      have lt_z : z < n := by omega
      refine snd_skip ?_
      refine snd_seq ?_
      refine snd_block ?_
      apply sr tokTB (by kernel_rfl)
      · intro RR hRR
        refine w_move (by constructor) ?_
        refine w_assign (by constructor) ?_
        exact hRR
      apply sd tokTB mixed (by kernel_rfl) (by kernel_rfl)
      · intro RR hRR
        refine w_move (by constructor) ?_
        refine w_move (by constructor) ?_
        refine y_call rfl (exc exp_cgrp (ec (ec exn))) (c_gtimes (i := z) (j := z) hG (by omega) (by omega)) ?_
        refine w_move (by constructor) ?_
        refine w_iar rfl rfl und62 kn2 (by exact sz2.symm) ?_ rfl ?_
        · exact ⟨Int.le_refl _, (show (0 : Int) < ((clN n G (rpF n G k) : Nat) : Int) by have := (h.rp lt_k).2.2; omega)⟩
        first | refine w_ldc rfl kn2 (by constructor) (by exact sz2.symm) (by exact ag2.symm) ?_ | refine w_ldp rfl kn2 rfl (by constructor) (by exact sz2.symm) (by exact ag2.symm) ?_
        refine w_eql rfl rfl ?_
        exact hRR
      refine snd_cond _ rfl (fun hc37 => ?_) (fun hc37 => ?_)
      · skip
        have q : G z z = rpF n G k := by have q1 : ((G z z : Nat) : Int) = ((clF n G (rpF n G k) 0 : Nat) : Int) := of_decide_eq_true hc37; omega
        have hs := sq_t q
        have hsl := sqN_le G (rpF n G k) z
        apply lr tokTB (by kernel_rfl)
        · intro RR hRR
          refine w_move (by constructor) ?_
          refine y_add rfl rfl ?_
          refine w_assign (by constructor) ?_
          exact hRR
        apply lr tokTB (by kernel_rfl)
        · intro RR hRR
          refine y_add rfl rfl ?_
          refine w_move (by constructor) ?_
          exact hRR
        refine ⟨z + 1, ρ0, ?_, (by omega), (by dsimp only; omega)⟩
        exact ⟨⟨(mi), m_cgrp, ⟨rfl, rfl, rfl, rfl, rfl⟩, ⟨rfl, rfl, rfl, rfl, rfl⟩, (mi), (by first | exact mt_row (V := _) (fun _ _ => rfl) | exact mt_fz (by exact ⟨(ne_fst rfl), (ne_fst rfl), trivial⟩) rfl (fun _ _ => rfl)), (by exact m_int (by rw [hs]; omega)), (mt_rowsW (V := _) (fun _ _ _ _ => rfl)), (mi), (mi), (mi), (mi), trivial⟩, ⟨⟨rfl, (sx), (by first | exact mt_vec (fun _ _ => rfl) | exact mt_mat (fun _ _ _ _ => rfl) | exact mt_tab (fun _ _ _ _ _ _ => rfl) | exact mt_arr0 | exact mt_app (fun _ _ => rfl) rfl | exact ⟨rfl, fun _ _ => mt_row (fun _ _ => rfl)⟩ | exact Mt_closed (V := _) closed_alg (fun _ _ _ => trivial) (by simp))⟩, ⟨rfl, (sx), (by first | exact mt_vec (fun _ _ => rfl) | exact mt_mat (fun _ _ _ _ => rfl) | exact mt_tab (fun _ _ _ _ _ _ => rfl) | exact mt_arr0 | exact mt_app (fun _ _ => rfl) rfl | exact ⟨rfl, fun _ _ => mt_row (fun _ _ => rfl)⟩ | exact Mt_closed (V := _) closed_alg (fun _ _ _ => trivial) (by simp))⟩, trivial⟩, ⟨⟨(fun h => by first | exact ⟨rfl, rfl⟩ | exact absurd h (by decide)), (fun h => by first | exact ⟨rfl, rfl⟩ | exact absurd h (by decide)), trivial⟩, ⟨(fun h => by first | exact ⟨rfl, rfl⟩ | exact absurd h (by decide)), (fun h => by first | exact ⟨rfl, rfl⟩ | exact absurd h (by decide)), trivial⟩, trivial⟩⟩
      · skip
        have q : G z z ≠ rpF n G k := by have q1 : ¬ ((G z z : Nat) : Int) = ((clF n G (rpF n G k) 0 : Nat) : Int) := of_decide_eq_false hc37; omega
        have hs := sq_f q
        refine snd_skip ?_
        apply lr tokTB (by kernel_rfl)
        · intro RR hRR
          refine y_add rfl rfl ?_
          refine w_move (by constructor) ?_
          exact hRR
        refine ⟨z + 1, ρ0, ?_, (by omega), (by dsimp only; omega)⟩
        exact ⟨⟨(mi), m_cgrp, ⟨rfl, rfl, rfl, rfl, rfl⟩, ⟨rfl, rfl, rfl, rfl, rfl⟩, (mi), (by first | exact mt_row (V := _) (fun _ _ => rfl) | exact mt_fz (by exact ⟨(ne_fst rfl), (ne_fst rfl), trivial⟩) rfl (fun _ _ => rfl)), (by exact m_int (by rw [hs])), (mt_rowsW (V := _) (fun _ _ _ _ => rfl)), (mi), (mi), (mi), (mi), trivial⟩, ⟨⟨rfl, (sx), (by first | exact mt_vec (fun _ _ => rfl) | exact mt_mat (fun _ _ _ _ => rfl) | exact mt_tab (fun _ _ _ _ _ _ => rfl) | exact mt_arr0 | exact mt_app (fun _ _ => rfl) rfl | exact ⟨rfl, fun _ _ => mt_row (fun _ _ => rfl)⟩ | exact Mt_closed (V := _) closed_alg (fun _ _ _ => trivial) (by simp))⟩, ⟨rfl, (sx), (by first | exact mt_vec (fun _ _ => rfl) | exact mt_mat (fun _ _ _ _ => rfl) | exact mt_tab (fun _ _ _ _ _ _ => rfl) | exact mt_arr0 | exact mt_app (fun _ _ => rfl) rfl | exact ⟨rfl, fun _ _ => mt_row (fun _ _ => rfl)⟩ | exact Mt_closed (V := _) closed_alg (fun _ _ _ => trivial) (by simp))⟩, trivial⟩, ⟨⟨(fun h => by first | exact ⟨rfl, rfl⟩ | exact absurd h (by decide)), (fun h => by first | exact ⟨rfl, rfl⟩ | exact absurd h (by decide)), trivial⟩, ⟨(fun h => by first | exact ⟨rfl, rfl⟩ | exact absurd h (by decide)), (fun h => by first | exact ⟨rfl, rfl⟩ | exact absurd h (by decide)), trivial⟩, trivial⟩⟩
    · try simp only [hcs] at hc29
      have ge_z : n = z := by omega
      subst ge_z
      refine snd_exit ?_
      apply lr tokTB (by kernel_rfl)
      · intro RR hRR
        refine w_move (by constructor) ?_
        refine w_move (by constructor) ?_
        refine w_move (by constructor) ?_
        refine w_rem rfl rfl (by first | assumption | omega) ?_
        refine w_conv rfl und2 und5 (by exact w_cnt ⟨by omega, by omega⟩) ?_
        refine w_iap rfl rfl und25 kn5 rfl (by exact sz5.symm) rfl ?_ ?_
        · exact ⟨by omega, by omega⟩
        first | refine w_stw rfl (by constructor) kn5 rfl (by exact trivial) (sx) (by exact sz5.symm) ?_ | refine w_sti rfl rfl kn5 rfl (by exact trivial) (by exact sz5.symm) ?_ | refine w_store rfl (HV.eq (by constructor)) kn5 rfl (by exact trivial) (sx) (by exact sz5.symm) (put_in (by first | exact put_mat | exact put_tab | exact put_alg0 | exact put_pr0 | exact put_pr1 | exact put_pr2 | exact put_tn4 | exact put_grp0 | exact put_grp1 | exact put_alg1 | exact put_alg2 | exact put_alg3 | exact put_alg3i | exact put_alg2ij | exact put_alg2ijk | exact put_mat2 | exact put_tab2 | exact put_tab3)) ?_ | refine w_store rfl (HV.eq (by constructor)) kn5 rfl (by exact trivial) (by exact trivial) (by exact sz5.symm) rfl ?_
        exact hRR
      apply lr tokTB (by kernel_rfl)
      · intro RR hRR
        refine y_add rfl rfl ?_
        refine w_move (by constructor) ?_
        exact hRR
      refine ⟨k + 1, ρ0, ?_, (by omega), (by dsimp only; omega)⟩
      exact ⟨⟨(mi), m_cgrp, ⟨rfl, rfl, rfl, rfl, rfl⟩, ⟨rfl, rfl, rfl, rfl, rfl⟩, (mt_rowsW (V := _) (fun _ _ _ _ => rfl)), (mi), (mi), trivial⟩, ⟨⟨rfl, (sx), (by first | exact mt_vec (fun _ _ => rfl) | exact mt_mat (fun _ _ _ _ => rfl) | exact mt_tab (fun _ _ _ _ _ _ => rfl) | exact mt_arr0 | exact mt_app (fun _ _ => rfl) rfl | exact ⟨rfl, fun _ _ => mt_row (fun _ _ => rfl)⟩ | exact Mt_closed (V := _) closed_alg (fun _ _ _ => trivial) (by simp))⟩, ⟨rfl, (sx), (by exact mt_vec (fun z _ => upd_cut _ k z))⟩, trivial⟩, ⟨⟨(fun h => by first | exact ⟨rfl, rfl⟩ | exact absurd h (by decide)), (fun h => by first | exact ⟨rfl, rfl⟩ | exact absurd h (by decide)), trivial⟩, ⟨(fun h => by first | exact ⟨rfl, rfl⟩ | exact absurd h (by decide)), (fun h => by first | exact ⟨rfl, rfl⟩ | exact absurd h (by decide)), trivial⟩, trivial⟩⟩
  · try simp only [hcs] at hc23
    have ge_k : (ccN n G) = k := by omega
    subst ge_k
    refine snd_exit ?_
    apply sr tokTB (by kernel_rfl)
    · intro RR hRR
      refine w_ldp rfl kn25 rfl (by constructor) (by exact sz25.symm) (by exact ag25.symm) ?_
      refine w_stw rfl (by constructor) kn25 rfl (by exact trivial) (sx) (by exact sz25.symm) ?_
      refine w_assign (by constructor) ?_
      exact hRR
    refine snd_ret ?_
    show retQ TB _ _ _ _ _ _
    exact rt_ct (T := TB) rfl kn25 rfl sz25.symm ag25.symm (fun V => mt_vec (fun z _ => rfl)) (fun V => rfl)
theorem c_iSquareVector_pr {n : Nat} {G : Nat → Nat → Nat} (hG : RG G) (h : GN n G) {p : Int} (hp : primeB p = false) : ACalls Try.prog TB 18 [.int .i64 p, grpA (n : Int) G] (.tup 2 (pairA (vecA (fun _ => 0)) (.int .i64 2))) [] := by
  have hcl := closed_cgrp (n := (n : Int)) (G := G)
  have hcl2 := closed_grp (n := (n : Int)) (G := G)
  refine acalls_of tokTB Try.func18 rfl rfl (Nat.le_of_ble_eq_true rfl) ?_
  apply sr tokTB (by kernel_rfl)
  · intro RR hRR
    refine w_boxc (HV.eq (by constructor)) (by exact trivial) ?_
    refine w_alloc kn25 rfl zr25 ?_
    refine w_assign (by constructor) ?_
    exact hRR
  refine snd_seq ?_
  apply sr tokTB (by kernel_rfl)
  · intro RR hRR
    refine w_move (by constructor) ?_
    refine w_ldc rfl kn38 (by constructor) (by exact sz38.symm) (by exact ag38.symm) ?_
    refine y_call rfl (ec (exc exp_grp exn)) (c_primed_pr hG h hp) ?_
    refine w_assign (by constructor) ?_
    exact hRR
  apply sr tokTB (by kernel_rfl)
  · intro RR hRR
    refine w_move (by constructor) ?_
    refine w_neq rfl rfl ?_
    exact hRR
  refine snd_cond_true rfl ?_
  apply sr tokTB (by kernel_rfl)
  · intro RR hRR
    refine w_bld_a kn25 zr25 und25 kn5 (fun _ => (by exact sz5.symm)) trivial rfl (by exact sz5.symm) ?_
    refine w_move (by constructor) ?_
    refine w_stw rfl (by constructor) kn25 rfl (by exact trivial) (sx) (by exact sz25.symm) ?_
    refine w_assign (by constructor) ?_
    exact hRR
  refine snd_ret ?_
  show retQ TB _ _ _ _ _ _
  exact rt_ct (T := TB) rfl kn25 rfl sz25.symm ag25.symm (fun V => mt_vec (fun z _ => rfl)) (fun V => rfl)
theorem c_iSquareVector_no {n : Int} {G : Nat → Nat → Nat} (hG : RG G) {p : Int} (h : ¬ GZ n G) : ACalls Try.prog TB 18 [.int .i64 p, grpA n G] (.tup 2 (pairA (vecA (fun _ => 0)) (.int .i64 1))) [] := by
  have hcl2 := closed_grp (n := n) (G := G)
  refine acalls_of tokTB Try.func18 rfl rfl (Nat.le_of_ble_eq_true rfl) ?_
  apply sr tokTB (by kernel_rfl)
  · intro RR hRR
    refine w_boxc (HV.eq (by constructor)) (by exact trivial) ?_
    refine w_alloc kn25 rfl zr25 ?_
    refine w_assign (by constructor) ?_
    exact hRR
  refine snd_seq ?_
  apply sr tokTB (by kernel_rfl)
  · intro RR hRR
    refine w_move (by constructor) ?_
    refine w_ldc rfl kn38 (by constructor) (by exact sz38.symm) (by exact ag38.symm) ?_
    refine y_call rfl (ec (exc exp_grp exn)) (c_primed_no hG h) ?_
    refine w_assign (by constructor) ?_
    exact hRR
  apply sr tokTB (by kernel_rfl)
  · intro RR hRR
    refine w_move (by constructor) ?_
    refine w_neq rfl rfl ?_
    exact hRR
  refine snd_cond_true rfl ?_
  apply sr tokTB (by kernel_rfl)
  · intro RR hRR
    refine w_bld_a kn25 zr25 und25 kn5 (fun _ => (by exact sz5.symm)) trivial rfl (by exact sz5.symm) ?_
    refine w_move (by constructor) ?_
    refine w_stw rfl (by constructor) kn25 rfl (by exact trivial) (sx) (by exact sz25.symm) ?_
    refine w_assign (by constructor) ?_
    exact hRR
  refine snd_ret ?_
  show retQ TB _ _ _ _ _ _
  exact rt_ct (T := TB) rfl kn25 rfl sz25.symm ag25.symm (fun V => mt_vec (fun z _ => rfl)) (fun V => rfl)
theorem c_sSquareVector_ok {n : Nat} {G : Nat → Nat → Nat} (hG : RG G) (h : GN n G) {p : Int} (hp : primeB p = true) : ACalls Try.prog TB 17 [.int .i64 p, grpA (n : Int) G] (.tup 2 (pairA (vecA (cutF (SVF p n G) (ccN n G))) (.int .i64 0))) [] := by
  have hcl := closed_cgrp (n := (n : Int)) (G := G)
  have hcl2 := closed_grp (n := (n : Int)) (G := G)
  have hn6 := h.n6
  have hpb := primeB_bd hp
  have hc6 := h.cle
  refine acalls_of tokTB Try.func17 rfl rfl (Nat.le_of_ble_eq_true rfl) ?_
  apply sr tokTB (by kernel_rfl)
  · intro RR hRR
    refine w_boxc (HV.eq (by constructor)) (by exact trivial) ?_
    refine w_alloc kn25 rfl zr25 ?_
    refine w_assign (by constructor) ?_
    exact hRR
  refine snd_seq ?_
  apply sr tokTB (by kernel_rfl)
  · intro RR hRR
    refine w_move (by constructor) ?_
    refine w_ldc rfl kn38 (by constructor) (by exact sz38.symm) (by exact ag38.symm) ?_
    refine y_call rfl (ec (exc exp_grp exn)) (c_l06Code_ok hG h hp) ?_
    refine w_assign (by constructor) ?_
    exact hRR
  apply sr tokTB (by kernel_rfl)
  · intro RR hRR
    refine w_move (by constructor) ?_
    refine w_neq rfl rfl ?_
    exact hRR
  refine snd_cond_false rfl ?_
  refine snd_skip ?_
  apply sdX tokTB mixed [0, 1] (by kernel_rfl) (by kernel_rfl)
  · intro RR hRR
    show WOps _ _ _ _ _ _ _
    show LoadC Try.prog TB _ _ _
    refine wx_ldc rfl kn38 (by constructor) (by exact sz38.symm) (by exact ag38.symm) ?_
    show WOps _ _ _ _ _ _ _
    refine w_callc rfl (exc exp_grp exn) (famW_cl (c_l06Classes hG h)) (by exact closed_rowsW) (by exact ⟨closed_grp, trivial⟩) ?_
    show LoadC Try.prog TB _ _ _
    refine wx_ldc rfl kn38 (by constructor) (by exact sz38.symm) (by exact ag38.symm) ?_
    show WOps _ _ _ _ _ _ _
    refine y_call rfl (exc exp_grp exn) (c_l08Squares hG h) ?_
    refine w_bld_a kn25 zr25 und25 kn5 (fun _ => (by exact sz5.symm)) trivial rfl (by exact sz5.symm) ?_
    refine w_alloc kn65 rfl zr65 ?_
    refine w_alloc kn25 rfl zr25 ?_
    refine w_assign (by constructor) ?_
    refine w_stw rfl (by constructor) kn65 rfl (by exact trivial) (sx) (by exact sz65.symm) ?_
    refine w_stw rfl (by constructor) kn25 rfl (by exact trivial) (sx) (by exact sz25.symm) ?_
    exact hRR
  refine snd_seq ?_
  apply sr tokTB (by kernel_rfl)
  · intro RR hRR
    refine w_assign (by constructor) ?_
    exact hRR
  refine snd_block ?_
  refine snd_loop (S := Nat) (fun k => ([(0, .int .i64 p), (4, .ptr 4 0 [] 0 (vecA (fun _ => 0))), (7, rowsW (ccN n G) (ccW n G) (ccF n G)), (8, .ptr 8 0 [] 0 (v64A (fun _ => 0))), (9, .ptr 9 0 [] 0 (vecA (fun _ => 0))), (10, .int .i64 (k : Int))], [(4, .one (vecA (fun _ => 0)) (vecA (fun _ => 0))), (8, .one (v64A (fun _ => 0)) (v64A (fun z => ((sqN G (n) z : Nat) : Int)))), (9, .one (vecA (fun _ => 0)) (vecA (cutF (SVF p n G) k)))])) (fun k => k ≤ (ccN n G)) (fun k => (ccN n G) - k) (0) ρ0 ?_ ?_ ?_
  · exact ⟨⟨(mi), ⟨rfl, rfl, rfl, rfl, rfl⟩, (mt_rowsW (V := _) (fun _ _ _ _ => rfl)), ⟨rfl, rfl, rfl, rfl, rfl⟩, ⟨rfl, rfl, rfl, rfl, rfl⟩, (mi), trivial⟩, ⟨⟨rfl, (sx), (by first | exact mt_vec (fun _ _ => rfl) | exact mt_mat (fun _ _ _ _ => rfl) | exact mt_tab (fun _ _ _ _ _ _ => rfl) | exact mt_arr0 | exact mt_app (fun _ _ => rfl) rfl | exact ⟨rfl, fun _ _ => mt_row (fun _ _ => rfl)⟩ | exact Mt_closed (V := _) closed_alg (fun _ _ _ => trivial) (by simp))⟩, ⟨rfl, (sx), (by exact mt_vec (fun _ _ => rfl))⟩, ⟨rfl, (sx), (by exact mt_vec (fun _ _ => rfl))⟩, trivial⟩, ⟨⟨(fun h => by first | exact ⟨rfl, rfl⟩ | exact absurd h (by decide)), (fun h => by first | exact ⟨rfl, rfl⟩ | exact absurd h (by decide)), (fun h => by first | exact ⟨rfl, rfl⟩ | exact absurd h (by decide)), trivial⟩, ⟨(fun h => by first | exact ⟨rfl, rfl⟩ | exact absurd h (by decide)), (fun h => by first | exact ⟨rfl, rfl⟩ | exact absurd h (by decide)), (fun h => by first | exact ⟨rfl, rfl⟩ | exact absurd h (by decide)), trivial⟩, ⟨(fun h => by first | exact ⟨rfl, rfl⟩ | exact absurd h (by decide)), (fun h => by first | exact ⟨rfl, rfl⟩ | exact absurd h (by decide)), (fun h => by first | exact ⟨rfl, rfl⟩ | exact absurd h (by decide)), trivial⟩, trivial⟩⟩
  · exact Nat.zero_le _
  intro k hi0
  refine sq (env2 := [(0, .int .i64 p), (4, .ptr 4 0 [] 0 (vecA (fun _ => 0))), (7, rowsW (ccN n G) (ccW n G) (ccF n G)), (8, .ptr 8 0 [] 0 (v64A (fun _ => 0))), (9, .ptr 9 0 [] 0 (vecA (fun _ => 0))), (10, .int .i64 (k : Int))]) (ol2 := [(4, .one (vecA (fun _ => 0)) (vecA (fun _ => 0))), (8, .one (v64A (fun _ => 0)) (v64A (fun z => ((sqN G (n) z : Nat) : Int)))), (9, .one (vecA (fun _ => 0)) (vecA (cutF (SVF p n G) k)))]) rfl rfl ?_
  refine snd_seq ?_
  apply sr tokTB (by kernel_rfl)
  · intro RR hRR
    refine w_move (by constructor) ?_
    refine w_move (by constructor) ?_
    first | refine w_len_r rfl rfl und35 ?_ | refine w_len_o rfl rfl und35 ?_ | refine w_len_n rfl rfl und35 ?_
    refine w_lss rfl rfl ?_
    exact hRR
  refine snd_cond _ rfl (fun hc26 => ?_) (fun hc26 => ?_)
  · try simp only [hcs] at hc26
    have lt_k : k < (ccN n G) := by omega
    have hcf := (h.rp lt_k).2.1
    have hrl := (h.rp lt_k).1
    refine snd_skip ?_
    refine snd_seq ?_
    refine snd_block ?_
    apply lr tokTB (by kernel_rfl)
    · intro RR hRR
      refine w_move (by constructor) ?_
      refine w_move (by constructor) ?_
      refine w_move (by constructor) ?_
      refine w_iar rfl rfl und35 kn62 (by exact sz62.symm) ?_ rfl ?_
      · exact ⟨by omega, by omega⟩
      first | refine w_ldc rfl kn62 (by constructor) (by exact sz62.symm) (by exact ag62.symm) ?_ | refine w_ldp rfl kn62 rfl (by constructor) (by exact sz62.symm) (by exact ag62.symm) ?_
      refine w_iar rfl rfl und62 kn2 (by exact sz2.symm) ?_ rfl ?_
      · exact ⟨Int.le_refl _, (show (0 : Int) < ((clN n G (rpF n G k) : Nat) : Int) by have := (h.rp lt_k).2.2; omega)⟩
      first | refine w_ldc rfl kn2 (by constructor) (by exact sz2.symm) (by exact ag2.symm) ?_ | refine w_ldp rfl kn2 rfl (by constructor) (by exact sz2.symm) (by exact ag2.symm) ?_
      refine w_iap rfl rfl und65 kn2 rfl (by exact sz2.symm) rfl ?_ ?_
      · exact ⟨(show (0 : Int) ≤ ((clF n G (rpF n G k) 0 : Nat) : Int) by omega), (show ((clF n G (rpF n G k) 0 : Nat) : Int) < 6 by omega)⟩
      first | refine w_ldc rfl kn2 (by constructor) (by exact sz2.symm) (by exact ag2.symm) ?_ | refine w_ldp rfl kn2 rfl (by constructor) (by exact sz2.symm) (by exact ag2.symm) ?_
      refine w_move (by constructor) ?_
      refine w_rem rfl rfl (by first | assumption | omega) ?_
      refine w_conv rfl und2 und5 (by exact w_cnt ⟨by omega, by omega⟩) ?_
      refine w_iap rfl rfl und25 kn5 rfl (by exact sz5.symm) rfl ?_ ?_
      · exact ⟨by omega, by omega⟩
      first | refine w_stw rfl (by constructor) kn5 rfl (by exact trivial) (sx) (by exact sz5.symm) ?_ | refine w_sti rfl rfl kn5 rfl (by exact trivial) (by exact sz5.symm) ?_ | refine w_store rfl (HV.eq (by constructor)) kn5 rfl (by exact trivial) (sx) (by exact sz5.symm) (put_in (by first | exact put_mat | exact put_tab | exact put_alg0 | exact put_pr0 | exact put_pr1 | exact put_pr2 | exact put_tn4 | exact put_grp0 | exact put_grp1 | exact put_alg1 | exact put_alg2 | exact put_alg3 | exact put_alg3i | exact put_alg2ij | exact put_alg2ijk | exact put_mat2 | exact put_tab2 | exact put_tab3)) ?_ | refine w_store rfl (HV.eq (by constructor)) kn5 rfl (by exact trivial) (by exact trivial) (by exact sz5.symm) rfl ?_
      exact hRR
    apply lr tokTB (by kernel_rfl)
    · intro RR hRR
      refine w_move (by constructor) ?_
      refine y_add rfl rfl ?_
      refine w_assign (by constructor) ?_
      exact hRR
    refine ⟨k + 1, ρ0, ?_, (by omega), (by dsimp only; omega)⟩
    exact ⟨⟨(mi), ⟨rfl, rfl, rfl, rfl, rfl⟩, (mt_rowsW (V := _) (fun _ _ _ _ => rfl)), ⟨rfl, rfl, rfl, rfl, rfl⟩, ⟨rfl, rfl, rfl, rfl, rfl⟩, (mi), trivial⟩, ⟨⟨rfl, (sx), (by first | exact mt_vec (fun _ _ => rfl) | exact mt_mat (fun _ _ _ _ => rfl) | exact mt_tab (fun _ _ _ _ _ _ => rfl) | exact mt_arr0 | exact mt_app (fun _ _ => rfl) rfl | exact ⟨rfl, fun _ _ => mt_row (fun _ _ => rfl)⟩ | exact Mt_closed (V := _) closed_alg (fun _ _ _ => trivial) (by simp))⟩, ⟨rfl, (sx), (by exact mt_vec (fun _ _ => rfl))⟩, ⟨rfl, (sx), (by exact mt_vec (fun z _ => by rw [← upd_cut]; unfold SVF; rw [← hcf]; exact rfl))⟩, trivial⟩, ⟨⟨(fun h => by first | exact ⟨rfl, rfl⟩ | exact absurd h (by decide)), (fun h => by first | exact ⟨rfl, rfl⟩ | exact absurd h (by decide)), (fun h => by first | exact ⟨rfl, rfl⟩ | exact absurd h (by decide)), trivial⟩, ⟨(fun h => by first | exact ⟨rfl, rfl⟩ | exact absurd h (by decide)), (fun h => by first | exact ⟨rfl, rfl⟩ | exact absurd h (by decide)), (fun h => by first | exact ⟨rfl, rfl⟩ | exact absurd h (by decide)), trivial⟩, ⟨(fun h => by first | exact ⟨rfl, rfl⟩ | exact absurd h (by decide)), (fun h => by first | exact ⟨rfl, rfl⟩ | exact absurd h (by decide)), (fun h => by first | exact ⟨rfl, rfl⟩ | exact absurd h (by decide)), trivial⟩, trivial⟩⟩
  · try simp only [hcs] at hc26
    have ge_k : (ccN n G) = k := by omega
    subst ge_k
    refine snd_exit ?_
    apply sr tokTB (by kernel_rfl)
    · intro RR hRR
      refine w_ldp rfl kn25 rfl (by constructor) (by exact sz25.symm) (by exact ag25.symm) ?_
      refine w_stw rfl (by constructor) kn25 rfl (by exact trivial) (sx) (by exact sz25.symm) ?_
      refine w_assign (by constructor) ?_
      exact hRR
    refine snd_ret ?_
    show retQ TB _ _ _ _ _ _
    exact rt_ct (T := TB) rfl kn25 rfl sz25.symm ag25.symm (fun V => mt_vec (fun z _ => rfl)) (fun V => rfl)
theorem c_sSquareVector_pr {n : Nat} {G : Nat → Nat → Nat} (hG : RG G) (h : GN n G) {p : Int} (hp : primeB p = false) : ACalls Try.prog TB 17 [.int .i64 p, grpA (n : Int) G] (.tup 2 (pairA (vecA (fun _ => 0)) (.int .i64 2))) [] := by
  have hcl := closed_cgrp (n := (n : Int)) (G := G)
  have hcl2 := closed_grp (n := (n : Int)) (G := G)
  refine acalls_of tokTB Try.func17 rfl rfl (Nat.le_of_ble_eq_true rfl) ?_
  apply sr tokTB (by kernel_rfl)
  · intro RR hRR
    refine w_boxc (HV.eq (by constructor)) (by exact trivial) ?_
    refine w_alloc kn25 rfl zr25 ?_
    refine w_assign (by constructor) ?_
    exact hRR
  refine snd_seq ?_
  apply sr tokTB (by kernel_rfl)
  · intro RR hRR
    refine w_move (by constructor) ?_
    refine w_ldc rfl kn38 (by constructor) (by exact sz38.symm) (by exact ag38.symm) ?_
    refine y_call rfl (ec (exc exp_grp exn)) (c_l06Code_pr hG h hp) ?_
    refine w_assign (by constructor) ?_
    exact hRR
  apply sr tokTB (by kernel_rfl)
  · intro RR hRR
    refine w_move (by constructor) ?_
    refine w_neq rfl rfl ?_
    exact hRR
  refine snd_cond_true rfl ?_
  apply sr tokTB (by kernel_rfl)
  · intro RR hRR
    refine w_bld_a kn25 zr25 und25 kn5 (fun _ => (by exact sz5.symm)) trivial rfl (by exact sz5.symm) ?_
    refine w_move (by constructor) ?_
    refine w_stw rfl (by constructor) kn25 rfl (by exact trivial) (sx) (by exact sz25.symm) ?_
    refine w_assign (by constructor) ?_
    exact hRR
  refine snd_ret ?_
  show retQ TB _ _ _ _ _ _
  exact rt_ct (T := TB) rfl kn25 rfl sz25.symm ag25.symm (fun V => mt_vec (fun z _ => rfl)) (fun V => rfl)
theorem c_sSquareVector_no {n : Int} {G : Nat → Nat → Nat} (hG : RG G) {p : Int} (h : ¬ GZ n G) : ACalls Try.prog TB 17 [.int .i64 p, grpA n G] (.tup 2 (pairA (vecA (fun _ => 0)) (.int .i64 1))) [] := by
  have hcl2 := closed_grp (n := n) (G := G)
  refine acalls_of tokTB Try.func17 rfl rfl (Nat.le_of_ble_eq_true rfl) ?_
  apply sr tokTB (by kernel_rfl)
  · intro RR hRR
    refine w_boxc (HV.eq (by constructor)) (by exact trivial) ?_
    refine w_alloc kn25 rfl zr25 ?_
    refine w_assign (by constructor) ?_
    exact hRR
  refine snd_seq ?_
  apply sr tokTB (by kernel_rfl)
  · intro RR hRR
    refine w_move (by constructor) ?_
    refine w_ldc rfl kn38 (by constructor) (by exact sz38.symm) (by exact ag38.symm) ?_
    refine y_call rfl (ec (exc exp_grp exn)) (c_l06Code_no hG h) ?_
    refine w_assign (by constructor) ?_
    exact hRR
  apply sr tokTB (by kernel_rfl)
  · intro RR hRR
    refine w_move (by constructor) ?_
    refine w_neq rfl rfl ?_
    exact hRR
  refine snd_cond_true rfl ?_
  apply sr tokTB (by kernel_rfl)
  · intro RR hRR
    refine w_bld_a kn25 zr25 und25 kn5 (fun _ => (by exact sz5.symm)) trivial rfl (by exact sz5.symm) ?_
    refine w_move (by constructor) ?_
    refine w_stw rfl (by constructor) kn25 rfl (by exact trivial) (sx) (by exact sz25.symm) ?_
    refine w_assign (by constructor) ?_
    exact hRR
  refine snd_ret ?_
  show retQ TB _ _ _ _ _ _
  exact rt_ct (T := TB) rfl kn25 rfl sz25.symm ag25.symm (fun V => mt_vec (fun z _ => rfl)) (fun V => rfl)
theorem lSquareVector_ok {n : Nat} {G : Nat → Nat → Nat} (hG : RG G) (h : GN n G) {p : Int} (hp : primeB p = true) : ACalls Try.prog TB 5 [.int .i64 p, grpA (n : Int) G] (.bool true) [] := by
  refine acalls_of tokTB Try.func5 rfl rfl (Nat.le_of_ble_eq_true rfl) ?_
  apply sr tokTB (by kernel_rfl)
  · intro RR hRR
    refine w_boxc (HV.eq (by constructor)) (by exact trivial) ?_
    refine w_assign (by constructor) ?_
    exact hRR
  apply sr tokTB (by kernel_rfl)
  · intro RR hRR
    refine w_move (by constructor) ?_
    refine w_ldc rfl kn34 (by constructor) (by exact sz34.symm) (by exact ag34.symm) ?_
    refine w_call0 rfl (exc exp_grp exn) (c_toGroup) nr_grp (fun _ => shift_grp) ?_
    refine y_call rfl (ec (exc exp_grp exn)) (c_sSquareVector_ok hG h hp) ?_
    refine w_move (by constructor) ?_
    refine w_ext rfl (by decide) (by constructor) ?_
    refine w_ext rfl (by decide) (by constructor) ?_
    refine w_alloc kn25 rfl zr25 ?_
    refine w_stw rfl (by constructor) kn25 rfl (by exact trivial) (sx) (by exact sz25.symm) ?_
    refine w_assign (by constructor) ?_
    exact hRR
  apply sr tokTB (by kernel_rfl)
  · intro RR hRR
    refine w_move (by constructor) ?_
    refine w_ldc rfl kn34 (by constructor) (by exact sz34.symm) (by exact ag34.symm) ?_
    refine w_call0 rfl (exc exp_grp exn) (c_toGroup) nr_grp (fun _ => shift_grp) ?_
    refine y_call rfl (ec (exc exp_grp exn)) (c_iSquareVector_ok hG h hp) ?_
    refine w_move (by constructor) ?_
    refine w_ext rfl (by decide) (by constructor) ?_
    refine w_ext rfl (by decide) (by constructor) ?_
    refine w_alloc kn25 rfl zr25 ?_
    refine w_stw rfl (by constructor) kn25 rfl (by exact trivial) (sx) (by exact sz25.symm) ?_
    refine w_assign (by constructor) ?_
    exact hRR
  refine snd_seq ?_
  apply srG (env' := (31, .bool ((!(decide (eqN 6 (cutF (SVF p n G) (ccN n G)) (cutF (SVF p n G) (ccN n G))))) || decide ((0 : Int) ≠ 0))) :: (30, .any) :: (29, .any) :: (28, .any) :: (27, _) :: (26, _) :: (25, _) :: (24, _) :: (23, _) :: _) tokTB (by kernel_rfl)
  · intro RR hRR
    refine w_ldp rfl kn25 rfl (by constructor) (by exact sz25.symm) (by exact ag25.symm) ?_
    refine w_ldp rfl kn25 rfl (by constructor) (by exact sz25.symm) (by exact ag25.symm) ?_
    refine y_call rfl (ec (ec exn)) (c_eqVector) ?_
    refine w_not rfl ?_
    refine w_move (by constructor) ?_
    refine w_g rfl rfl (fun hg4 => ?_) (fun hg4 => ?_)
    · skip
      refine w_move (by constructor) ?_
      refine w_g_on rfl rfl hg4 ?_
      refine w_move (by constructor) ?_
      refine w_g_on rfl rfl hg4 ?_
      refine w_neq rfl rfl ?_
      refine w_pick_0 rfl hg4 (by constructor) ?_
      try simp only [Int.toNat_natCast] at hg4
      exact hRR _ (EL.cons (.inr (by first | rfl | (simp only [hg4, els]; done) | (simp only [hg4, els]; rfl) | (simp [hg4]; done) | (clear hRR; simp_all; done))) (EL.cons (.inl rfl) (EL.cons (.inl rfl) (EL.cons (.inl rfl) (EL.cons (.inr rfl) (EL.cons (.inr rfl) (EL.cons (.inr rfl) (EL.cons (.inr rfl) (EL.cons (.inr rfl) (EL.refl _))))))))))
    · have hg4 := eq_true_of_ne_false hg4
      refine w_g_off rfl rfl (by rw [hg4]; decide) ?_
      refine w_g_off rfl rfl (by rw [hg4]; decide) ?_
      refine w_pick_1 rfl hg4 (by constructor) ?_
      try simp only [Int.toNat_natCast] at hg4
      exact hRR _ (EL.cons (.inr (by first | rfl | (simp only [hg4, els]; done) | (simp only [hg4, els]; rfl) | (simp [hg4]; done) | (clear hRR; simp_all; done))) (EL.cons (.inl rfl) (EL.cons (.inl rfl) (EL.cons (.inl rfl) (EL.cons (.inr rfl) (EL.cons (.inr rfl) (EL.cons (.inr rfl) (EL.cons (.inr rfl) (EL.cons (.inr rfl) (EL.refl _))))))))))
  refine snd_cond _ rfl (fun hc31 => ?_) (fun hc31 => ?_)
  · skip
    exact absurd hc31 (by simp [eqN])
  · skip
    refine snd_skip ?_
    apply sr tokTB (by kernel_rfl)
    · intro RR hRR
      refine w_assign (by constructor) ?_
      exact hRR
    refine snd_ret ?_
    exact rt (T := TB) (fun V => by first | exact m_bool rfl | exact m_int rfl)
theorem lSquareVector_pr {n : Nat} {G : Nat → Nat → Nat} (hG : RG G) (h : GN n G) {p : Int} (hp : primeB p = false) : ACalls Try.prog TB 5 [.int .i64 p, grpA (n : Int) G] (.bool true) [] := by
  refine acalls_of tokTB Try.func5 rfl rfl (Nat.le_of_ble_eq_true rfl) ?_
  apply sr tokTB (by kernel_rfl)
  · intro RR hRR
    refine w_boxc (HV.eq (by constructor)) (by exact trivial) ?_
    refine w_assign (by constructor) ?_
    exact hRR
  apply sr tokTB (by kernel_rfl)
  · intro RR hRR
    refine w_move (by constructor) ?_
    refine w_ldc rfl kn34 (by constructor) (by exact sz34.symm) (by exact ag34.symm) ?_
    refine w_call0 rfl (exc exp_grp exn) (c_toGroup) nr_grp (fun _ => shift_grp) ?_
    refine y_call rfl (ec (exc exp_grp exn)) (c_sSquareVector_pr hG h hp) ?_
    refine w_move (by constructor) ?_
    refine w_ext rfl (by decide) (by constructor) ?_
    refine w_ext rfl (by decide) (by constructor) ?_
    refine w_alloc kn25 rfl zr25 ?_
    refine w_stw rfl (by constructor) kn25 rfl (by exact trivial) (sx) (by exact sz25.symm) ?_
    refine w_assign (by constructor) ?_
    exact hRR
  apply sr tokTB (by kernel_rfl)
  · intro RR hRR
    refine w_move (by constructor) ?_
    refine w_ldc rfl kn34 (by constructor) (by exact sz34.symm) (by exact ag34.symm) ?_
    refine w_call0 rfl (exc exp_grp exn) (c_toGroup) nr_grp (fun _ => shift_grp) ?_
    refine y_call rfl (ec (exc exp_grp exn)) (c_iSquareVector_pr hG h hp) ?_
    refine w_move (by constructor) ?_
    refine w_ext rfl (by decide) (by constructor) ?_
    refine w_ext rfl (by decide) (by constructor) ?_
    refine w_alloc kn25 rfl zr25 ?_
    refine w_stw rfl (by constructor) kn25 rfl (by exact trivial) (sx) (by exact sz25.symm) ?_
    refine w_assign (by constructor) ?_
    exact hRR
  refine snd_seq ?_
  apply srG (env' := (31, .bool ((!(decide (eqN 6 (fun _ => 0) (fun _ => 0)))) || decide ((2 : Int) ≠ 2))) :: (30, .any) :: (29, .any) :: (28, .any) :: (27, _) :: (26, _) :: (25, _) :: (24, _) :: (23, _) :: _) tokTB (by kernel_rfl)
  · intro RR hRR
    refine w_ldp rfl kn25 rfl (by constructor) (by exact sz25.symm) (by exact ag25.symm) ?_
    refine w_ldp rfl kn25 rfl (by constructor) (by exact sz25.symm) (by exact ag25.symm) ?_
    refine y_call rfl (ec (ec exn)) (c_eqVector) ?_
    refine w_not rfl ?_
    refine w_move (by constructor) ?_
    refine w_g rfl rfl (fun hg4 => ?_) (fun hg4 => ?_)
    · skip
      refine w_move (by constructor) ?_
      refine w_g_on rfl rfl hg4 ?_
      refine w_move (by constructor) ?_
      refine w_g_on rfl rfl hg4 ?_
      refine w_neq rfl rfl ?_
      refine w_pick_0 rfl hg4 (by constructor) ?_
      try simp only [Int.toNat_natCast] at hg4
      exact hRR _ (EL.cons (.inr (by first | rfl | (simp only [hg4, els]; done) | (simp only [hg4, els]; rfl) | (simp [hg4]; done) | (clear hRR; simp_all; done))) (EL.cons (.inl rfl) (EL.cons (.inl rfl) (EL.cons (.inl rfl) (EL.cons (.inr rfl) (EL.cons (.inr rfl) (EL.cons (.inr rfl) (EL.cons (.inr rfl) (EL.cons (.inr rfl) (EL.refl _))))))))))
    · have hg4 := eq_true_of_ne_false hg4
      refine w_g_off rfl rfl (by rw [hg4]; decide) ?_
      refine w_g_off rfl rfl (by rw [hg4]; decide) ?_
      refine w_pick_1 rfl hg4 (by constructor) ?_
      try simp only [Int.toNat_natCast] at hg4
      exact hRR _ (EL.cons (.inr (by first | rfl | (simp only [hg4, els]; done) | (simp only [hg4, els]; rfl) | (simp [hg4]; done) | (clear hRR; simp_all; done))) (EL.cons (.inl rfl) (EL.cons (.inl rfl) (EL.cons (.inl rfl) (EL.cons (.inr rfl) (EL.cons (.inr rfl) (EL.cons (.inr rfl) (EL.cons (.inr rfl) (EL.cons (.inr rfl) (EL.refl _))))))))))
  refine snd_cond _ rfl (fun hc31 => ?_) (fun hc31 => ?_)
  · skip
    exact absurd hc31 (by simp [eqN])
  · skip
    refine snd_skip ?_
    apply sr tokTB (by kernel_rfl)
    · intro RR hRR
      refine w_assign (by constructor) ?_
      exact hRR
    refine snd_ret ?_
    exact rt (T := TB) (fun V => by first | exact m_bool rfl | exact m_int rfl)
theorem lSquareVector_no {n : Int} {G : Nat → Nat → Nat} (hG : RG G) {p : Int} (h : ¬ GZ n G) : ACalls Try.prog TB 5 [.int .i64 p, grpA n G] (.bool true) [] := by
  refine acalls_of tokTB Try.func5 rfl rfl (Nat.le_of_ble_eq_true rfl) ?_
  apply sr tokTB (by kernel_rfl)
  · intro RR hRR
    refine w_boxc (HV.eq (by constructor)) (by exact trivial) ?_
    refine w_assign (by constructor) ?_
    exact hRR
  apply sr tokTB (by kernel_rfl)
  · intro RR hRR
    refine w_move (by constructor) ?_
    refine w_ldc rfl kn34 (by constructor) (by exact sz34.symm) (by exact ag34.symm) ?_
    refine w_call0 rfl (exc exp_grp exn) (c_toGroup) nr_grp (fun _ => shift_grp) ?_
    refine y_call rfl (ec (exc exp_grp exn)) (c_sSquareVector_no hG h) ?_
    refine w_move (by constructor) ?_
    refine w_ext rfl (by decide) (by constructor) ?_
    refine w_ext rfl (by decide) (by constructor) ?_
    refine w_alloc kn25 rfl zr25 ?_
    refine w_stw rfl (by constructor) kn25 rfl (by exact trivial) (sx) (by exact sz25.symm) ?_
    refine w_assign (by constructor) ?_
    exact hRR
  apply sr tokTB (by kernel_rfl)
  · intro RR hRR
    refine w_move (by constructor) ?_
    refine w_ldc rfl kn34 (by constructor) (by exact sz34.symm) (by exact ag34.symm) ?_
    refine w_call0 rfl (exc exp_grp exn) (c_toGroup) nr_grp (fun _ => shift_grp) ?_
    refine y_call rfl (ec (exc exp_grp exn)) (c_iSquareVector_no hG h) ?_
    refine w_move (by constructor) ?_
    refine w_ext rfl (by decide) (by constructor) ?_
    refine w_ext rfl (by decide) (by constructor) ?_
    refine w_alloc kn25 rfl zr25 ?_
    refine w_stw rfl (by constructor) kn25 rfl (by exact trivial) (sx) (by exact sz25.symm) ?_
    refine w_assign (by constructor) ?_
    exact hRR
  refine snd_seq ?_
  apply srG (env' := (31, .bool ((!(decide (eqN 6 (fun _ => 0) (fun _ => 0)))) || decide ((1 : Int) ≠ 1))) :: (30, .any) :: (29, .any) :: (28, .any) :: (27, _) :: (26, _) :: (25, _) :: (24, _) :: (23, _) :: _) tokTB (by kernel_rfl)
  · intro RR hRR
    refine w_ldp rfl kn25 rfl (by constructor) (by exact sz25.symm) (by exact ag25.symm) ?_
    refine w_ldp rfl kn25 rfl (by constructor) (by exact sz25.symm) (by exact ag25.symm) ?_
    refine y_call rfl (ec (ec exn)) (c_eqVector) ?_
    refine w_not rfl ?_
    refine w_move (by constructor) ?_
    refine w_g rfl rfl (fun hg4 => ?_) (fun hg4 => ?_)
    · skip
      refine w_move (by constructor) ?_
      refine w_g_on rfl rfl hg4 ?_
      refine w_move (by constructor) ?_
      refine w_g_on rfl rfl hg4 ?_
      refine w_neq rfl rfl ?_
      refine w_pick_0 rfl hg4 (by constructor) ?_
      try simp only [Int.toNat_natCast] at hg4
      exact hRR _ (EL.cons (.inr (by first | rfl | (simp only [hg4, els]; done) | (simp only [hg4, els]; rfl) | (simp [hg4]; done) | (clear hRR; simp_all; done))) (EL.cons (.inl rfl) (EL.cons (.inl rfl) (EL.cons (.inl rfl) (EL.cons (.inr rfl) (EL.cons (.inr rfl) (EL.cons (.inr rfl) (EL.cons (.inr rfl) (EL.cons (.inr rfl) (EL.refl _))))))))))
    · have hg4 := eq_true_of_ne_false hg4
      refine w_g_off rfl rfl (by rw [hg4]; decide) ?_
      refine w_g_off rfl rfl (by rw [hg4]; decide) ?_
      refine w_pick_1 rfl hg4 (by constructor) ?_
      try simp only [Int.toNat_natCast] at hg4
      exact hRR _ (EL.cons (.inr (by first | rfl | (simp only [hg4, els]; done) | (simp only [hg4, els]; rfl) | (simp [hg4]; done) | (clear hRR; simp_all; done))) (EL.cons (.inl rfl) (EL.cons (.inl rfl) (EL.cons (.inl rfl) (EL.cons (.inr rfl) (EL.cons (.inr rfl) (EL.cons (.inr rfl) (EL.cons (.inr rfl) (EL.cons (.inr rfl) (EL.refl _))))))))))
  refine snd_cond _ rfl (fun hc31 => ?_) (fun hc31 => ?_)
  · skip
    exact absurd hc31 (by simp [eqN])
  · skip
    refine snd_skip ?_
    apply sr tokTB (by kernel_rfl)
    · intro RR hRR
      refine w_assign (by constructor) ?_
      exact hRR
    refine snd_ret ?_
    exact rt (T := TB) (fun V => by first | exact m_bool rfl | exact m_int rfl)
theorem law_SquareVector (p : Int) {n : Int} {G : Nat → Nat → Nat} (hG : RG G) : ACalls Try.prog TB 5 [.int .i64 p, grpA n G] (.bool true) [] := by
  by_cases h : GZ n G
  · obtain ⟨m, rfl, hm⟩ := GZ_of h
    cases hp : primeB p with
    | true => exact lSquareVector_ok hG hm hp
    | false => exact lSquareVector_pr hG hm hp
  · exact lSquareVector_no hG h
end Go.Am

