/- Part 4 of what the law stands on: abstract values, their walk, contracts of functions. My own work. Conditions: none. -/
import Derived.Test.YtndlghhhkgjohaaPart3
set_option linter.unusedVariables false
set_option linter.unusedSimpArgs false
set_option maxRecDepth 4000
namespace Go.Am
attribute [local irreducible] retQ retQp
open Go.Proofs
theorem c_classAlgebra {n : Nat} {G : Nat → Nat → Nat} (hG : RG G) (h : GN n G) {p : Int} (hp : primeB p = true) : ACalls Try.prog TB 49 [.cptr (grpA (n : Int) G), .int .i64 p] (algA p (((ccN n G) : Nat) : Int) (fillT3 (ccN n G) (caT p n G) ((ccN n G)) (0) (0)) (eF 0)) [] := by
  have hcl := closed_cgrp (n := (n : Int)) (G := G)
  have hcl2 := closed_grp (n := (n : Int)) (G := G)
  have hn6 := h.n6
  have hpb := primeB_bd hp
  have hc6 := h.cle
  refine acalls_of tokTB Try.func49 rfl rfl (Nat.le_of_ble_eq_true rfl) ?_
  apply sr tokTB (by kernel_rfl)
  · intro RR hRR
    refine w_alloc kn27 rfl zr27 ?_
    exact hRR
  apply sr tokTB (by kernel_rfl)
  · intro RR hRR
    refine w_move (by constructor) ?_
    refine w_callc rfl (exc exp_cgrp exn) (famW_cl (c_classes hG h)) (by exact closed_rowsW) (by exact ⟨closed_cgrp, trivial⟩) ?_
    refine w_assign (by constructor) ?_
    exact hRR
  apply sr tokTB (by kernel_rfl)
  · intro RR hRR
    refine w_move (by constructor) ?_
    refine w_move (by constructor) ?_
    first | refine w_len_r rfl rfl und35 ?_ | refine w_len_o rfl rfl und35 ?_ | refine w_len_n rfl rfl und35 ?_
    refine w_bld_a kn25 zr25 und25 kn5 (fun _ => (by exact sz5.symm)) (by exact ⟨⟨by decide, trivial, sz5.symm⟩, trivial⟩) rfl (by exact sz5.symm) ?_
    refine w_bld_s kn27 zr27 und27 rfl (by exact ⟨rfl, kn2, sz2, rfl, kn2, sz2, rfl, kn24, sz24, rfl, kn25, sz25, trivial⟩) (by exact ⟨⟨by decide, trivial, rfl⟩, ⟨by decide, trivial, rfl⟩, ⟨by decide, trivial, rfl⟩, trivial⟩) (c := algF p (((ccN n G) : Nat) : Int) (fun _ _ _ => 0) (eF 0)) (funext fun i => by match i with | 0 => rfl | 1 => rfl | 2 => rfl | 3 => exact congrArg (AV.arr 6) (funext fun z => by match z with | 0 => rfl | z + 1 => rfl) | i + 4 => rfl) ?_
    refine w_alloc kn27 rfl zr27 ?_
    refine w_stw rfl (by constructor) kn27 rfl (by exact trivial) (sx) (by exact sz27.symm) ?_
    exact hRR
  refine snd_seq ?_
  apply sr tokTB (by kernel_rfl)
  · intro RR hRR
    refine w_move (by constructor) ?_
    first | refine w_len_r rfl rfl und35 ?_ | refine w_len_o rfl rfl und35 ?_ | refine w_len_n rfl rfl und35 ?_
    refine w_move (by constructor) ?_
    exact hRR
  refine snd_block ?_
  refine snd_loop (S := Nat) (fun i => ([(0, .cptr (grpA (n : Int) G)), (1, .int .i64 p), (4, .ptr 4 0 [] 0 (algA 0 0 (fun _ _ _ => 0) (fun _ => 0))), (5, rowsW (ccN n G) (ccW n G) (ccF n G)), (6, .ptr 6 0 [] 0 (algA 0 0 (fun _ _ _ => 0) (fun _ => 0))), (25, rowsW (ccN n G) (ccW n G) (ccF n G)), (26, .int .i64 (((ccN n G) : Nat) : Int)), (27, .int .i64 (i : Int))], [(4, .one (algA 0 0 (fun _ _ _ => 0) (fun _ => 0)) (algA 0 0 (fun _ _ _ => 0) (fun _ => 0))), (6, .one (algA 0 0 (fun _ _ _ => 0) (fun _ => 0)) (algA p (((ccN n G) : Nat) : Int) (fillT3 (ccN n G) (caT p n G) (i) (0) (0)) (eF 0)))])) (fun i => i ≤ (ccN n G)) (fun i => (ccN n G) - i) (0) ρ0 ?_ ?_ ?_
  · exact ⟨⟨m_cgrp, (mi), ⟨rfl, rfl, rfl, rfl, rfl⟩, (mt_rowsW (V := _) (fun _ _ _ _ => rfl)), ⟨rfl, rfl, rfl, rfl, rfl⟩, (mt_rowsW (V := _) (fun _ _ _ _ => rfl)), (mi), (mi), trivial⟩, ⟨⟨rfl, (sx), (by first | exact mt_vec (fun _ _ => rfl) | exact mt_mat (fun _ _ _ _ => rfl) | exact mt_tab (fun _ _ _ _ _ _ => rfl) | exact mt_arr0 | exact mt_app (fun _ _ => rfl) rfl | exact ⟨rfl, fun _ _ => mt_row (fun _ _ => rfl)⟩ | exact Mt_closed (V := _) closed_alg (fun _ _ _ => trivial) (by simp))⟩, ⟨rfl, (sx), (by exact mt_alg rfl rfl (fun a b c _ _ _ => fillT3_0.symm) (fun a ha => by match a, ha with | 0, _ => rfl | 1, _ => rfl | 2, _ => rfl | 3, _ => rfl | 4, _ => rfl | 5, _ => rfl))⟩, trivial⟩, ⟨⟨(fun h => by first | exact ⟨rfl, rfl⟩ | exact absurd h (by decide)), (fun h => by first | exact ⟨rfl, rfl⟩ | exact absurd h (by decide)), trivial⟩, ⟨(fun h => by first | exact ⟨rfl, rfl⟩ | exact absurd h (by decide)), (fun h => by first | exact ⟨rfl, rfl⟩ | exact absurd h (by decide)), trivial⟩, trivial⟩⟩
  · exact Nat.zero_le _
  intro i hi0
  refine sq (env2 := [(0, .cptr (grpA (n : Int) G)), (1, .int .i64 p), (4, .ptr 4 0 [] 0 (algA 0 0 (fun _ _ _ => 0) (fun _ => 0))), (5, rowsW (ccN n G) (ccW n G) (ccF n G)), (6, .ptr 6 0 [] 0 (algA 0 0 (fun _ _ _ => 0) (fun _ => 0))), (25, rowsW (ccN n G) (ccW n G) (ccF n G)), (26, .int .i64 (((ccN n G) : Nat) : Int)), (27, .int .i64 (i : Int))]) (ol2 := [(4, .one (algA 0 0 (fun _ _ _ => 0) (fun _ => 0)) (algA 0 0 (fun _ _ _ => 0) (fun _ => 0))), (6, .one (algA 0 0 (fun _ _ _ => 0) (fun _ => 0)) (algA p (((ccN n G) : Nat) : Int) (fillT3 (ccN n G) (caT p n G) (i) (0) (0)) (eF 0)))]) rfl rfl ?_
  apply sr tokTB (by kernel_rfl)
  · intro RR hRR
    refine w_lss rfl rfl ?_
    exact hRR
  refine snd_seq ?_
  refine snd_cond _ rfl (fun hc28 => ?_) (fun hc28 => ?_)
  · try simp only [hcs] at hc28
    have lt_i : i < (ccN n G) := by omega
    refine snd_skip ?_
    refine snd_seq ?_
    refine snd_block ?_
    apply sr tokTB (by kernel_rfl)
    · intro RR hRR
      refine w_move (by constructor) ?_
      refine w_iar rfl rfl und35 kn62 (by exact sz62.symm) ?_ rfl ?_
      · exact ⟨by omega, by omega⟩
      first | refine w_ldc rfl kn62 (by constructor) (by exact sz62.symm) (by exact ag62.symm) ?_ | refine w_ldp rfl kn62 rfl (by constructor) (by exact sz62.symm) (by exact ag62.symm) ?_
      refine w_assign (by constructor) ?_
      refine w_assign (by constructor) ?_
      exact hRR
    apply sr tokTB (by kernel_rfl)
    · intro RR hRR
      refine w_move (by constructor) ?_
      first | refine w_len_r rfl rfl und35 ?_ | refine w_len_o rfl rfl und35 ?_ | refine w_len_n rfl rfl und35 ?_
      refine w_move (by constructor) ?_
      exact hRR
    refine snd_block ?_
    refine snd_loop (S := Nat) (fun j => ([(0, .cptr (grpA (n : Int) G)), (1, .int .i64 p), (4, .ptr 4 0 [] 0 (algA 0 0 (fun _ _ _ => 0) (fun _ => 0))), (5, rowsW (ccN n G) (ccW n G) (ccF n G)), (6, .ptr 6 0 [] 0 (algA 0 0 (fun _ _ _ => 0) (fun _ => 0))), (7, .int .i64 (i : Int)), (8, rowA (ccW n G i) (ccF n G i)), (25, rowsW (ccN n G) (ccW n G) (ccF n G)), (26, .int .i64 (((ccN n G) : Nat) : Int)), (27, .int .i64 (i : Int)), (32, rowsW (ccN n G) (ccW n G) (ccF n G)), (33, .int .i64 (((ccN n G) : Nat) : Int)), (34, .int .i64 (j : Int))], [(4, .one (algA 0 0 (fun _ _ _ => 0) (fun _ => 0)) (algA 0 0 (fun _ _ _ => 0) (fun _ => 0))), (6, .one (algA 0 0 (fun _ _ _ => 0) (fun _ => 0)) (algA p (((ccN n G) : Nat) : Int) (fillT3 (ccN n G) (caT p n G) (i) (j) (0)) (eF 0)))])) (fun j => j ≤ (ccN n G)) (fun j => (ccN n G) - j) (0) ρ0 ?_ ?_ ?_
    · exact ⟨⟨m_cgrp, (mi), ⟨rfl, rfl, rfl, rfl, rfl⟩, (mt_rowsW (V := _) (fun _ _ _ _ => rfl)), ⟨rfl, rfl, rfl, rfl, rfl⟩, (mi), (by first | exact mt_row (V := _) (fun _ _ => rfl) | exact mt_fz (by exact ⟨(ne_fst rfl), (ne_fst rfl), trivial⟩) rfl (fun _ _ => rfl)), (mt_rowsW (V := _) (fun _ _ _ _ => rfl)), (mi), (mi), (mt_rowsW (V := _) (fun _ _ _ _ => rfl)), (mi), (mi), trivial⟩, ⟨⟨rfl, (sx), (by first | exact mt_vec (fun _ _ => rfl) | exact mt_mat (fun _ _ _ _ => rfl) | exact mt_tab (fun _ _ _ _ _ _ => rfl) | exact mt_arr0 | exact mt_app (fun _ _ => rfl) rfl | exact ⟨rfl, fun _ _ => mt_row (fun _ _ => rfl)⟩ | exact Mt_closed (V := _) closed_alg (fun _ _ _ => trivial) (by simp))⟩, ⟨rfl, (sx), (by exact mt_alg rfl rfl (fun _ _ _ _ _ _ => rfl) (fun _ _ => rfl))⟩, trivial⟩, ⟨⟨(fun h => by first | exact ⟨rfl, rfl⟩ | exact absurd h (by decide)), (fun h => by first | exact ⟨rfl, rfl⟩ | exact absurd h (by decide)), trivial⟩, ⟨(fun h => by first | exact ⟨rfl, rfl⟩ | exact absurd h (by decide)), (fun h => by first | exact ⟨rfl, rfl⟩ | exact absurd h (by decide)), trivial⟩, trivial⟩⟩
    · exact Nat.zero_le _
    intro j hi2
    refine sq (env2 := [(0, .cptr (grpA (n : Int) G)), (1, .int .i64 p), (4, .ptr 4 0 [] 0 (algA 0 0 (fun _ _ _ => 0) (fun _ => 0))), (5, rowsW (ccN n G) (ccW n G) (ccF n G)), (6, .ptr 6 0 [] 0 (algA 0 0 (fun _ _ _ => 0) (fun _ => 0))), (7, .int .i64 (i : Int)), (8, rowA (ccW n G i) (ccF n G i)), (25, rowsW (ccN n G) (ccW n G) (ccF n G)), (26, .int .i64 (((ccN n G) : Nat) : Int)), (27, .int .i64 (i : Int)), (32, rowsW (ccN n G) (ccW n G) (ccF n G)), (33, .int .i64 (((ccN n G) : Nat) : Int)), (34, .int .i64 (j : Int))]) (ol2 := [(4, .one (algA 0 0 (fun _ _ _ => 0) (fun _ => 0)) (algA 0 0 (fun _ _ _ => 0) (fun _ => 0))), (6, .one (algA 0 0 (fun _ _ _ => 0) (fun _ => 0)) (algA p (((ccN n G) : Nat) : Int) (fillT3 (ccN n G) (caT p n G) (i) (j) (0)) (eF 0)))]) rfl rfl ?_
    apply sr tokTB (by kernel_rfl)
    · intro RR hRR
      refine w_lss rfl rfl ?_
      exact hRR
    refine snd_seq ?_
    refine snd_cond _ rfl (fun hc35 => ?_) (fun hc35 => ?_)
    · try simp only [hcs] at hc35
      have lt_j : j < (ccN n G) := by omega
      refine snd_skip ?_
      refine snd_seq ?_
      refine snd_block ?_
      apply sr tokTB (by kernel_rfl)
      · intro RR hRR
        refine w_move (by constructor) ?_
        refine w_iar rfl rfl und35 kn62 (by exact sz62.symm) ?_ rfl ?_
        · exact ⟨by omega, by omega⟩
        first | refine w_ldc rfl kn62 (by constructor) (by exact sz62.symm) (by exact ag62.symm) ?_ | refine w_ldp rfl kn62 rfl (by constructor) (by exact sz62.symm) (by exact ag62.symm) ?_
        refine w_assign (by constructor) ?_
        refine w_assign (by constructor) ?_
        exact hRR
      apply sr tokTB (by kernel_rfl)
      · intro RR hRR
        refine w_move (by constructor) ?_
        first | refine w_len_r rfl rfl und35 ?_ | refine w_len_o rfl rfl und35 ?_ | refine w_len_n rfl rfl und35 ?_
        refine w_move (by constructor) ?_
        exact hRR
      refine snd_block ?_
      refine snd_loop (S := Nat) (fun k => ([(0, .cptr (grpA (n : Int) G)), (1, .int .i64 p), (4, .ptr 4 0 [] 0 (algA 0 0 (fun _ _ _ => 0) (fun _ => 0))), (5, rowsW (ccN n G) (ccW n G) (ccF n G)), (6, .ptr 6 0 [] 0 (algA 0 0 (fun _ _ _ => 0) (fun _ => 0))), (7, .int .i64 (i : Int)), (8, rowA (ccW n G i) (ccF n G i)), (9, .int .i64 (j : Int)), (10, rowA (ccW n G j) (ccF n G j)), (25, rowsW (ccN n G) (ccW n G) (ccF n G)), (26, .int .i64 (((ccN n G) : Nat) : Int)), (27, .int .i64 (i : Int)), (32, rowsW (ccN n G) (ccW n G) (ccF n G)), (33, .int .i64 (((ccN n G) : Nat) : Int)), (34, .int .i64 (j : Int)), (39, rowsW (ccN n G) (ccW n G) (ccF n G)), (40, .int .i64 (((ccN n G) : Nat) : Int)), (41, .int .i64 (k : Int))], [(4, .one (algA 0 0 (fun _ _ _ => 0) (fun _ => 0)) (algA 0 0 (fun _ _ _ => 0) (fun _ => 0))), (6, .one (algA 0 0 (fun _ _ _ => 0) (fun _ => 0)) (algA p (((ccN n G) : Nat) : Int) (fillT3 (ccN n G) (caT p n G) (i) (j) (k)) (eF 0)))])) (fun k => k ≤ (ccN n G)) (fun k => (ccN n G) - k) (0) ρ0 ?_ ?_ ?_
      · exact ⟨⟨m_cgrp, (mi), ⟨rfl, rfl, rfl, rfl, rfl⟩, (mt_rowsW (V := _) (fun _ _ _ _ => rfl)), ⟨rfl, rfl, rfl, rfl, rfl⟩, (mi), (by first | exact mt_row (V := _) (fun _ _ => rfl) | exact mt_fz (by exact ⟨(ne_fst rfl), (ne_fst rfl), trivial⟩) rfl (fun _ _ => rfl)), (mi), (by first | exact mt_row (V := _) (fun _ _ => rfl) | exact mt_fz (by exact ⟨(ne_fst rfl), (ne_fst rfl), trivial⟩) rfl (fun _ _ => rfl)), (mt_rowsW (V := _) (fun _ _ _ _ => rfl)), (mi), (mi), (mt_rowsW (V := _) (fun _ _ _ _ => rfl)), (mi), (mi), (mt_rowsW (V := _) (fun _ _ _ _ => rfl)), (mi), (mi), trivial⟩, ⟨⟨rfl, (sx), (by first | exact mt_vec (fun _ _ => rfl) | exact mt_mat (fun _ _ _ _ => rfl) | exact mt_tab (fun _ _ _ _ _ _ => rfl) | exact mt_arr0 | exact mt_app (fun _ _ => rfl) rfl | exact ⟨rfl, fun _ _ => mt_row (fun _ _ => rfl)⟩ | exact Mt_closed (V := _) closed_alg (fun _ _ _ => trivial) (by simp))⟩, ⟨rfl, (sx), (by exact mt_alg rfl rfl (fun _ _ _ _ _ _ => rfl) (fun _ _ => rfl))⟩, trivial⟩, ⟨⟨(fun h => by first | exact ⟨rfl, rfl⟩ | exact absurd h (by decide)), (fun h => by first | exact ⟨rfl, rfl⟩ | exact absurd h (by decide)), trivial⟩, ⟨(fun h => by first | exact ⟨rfl, rfl⟩ | exact absurd h (by decide)), (fun h => by first | exact ⟨rfl, rfl⟩ | exact absurd h (by decide)), trivial⟩, trivial⟩⟩
      · exact Nat.zero_le _
      intro k hi4
      refine sq (env2 := [(0, .cptr (grpA (n : Int) G)), (1, .int .i64 p), (4, .ptr 4 0 [] 0 (algA 0 0 (fun _ _ _ => 0) (fun _ => 0))), (5, rowsW (ccN n G) (ccW n G) (ccF n G)), (6, .ptr 6 0 [] 0 (algA 0 0 (fun _ _ _ => 0) (fun _ => 0))), (7, .int .i64 (i : Int)), (8, rowA (ccW n G i) (ccF n G i)), (9, .int .i64 (j : Int)), (10, rowA (ccW n G j) (ccF n G j)), (25, rowsW (ccN n G) (ccW n G) (ccF n G)), (26, .int .i64 (((ccN n G) : Nat) : Int)), (27, .int .i64 (i : Int)), (32, rowsW (ccN n G) (ccW n G) (ccF n G)), (33, .int .i64 (((ccN n G) : Nat) : Int)), (34, .int .i64 (j : Int)), (39, rowsW (ccN n G) (ccW n G) (ccF n G)), (40, .int .i64 (((ccN n G) : Nat) : Int)), (41, .int .i64 (k : Int))]) (ol2 := [(4, .one (algA 0 0 (fun _ _ _ => 0) (fun _ => 0)) (algA 0 0 (fun _ _ _ => 0) (fun _ => 0))), (6, .one (algA 0 0 (fun _ _ _ => 0) (fun _ => 0)) (algA p (((ccN n G) : Nat) : Int) (fillT3 (ccN n G) (caT p n G) (i) (j) (k)) (eF 0)))]) rfl rfl ?_
      apply sr tokTB (by kernel_rfl)
      · intro RR hRR
        refine w_lss rfl rfl ?_
        exact hRR
      refine snd_seq ?_
      refine snd_cond _ rfl (fun hc42 => ?_) (fun hc42 => ?_)
      · try simp only [hcs] at hc42
        have lt_k : k < (ccN n G) := by omega
        have hcf := (h.rp lt_k).2.1
        refine snd_skip ?_
        refine snd_seq ?_
        refine snd_block ?_
        apply sr tokTB (by kernel_rfl)
        · intro RR hRR
          refine w_move (by constructor) ?_
          refine w_iar rfl rfl und35 kn62 (by exact sz62.symm) ?_ rfl ?_
          · exact ⟨by omega, by omega⟩
          first | refine w_ldc rfl kn62 (by constructor) (by exact sz62.symm) (by exact ag62.symm) ?_ | refine w_ldp rfl kn62 rfl (by constructor) (by exact sz62.symm) (by exact ag62.symm) ?_
          refine w_assign (by constructor) ?_
          refine w_assign (by constructor) ?_
          exact hRR
        apply sr tokTB (by kernel_rfl)
        · intro RR hRR
          refine w_assign (by constructor) ?_
          exact hRR
        refine snd_seq ?_
        apply sr tokTB (by kernel_rfl)
        · intro RR hRR
          refine w_move (by constructor) ?_
          refine w_len_r rfl rfl und62 ?_
          refine w_move (by constructor) ?_
          exact hRR
        refine snd_block ?_
        refine snd_loop (S := Nat) (fun x => ([(0, .cptr (grpA (n : Int) G)), (1, .int .i64 p), (4, .ptr 4 0 [] 0 (algA 0 0 (fun _ _ _ => 0) (fun _ => 0))), (5, rowsW (ccN n G) (ccW n G) (ccF n G)), (6, .ptr 6 0 [] 0 (algA 0 0 (fun _ _ _ => 0) (fun _ => 0))), (7, .int .i64 (i : Int)), (8, rowA (ccW n G i) (ccF n G i)), (9, .int .i64 (j : Int)), (10, rowA (ccW n G j) (ccF n G j)), (11, .int .i64 (k : Int)), (12, rowA (ccW n G k) (ccF n G k)), (13, .int .i64 ((caN n G i j k x : Nat) : Int)), (25, rowsW (ccN n G) (ccW n G) (ccF n G)), (26, .int .i64 (((ccN n G) : Nat) : Int)), (27, .int .i64 (i : Int)), (32, rowsW (ccN n G) (ccW n G) (ccF n G)), (33, .int .i64 (((ccN n G) : Nat) : Int)), (34, .int .i64 (j : Int)), (39, rowsW (ccN n G) (ccW n G) (ccF n G)), (40, .int .i64 (((ccN n G) : Nat) : Int)), (41, .int .i64 (k : Int)), (46, rowA (ccW n G i) (ccF n G i)), (47, .int .i64 (((ccW n G i) : Nat) : Int)), (48, .int .i64 (x : Int))], [(4, .one (algA 0 0 (fun _ _ _ => 0) (fun _ => 0)) (algA 0 0 (fun _ _ _ => 0) (fun _ => 0))), (6, .one (algA 0 0 (fun _ _ _ => 0) (fun _ => 0)) (algA p (((ccN n G) : Nat) : Int) (fillT3 (ccN n G) (caT p n G) (i) (j) (k)) (eF 0)))])) (fun x => x ≤ (ccW n G i)) (fun x => (ccW n G i) - x) (0) ρ0 ?_ ?_ ?_
        · exact ⟨⟨m_cgrp, (mi), ⟨rfl, rfl, rfl, rfl, rfl⟩, (mt_rowsW (V := _) (fun _ _ _ _ => rfl)), ⟨rfl, rfl, rfl, rfl, rfl⟩, (mi), (by first | exact mt_row (V := _) (fun _ _ => rfl) | exact mt_fz (by exact ⟨(ne_fst rfl), (ne_fst rfl), trivial⟩) rfl (fun _ _ => rfl)), (mi), (by first | exact mt_row (V := _) (fun _ _ => rfl) | exact mt_fz (by exact ⟨(ne_fst rfl), (ne_fst rfl), trivial⟩) rfl (fun _ _ => rfl)), (mi), (by first | exact mt_row (V := _) (fun _ _ => rfl) | exact mt_fz (by exact ⟨(ne_fst rfl), (ne_fst rfl), trivial⟩) rfl (fun _ _ => rfl)), (by exact m_int rfl), (mt_rowsW (V := _) (fun _ _ _ _ => rfl)), (mi), (mi), (mt_rowsW (V := _) (fun _ _ _ _ => rfl)), (mi), (mi), (mt_rowsW (V := _) (fun _ _ _ _ => rfl)), (mi), (mi), (by first | exact mt_row (V := _) (fun _ _ => rfl) | exact mt_fz (by exact ⟨(ne_fst rfl), (ne_fst rfl), trivial⟩) rfl (fun _ _ => rfl)), (mi), (mi), trivial⟩, ⟨⟨rfl, (sx), (by first | exact mt_vec (fun _ _ => rfl) | exact mt_mat (fun _ _ _ _ => rfl) | exact mt_tab (fun _ _ _ _ _ _ => rfl) | exact mt_arr0 | exact mt_app (fun _ _ => rfl) rfl | exact ⟨rfl, fun _ _ => mt_row (fun _ _ => rfl)⟩ | exact Mt_closed (V := _) closed_alg (fun _ _ _ => trivial) (by simp))⟩, ⟨rfl, (sx), (by first | exact mt_vec (fun _ _ => rfl) | exact mt_mat (fun _ _ _ _ => rfl) | exact mt_tab (fun _ _ _ _ _ _ => rfl) | exact mt_arr0 | exact mt_app (fun _ _ => rfl) rfl | exact ⟨rfl, fun _ _ => mt_row (fun _ _ => rfl)⟩ | exact Mt_closed (V := _) closed_alg (fun _ _ _ => trivial) (by simp))⟩, trivial⟩, ⟨⟨(fun h => by first | exact ⟨rfl, rfl⟩ | exact absurd h (by decide)), (fun h => by first | exact ⟨rfl, rfl⟩ | exact absurd h (by decide)), trivial⟩, ⟨(fun h => by first | exact ⟨rfl, rfl⟩ | exact absurd h (by decide)), (fun h => by first | exact ⟨rfl, rfl⟩ | exact absurd h (by decide)), trivial⟩, trivial⟩⟩
        · exact Nat.zero_le _
        intro x hi6
        refine sq (env2 := [(0, .cptr (grpA (n : Int) G)), (1, .int .i64 p), (4, .ptr 4 0 [] 0 (algA 0 0 (fun _ _ _ => 0) (fun _ => 0))), (5, rowsW (ccN n G) (ccW n G) (ccF n G)), (6, .ptr 6 0 [] 0 (algA 0 0 (fun _ _ _ => 0) (fun _ => 0))), (7, .int .i64 (i : Int)), (8, rowA (ccW n G i) (ccF n G i)), (9, .int .i64 (j : Int)), (10, rowA (ccW n G j) (ccF n G j)), (11, .int .i64 (k : Int)), (12, rowA (ccW n G k) (ccF n G k)), (13, .int .i64 ((caN n G i j k x : Nat) : Int)), (25, rowsW (ccN n G) (ccW n G) (ccF n G)), (26, .int .i64 (((ccN n G) : Nat) : Int)), (27, .int .i64 (i : Int)), (32, rowsW (ccN n G) (ccW n G) (ccF n G)), (33, .int .i64 (((ccN n G) : Nat) : Int)), (34, .int .i64 (j : Int)), (39, rowsW (ccN n G) (ccW n G) (ccF n G)), (40, .int .i64 (((ccN n G) : Nat) : Int)), (41, .int .i64 (k : Int)), (46, rowA (ccW n G i) (ccF n G i)), (47, .int .i64 (((ccW n G i) : Nat) : Int)), (48, .int .i64 (x : Int))]) (ol2 := [(4, .one (algA 0 0 (fun _ _ _ => 0) (fun _ => 0)) (algA 0 0 (fun _ _ _ => 0) (fun _ => 0))), (6, .one (algA 0 0 (fun _ _ _ => 0) (fun _ => 0)) (algA p (((ccN n G) : Nat) : Int) (fillT3 (ccN n G) (caT p n G) (i) (j) (k)) (eF 0)))]) rfl rfl ?_
        apply sr tokTB (by kernel_rfl)
        · intro RR hRR
          refine w_lss rfl rfl ?_
          exact hRR
        refine snd_seq ?_
        refine snd_cond _ rfl (fun hc49 => ?_) (fun hc49 => ?_)
        · try simp only [hcs] at hc49
          have lt_x : x < (ccW n G i) := by omega
          have hgx := h.ccC_lt lt_i lt_x
          have hwi : ccW n G i ≤ 6 := h.wle i
          refine snd_skip ?_
          refine snd_seq ?_
          refine snd_block ?_
          apply sr tokTB (by kernel_rfl)
          · intro RR hRR
            refine w_iar rfl rfl und62 kn2 (by exact sz2.symm) ?_ rfl ?_
            · exact ⟨by omega, by omega⟩
            first | refine w_ldc rfl kn2 (by constructor) (by exact sz2.symm) (by exact ag2.symm) ?_ | refine w_ldp rfl kn2 rfl (by constructor) (by exact sz2.symm) (by exact ag2.symm) ?_
            refine w_assign (by constructor) ?_
            exact hRR
          apply sr tokTB (by kernel_rfl)
          · intro RR hRR
            refine w_move (by constructor) ?_
            refine w_len_r rfl rfl und62 ?_
            refine w_move (by constructor) ?_
            exact hRR
          refine snd_block ?_
          refine snd_loop (S := Nat) (fun y => ([(0, .cptr (grpA (n : Int) G)), (1, .int .i64 p), (4, .ptr 4 0 [] 0 (algA 0 0 (fun _ _ _ => 0) (fun _ => 0))), (5, rowsW (ccN n G) (ccW n G) (ccF n G)), (6, .ptr 6 0 [] 0 (algA 0 0 (fun _ _ _ => 0) (fun _ => 0))), (7, .int .i64 (i : Int)), (8, rowA (ccW n G i) (ccF n G i)), (9, .int .i64 (j : Int)), (10, rowA (ccW n G j) (ccF n G j)), (11, .int .i64 (k : Int)), (12, rowA (ccW n G k) (ccF n G k)), (13, .int .i64 ((caN n G i j k x + cyN G (rpF n G k) (ccC n G i x) (ccC n G j) y : Nat) : Int)), (15, .int .i64 ((ccC n G i x : Nat) : Int)), (25, rowsW (ccN n G) (ccW n G) (ccF n G)), (26, .int .i64 (((ccN n G) : Nat) : Int)), (27, .int .i64 (i : Int)), (32, rowsW (ccN n G) (ccW n G) (ccF n G)), (33, .int .i64 (((ccN n G) : Nat) : Int)), (34, .int .i64 (j : Int)), (39, rowsW (ccN n G) (ccW n G) (ccF n G)), (40, .int .i64 (((ccN n G) : Nat) : Int)), (41, .int .i64 (k : Int)), (46, rowA (ccW n G i) (ccF n G i)), (47, .int .i64 (((ccW n G i) : Nat) : Int)), (48, .int .i64 (x : Int)), (52, rowA (ccW n G j) (ccF n G j)), (53, .int .i64 (((ccW n G j) : Nat) : Int)), (54, .int .i64 (y : Int))], [(4, .one (algA 0 0 (fun _ _ _ => 0) (fun _ => 0)) (algA 0 0 (fun _ _ _ => 0) (fun _ => 0))), (6, .one (algA 0 0 (fun _ _ _ => 0) (fun _ => 0)) (algA p (((ccN n G) : Nat) : Int) (fillT3 (ccN n G) (caT p n G) (i) (j) (k)) (eF 0)))])) (fun y => y ≤ (ccW n G j)) (fun y => (ccW n G j) - y) (0) ρ0 ?_ ?_ ?_
          · exact ⟨⟨m_cgrp, (mi), ⟨rfl, rfl, rfl, rfl, rfl⟩, (mt_rowsW (V := _) (fun _ _ _ _ => rfl)), ⟨rfl, rfl, rfl, rfl, rfl⟩, (mi), (by first | exact mt_row (V := _) (fun _ _ => rfl) | exact mt_fz (by exact ⟨(ne_fst rfl), (ne_fst rfl), trivial⟩) rfl (fun _ _ => rfl)), (mi), (by first | exact mt_row (V := _) (fun _ _ => rfl) | exact mt_fz (by exact ⟨(ne_fst rfl), (ne_fst rfl), trivial⟩) rfl (fun _ _ => rfl)), (mi), (by first | exact mt_row (V := _) (fun _ _ => rfl) | exact mt_fz (by exact ⟨(ne_fst rfl), (ne_fst rfl), trivial⟩) rfl (fun _ _ => rfl)), (by exact m_int rfl), (mi), (mt_rowsW (V := _) (fun _ _ _ _ => rfl)), (mi), (mi), (mt_rowsW (V := _) (fun _ _ _ _ => rfl)), (mi), (mi), (mt_rowsW (V := _) (fun _ _ _ _ => rfl)), (mi), (mi), (by first | exact mt_row (V := _) (fun _ _ => rfl) | exact mt_fz (by exact ⟨(ne_fst rfl), (ne_fst rfl), trivial⟩) rfl (fun _ _ => rfl)), (mi), (mi), (by first | exact mt_row (V := _) (fun _ _ => rfl) | exact mt_fz (by exact ⟨(ne_fst rfl), (ne_fst rfl), trivial⟩) rfl (fun _ _ => rfl)), (mi), (mi), trivial⟩, ⟨⟨rfl, (sx), (by first | exact mt_vec (fun _ _ => rfl) | exact mt_mat (fun _ _ _ _ => rfl) | exact mt_tab (fun _ _ _ _ _ _ => rfl) | exact mt_arr0 | exact mt_app (fun _ _ => rfl) rfl | exact ⟨rfl, fun _ _ => mt_row (fun _ _ => rfl)⟩ | exact Mt_closed (V := _) closed_alg (fun _ _ _ => trivial) (by simp))⟩, ⟨rfl, (sx), (by first | exact mt_vec (fun _ _ => rfl) | exact mt_mat (fun _ _ _ _ => rfl) | exact mt_tab (fun _ _ _ _ _ _ => rfl) | exact mt_arr0 | exact mt_app (fun _ _ => rfl) rfl | exact ⟨rfl, fun _ _ => mt_row (fun _ _ => rfl)⟩ | exact Mt_closed (V := _) closed_alg (fun _ _ _ => trivial) (by simp))⟩, trivial⟩, ⟨⟨(fun h => by first | exact ⟨rfl, rfl⟩ | exact absurd h (by decide)), (fun h => by first | exact ⟨rfl, rfl⟩ | exact absurd h (by decide)), trivial⟩, ⟨(fun h => by first | exact ⟨rfl, rfl⟩ | exact absurd h (by decide)), (fun h => by first | exact ⟨rfl, rfl⟩ | exact absurd h (by decide)), trivial⟩, trivial⟩⟩
          · exact Nat.zero_le _
          intro y hi8
          refine sq (env2 := [(0, .cptr (grpA (n : Int) G)), (1, .int .i64 p), (4, .ptr 4 0 [] 0 (algA 0 0 (fun _ _ _ => 0) (fun _ => 0))), (5, rowsW (ccN n G) (ccW n G) (ccF n G)), (6, .ptr 6 0 [] 0 (algA 0 0 (fun _ _ _ => 0) (fun _ => 0))), (7, .int .i64 (i : Int)), (8, rowA (ccW n G i) (ccF n G i)), (9, .int .i64 (j : Int)), (10, rowA (ccW n G j) (ccF n G j)), (11, .int .i64 (k : Int)), (12, rowA (ccW n G k) (ccF n G k)), (13, .int .i64 ((caN n G i j k x + cyN G (rpF n G k) (ccC n G i x) (ccC n G j) y : Nat) : Int)), (15, .int .i64 ((ccC n G i x : Nat) : Int)), (25, rowsW (ccN n G) (ccW n G) (ccF n G)), (26, .int .i64 (((ccN n G) : Nat) : Int)), (27, .int .i64 (i : Int)), (32, rowsW (ccN n G) (ccW n G) (ccF n G)), (33, .int .i64 (((ccN n G) : Nat) : Int)), (34, .int .i64 (j : Int)), (39, rowsW (ccN n G) (ccW n G) (ccF n G)), (40, .int .i64 (((ccN n G) : Nat) : Int)), (41, .int .i64 (k : Int)), (46, rowA (ccW n G i) (ccF n G i)), (47, .int .i64 (((ccW n G i) : Nat) : Int)), (48, .int .i64 (x : Int)), (52, rowA (ccW n G j) (ccF n G j)), (53, .int .i64 (((ccW n G j) : Nat) : Int)), (54, .int .i64 (y : Int))]) (ol2 := [(4, .one (algA 0 0 (fun _ _ _ => 0) (fun _ => 0)) (algA 0 0 (fun _ _ _ => 0) (fun _ => 0))), (6, .one (algA 0 0 (fun _ _ _ => 0) (fun _ => 0)) (algA p (((ccN n G) : Nat) : Int) (fillT3 (ccN n G) (caT p n G) (i) (j) (k)) (eF 0)))]) rfl rfl ?_
          apply sr tokTB (by kernel_rfl)
          · intro RR hRR
            refine w_lss rfl rfl ?_
            exact hRR
          refine snd_seq ?_
          refine snd_cond _ rfl (fun hc55 => ?_) (fun hc55 => ?_)
          · try simp only [hcs] at hc55
            have lt_y : y < (ccW n G j) := by omega
            have hgy := h.ccC_lt lt_j lt_y
            have hle := h.ca_le (i := i) (j := j) (k := k) (x := x) (Nat.le_of_lt lt_x)
            have hcy := cy_le (G := G) (rpF n G k) (ccC n G i x) (ccC n G j) y
            have hwj : ccW n G j ≤ 6 := h.wle j
            refine snd_skip ?_
            refine snd_seq ?_
            refine snd_block ?_
            apply sr tokTB (by kernel_rfl)
            · intro RR hRR
              refine w_iar rfl rfl und62 kn2 (by exact sz2.symm) ?_ rfl ?_
              · exact ⟨by omega, by omega⟩
              first | refine w_ldc rfl kn2 (by constructor) (by exact sz2.symm) (by exact ag2.symm) ?_ | refine w_ldp rfl kn2 rfl (by constructor) (by exact sz2.symm) (by exact ag2.symm) ?_
              refine w_assign (by constructor) ?_
              exact hRR
            apply sd tokTB mixed (by kernel_rfl) (by kernel_rfl)
            · intro RR hRR
              refine w_move (by constructor) ?_
              refine w_move (by constructor) ?_
              refine w_move (by constructor) ?_
              refine y_call rfl (exc exp_cgrp (ec (ec exn))) (c_gtimes (i := ccC n G i x) (j := ccC n G j y) hG (by omega) (by omega)) ?_
              refine w_move (by constructor) ?_
              refine w_iar rfl rfl und62 kn2 (by exact sz2.symm) ?_ rfl ?_
              · exact ⟨Int.le_refl _, (show (0 : Int) < ((clN n G (rpF n G k) : Nat) : Int) by have := (h.rp lt_k).2.2; omega)⟩
              first | refine w_ldc rfl kn2 (by constructor) (by exact sz2.symm) (by exact ag2.symm) ?_ | refine w_ldp rfl kn2 rfl (by constructor) (by exact sz2.symm) (by exact ag2.symm) ?_
              refine w_eql rfl rfl ?_
              exact hRR
            refine snd_cond _ rfl (fun hc65 => ?_) (fun hc65 => ?_)
            · skip
              have q : G (ccC n G i x) (ccC n G j y) = rpF n G k := by have q1 : ((G (ccC n G i x) (ccC n G j y) : Nat) : Int) = ((clF n G (rpF n G k) 0 : Nat) : Int) := of_decide_eq_true hc65; omega
              have hs := cy_t q
              apply lr tokTB (by kernel_rfl)
              · intro RR hRR
                refine w_move (by constructor) ?_
                refine y_add rfl rfl ?_
                refine w_assign (by constructor) ?_
                exact hRR
              apply lr tokTB (by kernel_rfl)
              · intro RR hRR
                refine y_add rfl rfl ?_
                refine w_move (by constructor) ?_
                exact hRR
              refine ⟨y + 1, ρ0, ?_, (by omega), (by dsimp only; omega)⟩
              exact ⟨⟨m_cgrp, (mi), ⟨rfl, rfl, rfl, rfl, rfl⟩, (mt_rowsW (V := _) (fun _ _ _ _ => rfl)), ⟨rfl, rfl, rfl, rfl, rfl⟩, (mi), (by first | exact mt_row (V := _) (fun _ _ => rfl) | exact mt_fz (by exact ⟨(ne_fst rfl), (ne_fst rfl), trivial⟩) rfl (fun _ _ => rfl)), (mi), (by first | exact mt_row (V := _) (fun _ _ => rfl) | exact mt_fz (by exact ⟨(ne_fst rfl), (ne_fst rfl), trivial⟩) rfl (fun _ _ => rfl)), (mi), (by first | exact mt_row (V := _) (fun _ _ => rfl) | exact mt_fz (by exact ⟨(ne_fst rfl), (ne_fst rfl), trivial⟩) rfl (fun _ _ => rfl)), (by exact m_int (by rw [hs]; omega)), (mi), (mt_rowsW (V := _) (fun _ _ _ _ => rfl)), (mi), (mi), (mt_rowsW (V := _) (fun _ _ _ _ => rfl)), (mi), (mi), (mt_rowsW (V := _) (fun _ _ _ _ => rfl)), (mi), (mi), (by first | exact mt_row (V := _) (fun _ _ => rfl) | exact mt_fz (by exact ⟨(ne_fst rfl), (ne_fst rfl), trivial⟩) rfl (fun _ _ => rfl)), (mi), (mi), (by first | exact mt_row (V := _) (fun _ _ => rfl) | exact mt_fz (by exact ⟨(ne_fst rfl), (ne_fst rfl), trivial⟩) rfl (fun _ _ => rfl)), (mi), (mi), trivial⟩, ⟨⟨rfl, (sx), (by first | exact mt_vec (fun _ _ => rfl) | exact mt_mat (fun _ _ _ _ => rfl) | exact mt_tab (fun _ _ _ _ _ _ => rfl) | exact mt_arr0 | exact mt_app (fun _ _ => rfl) rfl | exact ⟨rfl, fun _ _ => mt_row (fun _ _ => rfl)⟩ | exact Mt_closed (V := _) closed_alg (fun _ _ _ => trivial) (by simp))⟩, ⟨rfl, (sx), (by first | exact mt_vec (fun _ _ => rfl) | exact mt_mat (fun _ _ _ _ => rfl) | exact mt_tab (fun _ _ _ _ _ _ => rfl) | exact mt_arr0 | exact mt_app (fun _ _ => rfl) rfl | exact ⟨rfl, fun _ _ => mt_row (fun _ _ => rfl)⟩ | exact Mt_closed (V := _) closed_alg (fun _ _ _ => trivial) (by simp))⟩, trivial⟩, ⟨⟨(fun h => by first | exact ⟨rfl, rfl⟩ | exact absurd h (by decide)), (fun h => by first | exact ⟨rfl, rfl⟩ | exact absurd h (by decide)), trivial⟩, ⟨(fun h => by first | exact ⟨rfl, rfl⟩ | exact absurd h (by decide)), (fun h => by first | exact ⟨rfl, rfl⟩ | exact absurd h (by decide)), trivial⟩, trivial⟩⟩
            · skip
              have q : G (ccC n G i x) (ccC n G j y) ≠ rpF n G k := by have q1 : ¬ ((G (ccC n G i x) (ccC n G j y) : Nat) : Int) = ((clF n G (rpF n G k) 0 : Nat) : Int) := of_decide_eq_false hc65; omega
              have hs := cy_f q
              refine snd_skip ?_
              apply lr tokTB (by kernel_rfl)
              · intro RR hRR
                refine y_add rfl rfl ?_
                refine w_move (by constructor) ?_
                exact hRR
              refine ⟨y + 1, ρ0, ?_, (by omega), (by dsimp only; omega)⟩
              exact ⟨⟨m_cgrp, (mi), ⟨rfl, rfl, rfl, rfl, rfl⟩, (mt_rowsW (V := _) (fun _ _ _ _ => rfl)), ⟨rfl, rfl, rfl, rfl, rfl⟩, (mi), (by first | exact mt_row (V := _) (fun _ _ => rfl) | exact mt_fz (by exact ⟨(ne_fst rfl), (ne_fst rfl), trivial⟩) rfl (fun _ _ => rfl)), (mi), (by first | exact mt_row (V := _) (fun _ _ => rfl) | exact mt_fz (by exact ⟨(ne_fst rfl), (ne_fst rfl), trivial⟩) rfl (fun _ _ => rfl)), (mi), (by first | exact mt_row (V := _) (fun _ _ => rfl) | exact mt_fz (by exact ⟨(ne_fst rfl), (ne_fst rfl), trivial⟩) rfl (fun _ _ => rfl)), (by exact m_int (by rw [hs])), (mi), (mt_rowsW (V := _) (fun _ _ _ _ => rfl)), (mi), (mi), (mt_rowsW (V := _) (fun _ _ _ _ => rfl)), (mi), (mi), (mt_rowsW (V := _) (fun _ _ _ _ => rfl)), (mi), (mi), (by first | exact mt_row (V := _) (fun _ _ => rfl) | exact mt_fz (by exact ⟨(ne_fst rfl), (ne_fst rfl), trivial⟩) rfl (fun _ _ => rfl)), (mi), (mi), (by first | exact mt_row (V := _) (fun _ _ => rfl) | exact mt_fz (by exact ⟨(ne_fst rfl), (ne_fst rfl), trivial⟩) rfl (fun _ _ => rfl)), (mi), (mi), trivial⟩, ⟨⟨rfl, (sx), (by first | exact mt_vec (fun _ _ => rfl) | exact mt_mat (fun _ _ _ _ => rfl) | exact mt_tab (fun _ _ _ _ _ _ => rfl) | exact mt_arr0 | exact mt_app (fun _ _ => rfl) rfl | exact ⟨rfl, fun _ _ => mt_row (fun _ _ => rfl)⟩ | exact Mt_closed (V := _) closed_alg (fun _ _ _ => trivial) (by simp))⟩, ⟨rfl, (sx), (by first | exact mt_vec (fun _ _ => rfl) | exact mt_mat (fun _ _ _ _ => rfl) | exact mt_tab (fun _ _ _ _ _ _ => rfl) | exact mt_arr0 | exact mt_app (fun _ _ => rfl) rfl | exact ⟨rfl, fun _ _ => mt_row (fun _ _ => rfl)⟩ | exact Mt_closed (V := _) closed_alg (fun _ _ _ => trivial) (by simp))⟩, trivial⟩, ⟨⟨(fun h => by first | exact ⟨rfl, rfl⟩ | exact absurd h (by decide)), (fun h => by first | exact ⟨rfl, rfl⟩ | exact absurd h (by decide)), trivial⟩, ⟨(fun h => by first | exact ⟨rfl, rfl⟩ | exact absurd h (by decide)), (fun h => by first | exact ⟨rfl, rfl⟩ | exact absurd h (by decide)), trivial⟩, trivial⟩⟩
          · try simp only [hcs] at hc55
            have ge_y : (ccW n G j) = y := by omega
            subst ge_y
            refine snd_exit ?_
            apply lr tokTB (by kernel_rfl)
            · intro RR hRR
              refine y_add rfl rfl ?_
              refine w_move (by constructor) ?_
              exact hRR
            refine ⟨x + 1, ρ0, ?_, (by omega), (by dsimp only; omega)⟩
            exact ⟨⟨m_cgrp, (mi), ⟨rfl, rfl, rfl, rfl, rfl⟩, (mt_rowsW (V := _) (fun _ _ _ _ => rfl)), ⟨rfl, rfl, rfl, rfl, rfl⟩, (mi), (by first | exact mt_row (V := _) (fun _ _ => rfl) | exact mt_fz (by exact ⟨(ne_fst rfl), (ne_fst rfl), trivial⟩) rfl (fun _ _ => rfl)), (mi), (by first | exact mt_row (V := _) (fun _ _ => rfl) | exact mt_fz (by exact ⟨(ne_fst rfl), (ne_fst rfl), trivial⟩) rfl (fun _ _ => rfl)), (mi), (by first | exact mt_row (V := _) (fun _ _ => rfl) | exact mt_fz (by exact ⟨(ne_fst rfl), (ne_fst rfl), trivial⟩) rfl (fun _ _ => rfl)), (by exact m_int rfl), (mt_rowsW (V := _) (fun _ _ _ _ => rfl)), (mi), (mi), (mt_rowsW (V := _) (fun _ _ _ _ => rfl)), (mi), (mi), (mt_rowsW (V := _) (fun _ _ _ _ => rfl)), (mi), (mi), (by first | exact mt_row (V := _) (fun _ _ => rfl) | exact mt_fz (by exact ⟨(ne_fst rfl), (ne_fst rfl), trivial⟩) rfl (fun _ _ => rfl)), (mi), (mi), trivial⟩, ⟨⟨rfl, (sx), (by first | exact mt_vec (fun _ _ => rfl) | exact mt_mat (fun _ _ _ _ => rfl) | exact mt_tab (fun _ _ _ _ _ _ => rfl) | exact mt_arr0 | exact mt_app (fun _ _ => rfl) rfl | exact ⟨rfl, fun _ _ => mt_row (fun _ _ => rfl)⟩ | exact Mt_closed (V := _) closed_alg (fun _ _ _ => trivial) (by simp))⟩, ⟨rfl, (sx), (by first | exact mt_vec (fun _ _ => rfl) | exact mt_mat (fun _ _ _ _ => rfl) | exact mt_tab (fun _ _ _ _ _ _ => rfl) | exact mt_arr0 | exact mt_app (fun _ _ => rfl) rfl | exact ⟨rfl, fun _ _ => mt_row (fun _ _ => rfl)⟩ | exact Mt_closed (V := _) closed_alg (fun _ _ _ => trivial) (by simp))⟩, trivial⟩, ⟨⟨(fun h => by first | exact ⟨rfl, rfl⟩ | exact absurd h (by decide)), (fun h => by first | exact ⟨rfl, rfl⟩ | exact absurd h (by decide)), trivial⟩, ⟨(fun h => by first | exact ⟨rfl, rfl⟩ | exact absurd h (by decide)), (fun h => by first | exact ⟨rfl, rfl⟩ | exact absurd h (by decide)), trivial⟩, trivial⟩⟩
        · try simp only [hcs] at hc49
          have ge_x : (ccW n G i) = x := by omega
          subst ge_x
          refine snd_exit ?_
          apply ldX tokTB mixed [] (by kernel_rfl) (by kernel_rfl)
          · intro RR hRR
            show WOps _ _ _ _ _ _ _
            refine w_move (by constructor) ?_
            refine w_move (by constructor) ?_
            refine w_move (by constructor) ?_
            refine w_move (by constructor) ?_
            refine w_move (by constructor) ?_
            refine w_rem rfl rfl (by first | assumption | omega) ?_
            refine w_conv rfl und2 und5 (by exact w_cnt ⟨by omega, by omega⟩) ?_
            refine w_fap rfl und27 rfl kn24 nz24 rfl (by decide) rfl ?_
            first | refine w_iac rfl rfl und24 kn23 (by exact sz23.symm) ?_ rfl ?_ | refine w_iap rfl rfl und24 kn23 rfl (by exact sz23.symm) rfl ?_ ?_
            · exact ⟨by omega, by omega⟩
            first | refine w_iac rfl rfl und23 kn22 (by exact sz22.symm) ?_ rfl ?_ | refine w_iap rfl rfl und23 kn22 rfl (by exact sz22.symm) rfl ?_ ?_
            · exact ⟨by omega, by omega⟩
            first | refine w_iac rfl rfl und22 kn5 (by exact sz5.symm) ?_ rfl ?_ | refine w_iap rfl rfl und22 kn5 rfl (by exact sz5.symm) rfl ?_ ?_
            · exact ⟨by omega, by omega⟩
            first | refine w_stw rfl (by constructor) kn5 rfl (by exact trivial) (sx) (by exact sz5.symm) ?_ | refine w_sti rfl rfl kn5 rfl (by exact trivial) (by exact sz5.symm) ?_ | refine w_store rfl (HV.eq (by constructor)) kn5 rfl (by exact trivial) (sx) (by exact sz5.symm) (put_in (by first | exact put_mat | exact put_tab | exact put_alg0 | exact put_pr0 | exact put_pr1 | exact put_pr2 | exact put_tn4 | exact put_grp0 | exact put_grp1 | exact put_alg1 | exact put_alg2 | exact put_alg3 | exact put_alg3i | exact put_alg2ij | exact put_alg2ijk | exact put_mat2 | exact put_tab2 | exact put_tab3)) ?_ | refine w_store rfl (HV.eq (by constructor)) kn5 rfl (by exact trivial) (by exact trivial) (by exact sz5.symm) rfl ?_
            exact hRR
          apply lr tokTB (by kernel_rfl)
          · intro RR hRR
            refine y_add rfl rfl ?_
            refine w_move (by constructor) ?_
            exact hRR
          refine ⟨k + 1, ρ0, ?_, (by omega), (by dsimp only; omega)⟩
          exact ⟨⟨m_cgrp, (mi), ⟨rfl, rfl, rfl, rfl, rfl⟩, (mt_rowsW (V := _) (fun _ _ _ _ => rfl)), ⟨rfl, rfl, rfl, rfl, rfl⟩, (mi), (by first | exact mt_row (V := _) (fun _ _ => rfl) | exact mt_fz (by exact ⟨(ne_fst rfl), (ne_fst rfl), trivial⟩) rfl (fun _ _ => rfl)), (mi), (by first | exact mt_row (V := _) (fun _ _ => rfl) | exact mt_fz (by exact ⟨(ne_fst rfl), (ne_fst rfl), trivial⟩) rfl (fun _ _ => rfl)), (mt_rowsW (V := _) (fun _ _ _ _ => rfl)), (mi), (mi), (mt_rowsW (V := _) (fun _ _ _ _ => rfl)), (mi), (mi), (mt_rowsW (V := _) (fun _ _ _ _ => rfl)), (mi), (mi), trivial⟩, ⟨⟨rfl, (sx), (by first | exact mt_vec (fun _ _ => rfl) | exact mt_mat (fun _ _ _ _ => rfl) | exact mt_tab (fun _ _ _ _ _ _ => rfl) | exact mt_arr0 | exact mt_app (fun _ _ => rfl) rfl | exact ⟨rfl, fun _ _ => mt_row (fun _ _ => rfl)⟩ | exact Mt_closed (V := _) closed_alg (fun _ _ _ => trivial) (by simp))⟩, ⟨rfl, (sx), (by exact mt_ten1 lt_j lt_k)⟩, trivial⟩, ⟨⟨(fun h => by first | exact ⟨rfl, rfl⟩ | exact absurd h (by decide)), (fun h => by first | exact ⟨rfl, rfl⟩ | exact absurd h (by decide)), trivial⟩, ⟨(fun h => by first | exact ⟨rfl, rfl⟩ | exact absurd h (by decide)), (fun h => by first | exact ⟨rfl, rfl⟩ | exact absurd h (by decide)), trivial⟩, trivial⟩⟩
      · try simp only [hcs] at hc42
        have ge_k : (ccN n G) = k := by omega
        subst ge_k
        refine snd_exit ?_
        apply lr tokTB (by kernel_rfl)
        · intro RR hRR
          refine y_add rfl rfl ?_
          refine w_move (by constructor) ?_
          exact hRR
        refine ⟨j + 1, ρ0, ?_, (by omega), (by dsimp only; omega)⟩
        exact ⟨⟨m_cgrp, (mi), ⟨rfl, rfl, rfl, rfl, rfl⟩, (mt_rowsW (V := _) (fun _ _ _ _ => rfl)), ⟨rfl, rfl, rfl, rfl, rfl⟩, (mi), (by first | exact mt_row (V := _) (fun _ _ => rfl) | exact mt_fz (by exact ⟨(ne_fst rfl), (ne_fst rfl), trivial⟩) rfl (fun _ _ => rfl)), (mt_rowsW (V := _) (fun _ _ _ _ => rfl)), (mi), (mi), (mt_rowsW (V := _) (fun _ _ _ _ => rfl)), (mi), (mi), trivial⟩, ⟨⟨rfl, (sx), (by first | exact mt_vec (fun _ _ => rfl) | exact mt_mat (fun _ _ _ _ => rfl) | exact mt_tab (fun _ _ _ _ _ _ => rfl) | exact mt_arr0 | exact mt_app (fun _ _ => rfl) rfl | exact ⟨rfl, fun _ _ => mt_row (fun _ _ => rfl)⟩ | exact Mt_closed (V := _) closed_alg (fun _ _ _ => trivial) (by simp))⟩, ⟨rfl, (sx), (by exact mt_alg rfl rfl (fun a b c _ _ _ => fillT3_k) (fun _ _ => rfl))⟩, trivial⟩, ⟨⟨(fun h => by first | exact ⟨rfl, rfl⟩ | exact absurd h (by decide)), (fun h => by first | exact ⟨rfl, rfl⟩ | exact absurd h (by decide)), trivial⟩, ⟨(fun h => by first | exact ⟨rfl, rfl⟩ | exact absurd h (by decide)), (fun h => by first | exact ⟨rfl, rfl⟩ | exact absurd h (by decide)), trivial⟩, trivial⟩⟩
    · try simp only [hcs] at hc35
      have ge_j : (ccN n G) = j := by omega
      subst ge_j
      refine snd_exit ?_
      apply lr tokTB (by kernel_rfl)
      · intro RR hRR
        refine y_add rfl rfl ?_
        refine w_move (by constructor) ?_
        exact hRR
      refine ⟨i + 1, ρ0, ?_, (by omega), (by dsimp only; omega)⟩
      exact ⟨⟨m_cgrp, (mi), ⟨rfl, rfl, rfl, rfl, rfl⟩, (mt_rowsW (V := _) (fun _ _ _ _ => rfl)), ⟨rfl, rfl, rfl, rfl, rfl⟩, (mt_rowsW (V := _) (fun _ _ _ _ => rfl)), (mi), (mi), trivial⟩, ⟨⟨rfl, (sx), (by first | exact mt_vec (fun _ _ => rfl) | exact mt_mat (fun _ _ _ _ => rfl) | exact mt_tab (fun _ _ _ _ _ _ => rfl) | exact mt_arr0 | exact mt_app (fun _ _ => rfl) rfl | exact ⟨rfl, fun _ _ => mt_row (fun _ _ => rfl)⟩ | exact Mt_closed (V := _) closed_alg (fun _ _ _ => trivial) (by simp))⟩, ⟨rfl, (sx), (by exact mt_alg rfl rfl (fun a b c _ _ _ => fillT3_j) (fun _ _ => rfl))⟩, trivial⟩, ⟨⟨(fun h => by first | exact ⟨rfl, rfl⟩ | exact absurd h (by decide)), (fun h => by first | exact ⟨rfl, rfl⟩ | exact absurd h (by decide)), trivial⟩, ⟨(fun h => by first | exact ⟨rfl, rfl⟩ | exact absurd h (by decide)), (fun h => by first | exact ⟨rfl, rfl⟩ | exact absurd h (by decide)), trivial⟩, trivial⟩⟩
  · try simp only [hcs] at hc28
    have ge_i : (ccN n G) = i := by omega
    subst ge_i
    refine snd_exit ?_
    apply sr tokTB (by kernel_rfl)
    · intro RR hRR
      refine w_ldp rfl kn27 rfl (by constructor) (by exact sz27.symm) (by exact ag27.symm) ?_
      refine w_stw rfl (by constructor) kn27 rfl (by exact trivial) (sx) (by exact sz27.symm) ?_
      exact hRR
    refine snd_ret ?_
    exact rt_c (T := TB) rfl kn27 rfl sz27.symm ag27.symm (fun V => mt_alg rfl rfl (fun _ _ _ _ _ _ => rfl) (fun _ _ => rfl))
theorem c_l06ClassAlgebra {n : Nat} {G : Nat → Nat → Nat} (hG : RG G) (h : GN n G) {p : Int} (hp : primeB p = true) : ACalls Try.prog TB 48 [.int .i64 p, grpA (n : Int) G] (algA p (((ccN n G) : Nat) : Int) (fillT3 (ccN n G) (caT p n G) ((ccN n G)) (0) (0)) (eF 0)) [] := by
  have hcl := closed_cgrp (n := (n : Int)) (G := G)
  have hcl2 := closed_grp (n := (n : Int)) (G := G)
  have hn6 := h.n6
  have hpb := primeB_bd hp
  have hc6 := h.cle
  refine acalls_of tokTB Try.func48 rfl rfl (Nat.le_of_ble_eq_true rfl) ?_
  apply sr tokTB (by kernel_rfl)
  · intro RR hRR
    refine w_boxc (HV.eq (by constructor)) (by exact trivial) ?_
    refine w_alloc kn27 rfl zr27 ?_
    exact hRR
  apply sr tokTB (by kernel_rfl)
  · intro RR hRR
    refine w_ldc rfl kn38 (by constructor) (by exact sz38.symm) (by exact ag38.symm) ?_
    refine w_callc rfl (exc exp_grp exn) (famW_cl (c_l06Classes hG h)) (by exact closed_rowsW) (by exact ⟨closed_grp, trivial⟩) ?_
    refine w_assign (by constructor) ?_
    exact hRR
  apply sr tokTB (by kernel_rfl)
  · intro RR hRR
    refine w_move (by constructor) ?_
    refine w_move (by constructor) ?_
    first | refine w_len_r rfl rfl und35 ?_ | refine w_len_o rfl rfl und35 ?_ | refine w_len_n rfl rfl und35 ?_
    refine w_bld_s kn27 zr27 und27 rfl (by exact ⟨rfl, kn2, sz2, rfl, kn2, sz2, rfl, kn24, sz24, rfl, kn25, sz25, trivial⟩) (by exact ⟨⟨by decide, trivial, rfl⟩, ⟨by decide, trivial, rfl⟩, trivial⟩) (c := algF p (((ccN n G) : Nat) : Int) (fun _ _ _ => 0) (fun _ => 0)) (funext fun i => by match i with | 0 => rfl | 1 => rfl | 2 => rfl | 3 => rfl | i + 4 => rfl) ?_
    refine w_alloc kn27 rfl zr27 ?_
    refine w_stw rfl (by constructor) kn27 rfl (by exact trivial) (sx) (by exact sz27.symm) ?_
    exact hRR
  refine snd_seq ?_
  apply sr tokTB (by kernel_rfl)
  · intro RR hRR
    refine w_assign (by constructor) ?_
    exact hRR
  refine snd_block ?_
  refine snd_loop (S := Nat) (fun i => ([(0, .int .i64 p), (3, .cptr (grpA (n : Int) G)), (4, .ptr 4 0 [] 0 (algA 0 0 (fun _ _ _ => 0) (fun _ => 0))), (5, rowsW (ccN n G) (ccW n G) (ccF n G)), (6, .ptr 6 0 [] 0 (algA 0 0 (fun _ _ _ => 0) (fun _ => 0))), (7, .int .i64 (i : Int))], [(4, .one (algA 0 0 (fun _ _ _ => 0) (fun _ => 0)) (algA 0 0 (fun _ _ _ => 0) (fun _ => 0))), (6, .one (algA 0 0 (fun _ _ _ => 0) (fun _ => 0)) (algA p (((ccN n G) : Nat) : Int) (fillT3 (ccN n G) (caT p n G) (i) (0) (0)) (fun _ => 0)))])) (fun i => i ≤ (ccN n G)) (fun i => (ccN n G) - i) (0) ρ0 ?_ ?_ ?_
  · exact ⟨⟨(mi), m_cgrp, ⟨rfl, rfl, rfl, rfl, rfl⟩, (mt_rowsW (V := _) (fun _ _ _ _ => rfl)), ⟨rfl, rfl, rfl, rfl, rfl⟩, (mi), trivial⟩, ⟨⟨rfl, (sx), (by first | exact mt_vec (fun _ _ => rfl) | exact mt_mat (fun _ _ _ _ => rfl) | exact mt_tab (fun _ _ _ _ _ _ => rfl) | exact mt_arr0 | exact mt_app (fun _ _ => rfl) rfl | exact ⟨rfl, fun _ _ => mt_row (fun _ _ => rfl)⟩ | exact Mt_closed (V := _) closed_alg (fun _ _ _ => trivial) (by simp))⟩, ⟨rfl, (sx), (by exact mt_alg rfl rfl (fun a b c _ _ _ => fillT3_0.symm) (fun _ _ => rfl))⟩, trivial⟩, ⟨⟨(fun h => by first | exact ⟨rfl, rfl⟩ | exact absurd h (by decide)), (fun h => by first | exact ⟨rfl, rfl⟩ | exact absurd h (by decide)), trivial⟩, ⟨(fun h => by first | exact ⟨rfl, rfl⟩ | exact absurd h (by decide)), (fun h => by first | exact ⟨rfl, rfl⟩ | exact absurd h (by decide)), trivial⟩, trivial⟩⟩
  · exact Nat.zero_le _
  intro i hi0
  refine sq (env2 := [(0, .int .i64 p), (3, .cptr (grpA (n : Int) G)), (4, .ptr 4 0 [] 0 (algA 0 0 (fun _ _ _ => 0) (fun _ => 0))), (5, rowsW (ccN n G) (ccW n G) (ccF n G)), (6, .ptr 6 0 [] 0 (algA 0 0 (fun _ _ _ => 0) (fun _ => 0))), (7, .int .i64 (i : Int))]) (ol2 := [(4, .one (algA 0 0 (fun _ _ _ => 0) (fun _ => 0)) (algA 0 0 (fun _ _ _ => 0) (fun _ => 0))), (6, .one (algA 0 0 (fun _ _ _ => 0) (fun _ => 0)) (algA p (((ccN n G) : Nat) : Int) (fillT3 (ccN n G) (caT p n G) (i) (0) (0)) (fun _ => 0)))]) rfl rfl ?_
  refine snd_seq ?_
  apply sr tokTB (by kernel_rfl)
  · intro RR hRR
    refine w_move (by constructor) ?_
    refine w_move (by constructor) ?_
    first | refine w_len_r rfl rfl und35 ?_ | refine w_len_o rfl rfl und35 ?_ | refine w_len_n rfl rfl und35 ?_
    refine w_lss rfl rfl ?_
    exact hRR
  refine snd_cond _ rfl (fun hc22 => ?_) (fun hc22 => ?_)
  · try simp only [hcs] at hc22
    have lt_i : i < (ccN n G) := by omega
    refine snd_skip ?_
    refine snd_seq ?_
    refine snd_block ?_
    apply sr tokTB (by kernel_rfl)
    · intro RR hRR
      refine w_assign (by constructor) ?_
      exact hRR
    refine snd_block ?_
    refine snd_loop (S := Nat) (fun j => ([(0, .int .i64 p), (3, .cptr (grpA (n : Int) G)), (4, .ptr 4 0 [] 0 (algA 0 0 (fun _ _ _ => 0) (fun _ => 0))), (5, rowsW (ccN n G) (ccW n G) (ccF n G)), (6, .ptr 6 0 [] 0 (algA 0 0 (fun _ _ _ => 0) (fun _ => 0))), (7, .int .i64 (i : Int)), (8, .int .i64 (j : Int))], [(4, .one (algA 0 0 (fun _ _ _ => 0) (fun _ => 0)) (algA 0 0 (fun _ _ _ => 0) (fun _ => 0))), (6, .one (algA 0 0 (fun _ _ _ => 0) (fun _ => 0)) (algA p (((ccN n G) : Nat) : Int) (fillT3 (ccN n G) (caT p n G) (i) (j) (0)) (fun _ => 0)))])) (fun j => j ≤ (ccN n G)) (fun j => (ccN n G) - j) (0) ρ0 ?_ ?_ ?_
    · exact ⟨⟨(mi), m_cgrp, ⟨rfl, rfl, rfl, rfl, rfl⟩, (mt_rowsW (V := _) (fun _ _ _ _ => rfl)), ⟨rfl, rfl, rfl, rfl, rfl⟩, (mi), (mi), trivial⟩, ⟨⟨rfl, (sx), (by first | exact mt_vec (fun _ _ => rfl) | exact mt_mat (fun _ _ _ _ => rfl) | exact mt_tab (fun _ _ _ _ _ _ => rfl) | exact mt_arr0 | exact mt_app (fun _ _ => rfl) rfl | exact ⟨rfl, fun _ _ => mt_row (fun _ _ => rfl)⟩ | exact Mt_closed (V := _) closed_alg (fun _ _ _ => trivial) (by simp))⟩, ⟨rfl, (sx), (by exact mt_alg rfl rfl (fun _ _ _ _ _ _ => rfl) (fun _ _ => rfl))⟩, trivial⟩, ⟨⟨(fun h => by first | exact ⟨rfl, rfl⟩ | exact absurd h (by decide)), (fun h => by first | exact ⟨rfl, rfl⟩ | exact absurd h (by decide)), trivial⟩, ⟨(fun h => by first | exact ⟨rfl, rfl⟩ | exact absurd h (by decide)), (fun h => by first | exact ⟨rfl, rfl⟩ | exact absurd h (by decide)), trivial⟩, trivial⟩⟩
    · exact Nat.zero_le _
    intro j hi2
    refine sq (env2 := [(0, .int .i64 p), (3, .cptr (grpA (n : Int) G)), (4, .ptr 4 0 [] 0 (algA 0 0 (fun _ _ _ => 0) (fun _ => 0))), (5, rowsW (ccN n G) (ccW n G) (ccF n G)), (6, .ptr 6 0 [] 0 (algA 0 0 (fun _ _ _ => 0) (fun _ => 0))), (7, .int .i64 (i : Int)), (8, .int .i64 (j : Int))]) (ol2 := [(4, .one (algA 0 0 (fun _ _ _ => 0) (fun _ => 0)) (algA 0 0 (fun _ _ _ => 0) (fun _ => 0))), (6, .one (algA 0 0 (fun _ _ _ => 0) (fun _ => 0)) (algA p (((ccN n G) : Nat) : Int) (fillT3 (ccN n G) (caT p n G) (i) (j) (0)) (fun _ => 0)))]) rfl rfl ?_
    refine snd_seq ?_
    apply sr tokTB (by kernel_rfl)
    · intro RR hRR
      refine w_move (by constructor) ?_
      refine w_move (by constructor) ?_
      first | refine w_len_r rfl rfl und35 ?_ | refine w_len_o rfl rfl und35 ?_ | refine w_len_n rfl rfl und35 ?_
      refine w_lss rfl rfl ?_
      exact hRR
    refine snd_cond _ rfl (fun hc28 => ?_) (fun hc28 => ?_)
    · try simp only [hcs] at hc28
      have lt_j : j < (ccN n G) := by omega
      refine snd_skip ?_
      refine snd_seq ?_
      refine snd_block ?_
      apply sr tokTB (by kernel_rfl)
      · intro RR hRR
        refine w_assign (by constructor) ?_
        exact hRR
      refine snd_block ?_
      refine snd_loop (S := Nat) (fun k => ([(0, .int .i64 p), (3, .cptr (grpA (n : Int) G)), (4, .ptr 4 0 [] 0 (algA 0 0 (fun _ _ _ => 0) (fun _ => 0))), (5, rowsW (ccN n G) (ccW n G) (ccF n G)), (6, .ptr 6 0 [] 0 (algA 0 0 (fun _ _ _ => 0) (fun _ => 0))), (7, .int .i64 (i : Int)), (8, .int .i64 (j : Int)), (9, .int .i64 (k : Int))], [(4, .one (algA 0 0 (fun _ _ _ => 0) (fun _ => 0)) (algA 0 0 (fun _ _ _ => 0) (fun _ => 0))), (6, .one (algA 0 0 (fun _ _ _ => 0) (fun _ => 0)) (algA p (((ccN n G) : Nat) : Int) (fillT3 (ccN n G) (caT p n G) (i) (j) (k)) (fun _ => 0)))])) (fun k => k ≤ (ccN n G)) (fun k => (ccN n G) - k) (0) ρ0 ?_ ?_ ?_
      · exact ⟨⟨(mi), m_cgrp, ⟨rfl, rfl, rfl, rfl, rfl⟩, (mt_rowsW (V := _) (fun _ _ _ _ => rfl)), ⟨rfl, rfl, rfl, rfl, rfl⟩, (mi), (mi), (mi), trivial⟩, ⟨⟨rfl, (sx), (by first | exact mt_vec (fun _ _ => rfl) | exact mt_mat (fun _ _ _ _ => rfl) | exact mt_tab (fun _ _ _ _ _ _ => rfl) | exact mt_arr0 | exact mt_app (fun _ _ => rfl) rfl | exact ⟨rfl, fun _ _ => mt_row (fun _ _ => rfl)⟩ | exact Mt_closed (V := _) closed_alg (fun _ _ _ => trivial) (by simp))⟩, ⟨rfl, (sx), (by exact mt_alg rfl rfl (fun _ _ _ _ _ _ => rfl) (fun _ _ => rfl))⟩, trivial⟩, ⟨⟨(fun h => by first | exact ⟨rfl, rfl⟩ | exact absurd h (by decide)), (fun h => by first | exact ⟨rfl, rfl⟩ | exact absurd h (by decide)), trivial⟩, ⟨(fun h => by first | exact ⟨rfl, rfl⟩ | exact absurd h (by decide)), (fun h => by first | exact ⟨rfl, rfl⟩ | exact absurd h (by decide)), trivial⟩, trivial⟩⟩
      · exact Nat.zero_le _
      intro k hi4
      refine sq (env2 := [(0, .int .i64 p), (3, .cptr (grpA (n : Int) G)), (4, .ptr 4 0 [] 0 (algA 0 0 (fun _ _ _ => 0) (fun _ => 0))), (5, rowsW (ccN n G) (ccW n G) (ccF n G)), (6, .ptr 6 0 [] 0 (algA 0 0 (fun _ _ _ => 0) (fun _ => 0))), (7, .int .i64 (i : Int)), (8, .int .i64 (j : Int)), (9, .int .i64 (k : Int))]) (ol2 := [(4, .one (algA 0 0 (fun _ _ _ => 0) (fun _ => 0)) (algA 0 0 (fun _ _ _ => 0) (fun _ => 0))), (6, .one (algA 0 0 (fun _ _ _ => 0) (fun _ => 0)) (algA p (((ccN n G) : Nat) : Int) (fillT3 (ccN n G) (caT p n G) (i) (j) (k)) (fun _ => 0)))]) rfl rfl ?_
      refine snd_seq ?_
      apply sr tokTB (by kernel_rfl)
      · intro RR hRR
        refine w_move (by constructor) ?_
        refine w_move (by constructor) ?_
        first | refine w_len_r rfl rfl und35 ?_ | refine w_len_o rfl rfl und35 ?_ | refine w_len_n rfl rfl und35 ?_
        refine w_lss rfl rfl ?_
        exact hRR
      refine snd_cond _ rfl (fun hc34 => ?_) (fun hc34 => ?_)
      · try simp only [hcs] at hc34
        have lt_k : k < (ccN n G) := by omega
        have hcf := (h.rp lt_k).2.1
        refine snd_skip ?_
        refine snd_seq ?_
        refine snd_block ?_
        apply sr tokTB (by kernel_rfl)
        · intro RR hRR
          refine w_assign (by constructor) ?_
          exact hRR
        refine snd_seq ?_
        apply sr tokTB (by kernel_rfl)
        · intro RR hRR
          refine w_assign (by constructor) ?_
          exact hRR
        refine snd_block ?_
        refine snd_loop (S := Nat) (fun x => ([(0, .int .i64 p), (3, .cptr (grpA (n : Int) G)), (4, .ptr 4 0 [] 0 (algA 0 0 (fun _ _ _ => 0) (fun _ => 0))), (5, rowsW (ccN n G) (ccW n G) (ccF n G)), (6, .ptr 6 0 [] 0 (algA 0 0 (fun _ _ _ => 0) (fun _ => 0))), (7, .int .i64 (i : Int)), (8, .int .i64 (j : Int)), (9, .int .i64 (k : Int)), (10, .int .i64 ((caN n G i j k x : Nat) : Int)), (11, .int .i64 (x : Int))], [(4, .one (algA 0 0 (fun _ _ _ => 0) (fun _ => 0)) (algA 0 0 (fun _ _ _ => 0) (fun _ => 0))), (6, .one (algA 0 0 (fun _ _ _ => 0) (fun _ => 0)) (algA p (((ccN n G) : Nat) : Int) (fillT3 (ccN n G) (caT p n G) (i) (j) (k)) (fun _ => 0)))])) (fun x => x ≤ (ccW n G i)) (fun x => (ccW n G i) - x) (0) ρ0 ?_ ?_ ?_
        · exact ⟨⟨(mi), m_cgrp, ⟨rfl, rfl, rfl, rfl, rfl⟩, (mt_rowsW (V := _) (fun _ _ _ _ => rfl)), ⟨rfl, rfl, rfl, rfl, rfl⟩, (mi), (mi), (mi), (by exact m_int rfl), (mi), trivial⟩, ⟨⟨rfl, (sx), (by first | exact mt_vec (fun _ _ => rfl) | exact mt_mat (fun _ _ _ _ => rfl) | exact mt_tab (fun _ _ _ _ _ _ => rfl) | exact mt_arr0 | exact mt_app (fun _ _ => rfl) rfl | exact ⟨rfl, fun _ _ => mt_row (fun _ _ => rfl)⟩ | exact Mt_closed (V := _) closed_alg (fun _ _ _ => trivial) (by simp))⟩, ⟨rfl, (sx), (by first | exact mt_vec (fun _ _ => rfl) | exact mt_mat (fun _ _ _ _ => rfl) | exact mt_tab (fun _ _ _ _ _ _ => rfl) | exact mt_arr0 | exact mt_app (fun _ _ => rfl) rfl | exact ⟨rfl, fun _ _ => mt_row (fun _ _ => rfl)⟩ | exact Mt_closed (V := _) closed_alg (fun _ _ _ => trivial) (by simp))⟩, trivial⟩, ⟨⟨(fun h => by first | exact ⟨rfl, rfl⟩ | exact absurd h (by decide)), (fun h => by first | exact ⟨rfl, rfl⟩ | exact absurd h (by decide)), trivial⟩, ⟨(fun h => by first | exact ⟨rfl, rfl⟩ | exact absurd h (by decide)), (fun h => by first | exact ⟨rfl, rfl⟩ | exact absurd h (by decide)), trivial⟩, trivial⟩⟩
        · exact Nat.zero_le _
        intro x hi6
        refine sq (env2 := [(0, .int .i64 p), (3, .cptr (grpA (n : Int) G)), (4, .ptr 4 0 [] 0 (algA 0 0 (fun _ _ _ => 0) (fun _ => 0))), (5, rowsW (ccN n G) (ccW n G) (ccF n G)), (6, .ptr 6 0 [] 0 (algA 0 0 (fun _ _ _ => 0) (fun _ => 0))), (7, .int .i64 (i : Int)), (8, .int .i64 (j : Int)), (9, .int .i64 (k : Int)), (10, .int .i64 ((caN n G i j k x : Nat) : Int)), (11, .int .i64 (x : Int))]) (ol2 := [(4, .one (algA 0 0 (fun _ _ _ => 0) (fun _ => 0)) (algA 0 0 (fun _ _ _ => 0) (fun _ => 0))), (6, .one (algA 0 0 (fun _ _ _ => 0) (fun _ => 0)) (algA p (((ccN n G) : Nat) : Int) (fillT3 (ccN n G) (caT p n G) (i) (j) (k)) (fun _ => 0)))]) rfl rfl ?_
        refine snd_seq ?_
        apply sr tokTB (by kernel_rfl)
        · intro RR hRR
          refine w_move (by constructor) ?_
          refine w_move (by constructor) ?_
          refine w_move (by constructor) ?_
          refine w_iar rfl rfl und35 kn62 (by exact sz62.symm) ?_ rfl ?_
          · exact ⟨by omega, by omega⟩
          first | refine w_ldc rfl kn62 (by constructor) (by exact sz62.symm) (by exact ag62.symm) ?_ | refine w_ldp rfl kn62 rfl (by constructor) (by exact sz62.symm) (by exact ag62.symm) ?_
          refine w_len_r rfl rfl und62 ?_
          refine w_lss rfl rfl ?_
          exact hRR
        refine snd_cond _ rfl (fun hc43 => ?_) (fun hc43 => ?_)
        · try simp only [hcs] at hc43
          have lt_x : x < ccW n G i := Int.ofNat_lt.1 hc43
          have hgx := h.ccC_lt lt_i lt_x
          have hwi : ccW n G i ≤ 6 := h.wle i
          refine snd_skip ?_
          refine snd_seq ?_
          refine snd_block ?_
          apply sr tokTB (by kernel_rfl)
          · intro RR hRR
            refine w_assign (by constructor) ?_
            exact hRR
          refine snd_block ?_
          refine snd_loop (S := Nat) (fun y => ([(0, .int .i64 p), (3, .cptr (grpA (n : Int) G)), (4, .ptr 4 0 [] 0 (algA 0 0 (fun _ _ _ => 0) (fun _ => 0))), (5, rowsW (ccN n G) (ccW n G) (ccF n G)), (6, .ptr 6 0 [] 0 (algA 0 0 (fun _ _ _ => 0) (fun _ => 0))), (7, .int .i64 (i : Int)), (8, .int .i64 (j : Int)), (9, .int .i64 (k : Int)), (10, .int .i64 ((caN n G i j k x + cyN G (rpF n G k) (ccC n G i x) (ccC n G j) y : Nat) : Int)), (11, .int .i64 (x : Int)), (12, .int .i64 (y : Int))], [(4, .one (algA 0 0 (fun _ _ _ => 0) (fun _ => 0)) (algA 0 0 (fun _ _ _ => 0) (fun _ => 0))), (6, .one (algA 0 0 (fun _ _ _ => 0) (fun _ => 0)) (algA p (((ccN n G) : Nat) : Int) (fillT3 (ccN n G) (caT p n G) (i) (j) (k)) (fun _ => 0)))])) (fun y => y ≤ (ccW n G j)) (fun y => (ccW n G j) - y) (0) ρ0 ?_ ?_ ?_
          · exact ⟨⟨(mi), m_cgrp, ⟨rfl, rfl, rfl, rfl, rfl⟩, (mt_rowsW (V := _) (fun _ _ _ _ => rfl)), ⟨rfl, rfl, rfl, rfl, rfl⟩, (mi), (mi), (mi), (by exact m_int rfl), (mi), (mi), trivial⟩, ⟨⟨rfl, (sx), (by first | exact mt_vec (fun _ _ => rfl) | exact mt_mat (fun _ _ _ _ => rfl) | exact mt_tab (fun _ _ _ _ _ _ => rfl) | exact mt_arr0 | exact mt_app (fun _ _ => rfl) rfl | exact ⟨rfl, fun _ _ => mt_row (fun _ _ => rfl)⟩ | exact Mt_closed (V := _) closed_alg (fun _ _ _ => trivial) (by simp))⟩, ⟨rfl, (sx), (by first | exact mt_vec (fun _ _ => rfl) | exact mt_mat (fun _ _ _ _ => rfl) | exact mt_tab (fun _ _ _ _ _ _ => rfl) | exact mt_arr0 | exact mt_app (fun _ _ => rfl) rfl | exact ⟨rfl, fun _ _ => mt_row (fun _ _ => rfl)⟩ | exact Mt_closed (V := _) closed_alg (fun _ _ _ => trivial) (by simp))⟩, trivial⟩, ⟨⟨(fun h => by first | exact ⟨rfl, rfl⟩ | exact absurd h (by decide)), (fun h => by first | exact ⟨rfl, rfl⟩ | exact absurd h (by decide)), trivial⟩, ⟨(fun h => by first | exact ⟨rfl, rfl⟩ | exact absurd h (by decide)), (fun h => by first | exact ⟨rfl, rfl⟩ | exact absurd h (by decide)), trivial⟩, trivial⟩⟩
          · exact Nat.zero_le _
          intro y hi8
          refine sq (env2 := [(0, .int .i64 p), (3, .cptr (grpA (n : Int) G)), (4, .ptr 4 0 [] 0 (algA 0 0 (fun _ _ _ => 0) (fun _ => 0))), (5, rowsW (ccN n G) (ccW n G) (ccF n G)), (6, .ptr 6 0 [] 0 (algA 0 0 (fun _ _ _ => 0) (fun _ => 0))), (7, .int .i64 (i : Int)), (8, .int .i64 (j : Int)), (9, .int .i64 (k : Int)), (10, .int .i64 ((caN n G i j k x + cyN G (rpF n G k) (ccC n G i x) (ccC n G j) y : Nat) : Int)), (11, .int .i64 (x : Int)), (12, .int .i64 (y : Int))]) (ol2 := [(4, .one (algA 0 0 (fun _ _ _ => 0) (fun _ => 0)) (algA 0 0 (fun _ _ _ => 0) (fun _ => 0))), (6, .one (algA 0 0 (fun _ _ _ => 0) (fun _ => 0)) (algA p (((ccN n G) : Nat) : Int) (fillT3 (ccN n G) (caT p n G) (i) (j) (k)) (fun _ => 0)))]) rfl rfl ?_
          refine snd_seq ?_
          apply sr tokTB (by kernel_rfl)
          · intro RR hRR
            refine w_move (by constructor) ?_
            refine w_move (by constructor) ?_
            refine w_move (by constructor) ?_
            refine w_iar rfl rfl und35 kn62 (by exact sz62.symm) ?_ rfl ?_
            · exact ⟨by omega, by omega⟩
            first | refine w_ldc rfl kn62 (by constructor) (by exact sz62.symm) (by exact ag62.symm) ?_ | refine w_ldp rfl kn62 rfl (by constructor) (by exact sz62.symm) (by exact ag62.symm) ?_
            refine w_len_r rfl rfl und62 ?_
            refine w_lss rfl rfl ?_
            exact hRR
          refine snd_cond _ rfl (fun hc52 => ?_) (fun hc52 => ?_)
          · try simp only [hcs] at hc52
            have lt_y : y < ccW n G j := Int.ofNat_lt.1 hc52
            have hgy := h.ccC_lt lt_j lt_y
            have hle := h.ca_le (i := i) (j := j) (k := k) (x := x) (Nat.le_of_lt lt_x)
            have hcy := cy_le (G := G) (rpF n G k) (ccC n G i x) (ccC n G j) y
            have hwj : ccW n G j ≤ 6 := h.wle j
            refine snd_skip ?_
            refine snd_seq ?_
            refine snd_block ?_
            apply sdX tokTB mixed [0, 3, 2, 3, 2, 5, 1] (by kernel_rfl) (by kernel_rfl)
            · intro RR hRR
              show WOps _ _ _ _ _ _ _
              show LoadC Try.prog TB _ _ _
              refine wx_ldc rfl kn38 (by constructor) (by exact sz38.symm) (by exact ag38.symm) ?_
              show WOps _ _ _ _ _ _ _
              refine w_move (by constructor) ?_
              refine w_move (by constructor) ?_
              refine w_iar rfl rfl und35 kn62 (by exact sz62.symm) ?_ rfl ?_
              · exact ⟨by omega, by omega⟩
              show LoadC Try.prog TB _ _ _
              first | refine wx_ldc rfl kn62 (by constructor) (by exact sz62.symm) (by exact ag62.symm) ?_ | refine w_ldp rfl kn62 rfl (by constructor) (by exact sz62.symm) (by exact ag62.symm) ?_
              show WOps _ _ _ _ _ _ _
              refine w_move (by constructor) ?_
              refine w_iar rfl rfl und62 kn2 (by exact sz2.symm) ?_ rfl ?_
              · exact ⟨(show (0 : Int) ≤ (x : Int) by omega), (show (x : Int) < ((ccW n G i : Nat) : Int) by omega)⟩
              show LoadC Try.prog TB _ _ _
              first | refine wx_ldc rfl kn2 (by constructor) (by exact sz2.symm) (by exact ag2.symm) ?_ | refine w_ldp rfl kn2 rfl (by constructor) (by exact sz2.symm) (by exact ag2.symm) ?_
              show WOps _ _ _ _ _ _ _
              refine w_move (by constructor) ?_
              refine w_move (by constructor) ?_
              refine w_iar rfl rfl und35 kn62 (by exact sz62.symm) ?_ rfl ?_
              · exact ⟨by omega, by omega⟩
              show LoadC Try.prog TB _ _ _
              first | refine wx_ldc rfl kn62 (by constructor) (by exact sz62.symm) (by exact ag62.symm) ?_ | refine w_ldp rfl kn62 rfl (by constructor) (by exact sz62.symm) (by exact ag62.symm) ?_
              show WOps _ _ _ _ _ _ _
              refine w_move (by constructor) ?_
              refine w_iar rfl rfl und62 kn2 (by exact sz2.symm) ?_ rfl ?_
              · exact ⟨(show (0 : Int) ≤ (y : Int) by omega), (show (y : Int) < ((ccW n G j : Nat) : Int) by omega)⟩
              show LoadC Try.prog TB _ _ _
              first | refine wx_ldc rfl kn2 (by constructor) (by exact sz2.symm) (by exact ag2.symm) ?_ | refine w_ldp rfl kn2 rfl (by constructor) (by exact sz2.symm) (by exact ag2.symm) ?_
              show WOps _ _ _ _ _ _ _
              refine w_bsl2 und62 kn2 (by rw [sz2]; rfl) rfl (by constructor) (by constructor) (by first | exact trivial | exact cel_cap2) (by first | exact trivial | exact cel_cap2) (by exact sz2.symm) (by exact sz2.symm) (by first | exact trivial | exact ssh_vec | exact ⟨rfl, fun _ => trivial⟩) (by first | exact trivial | exact ssh_vec | exact ⟨rfl, fun _ => trivial⟩) ?_
              refine y_call rfl (exc exp_grp (exc (by refine congrArg (AV.ro 2) (funext fun i => ?_); match i with | 0 => rfl | 1 => rfl | n + 2 => rfl) exn)) ((h.gp2 hgx ▸ c_l06Times (m := 2) (f := f2 (ccC n G i x) (ccC n G j y)) hG h (by omega) (fun r hr => by match r, hr with | 0, _ => exact hgx | 1, _ => exact hgy))) ?_
              refine w_move (by constructor) ?_
              refine w_move (by constructor) ?_
              refine w_iar rfl rfl und35 kn62 (by exact sz62.symm) ?_ rfl ?_
              · exact ⟨by omega, by omega⟩
              show LoadC Try.prog TB _ _ _
              first | refine wx_ldc rfl kn62 (by constructor) (by exact sz62.symm) (by exact ag62.symm) ?_ | refine w_ldp rfl kn62 rfl (by constructor) (by exact sz62.symm) (by exact ag62.symm) ?_
              show WOps _ _ _ _ _ _ _
              refine w_iar rfl rfl und62 kn2 (by exact sz2.symm) ?_ rfl ?_
              · exact ⟨Int.le_refl _, (show (0 : Int) < ((clN n G (rpF n G k) : Nat) : Int) by have := (h.rp lt_k).2.2; omega)⟩
              show LoadC Try.prog TB _ _ _
              first | refine wx_ldc rfl kn2 (by constructor) (by exact sz2.symm) (by exact ag2.symm) ?_ | refine w_ldp rfl kn2 rfl (by constructor) (by exact sz2.symm) (by exact ag2.symm) ?_
              show WOps _ _ _ _ _ _ _
              refine w_eql rfl rfl ?_
              exact hRR
            refine snd_cond _ rfl (fun hc78 => ?_) (fun hc78 => ?_)
            · skip
              have q : G (ccC n G i x) (ccC n G j y) = rpF n G k := by have q1 : ((G (ccC n G i x) (ccC n G j y) : Nat) : Int) = ((clF n G (rpF n G k) 0 : Nat) : Int) := of_decide_eq_true hc78; omega
              have hs := cy_t q
              apply lr tokTB (by kernel_rfl)
              · intro RR hRR
                refine w_move (by constructor) ?_
                refine y_add rfl rfl ?_
                refine w_assign (by constructor) ?_
                exact hRR
              apply lr tokTB (by kernel_rfl)
              · intro RR hRR
                refine w_move (by constructor) ?_
                refine y_add rfl rfl ?_
                refine w_assign (by constructor) ?_
                exact hRR
              refine ⟨y + 1, ρ0, ?_, (by omega), (by dsimp only; omega)⟩
              exact ⟨⟨(mi), m_cgrp, ⟨rfl, rfl, rfl, rfl, rfl⟩, (mt_rowsW (V := _) (fun _ _ _ _ => rfl)), ⟨rfl, rfl, rfl, rfl, rfl⟩, (mi), (mi), (mi), (by exact m_int (by rw [hs]; omega)), (mi), (mi), trivial⟩, ⟨⟨rfl, (sx), (by first | exact mt_vec (fun _ _ => rfl) | exact mt_mat (fun _ _ _ _ => rfl) | exact mt_tab (fun _ _ _ _ _ _ => rfl) | exact mt_arr0 | exact mt_app (fun _ _ => rfl) rfl | exact ⟨rfl, fun _ _ => mt_row (fun _ _ => rfl)⟩ | exact Mt_closed (V := _) closed_alg (fun _ _ _ => trivial) (by simp))⟩, ⟨rfl, (sx), (by first | exact mt_vec (fun _ _ => rfl) | exact mt_mat (fun _ _ _ _ => rfl) | exact mt_tab (fun _ _ _ _ _ _ => rfl) | exact mt_arr0 | exact mt_app (fun _ _ => rfl) rfl | exact ⟨rfl, fun _ _ => mt_row (fun _ _ => rfl)⟩ | exact Mt_closed (V := _) closed_alg (fun _ _ _ => trivial) (by simp))⟩, trivial⟩, ⟨⟨(fun h => by first | exact ⟨rfl, rfl⟩ | exact absurd h (by decide)), (fun h => by first | exact ⟨rfl, rfl⟩ | exact absurd h (by decide)), trivial⟩, ⟨(fun h => by first | exact ⟨rfl, rfl⟩ | exact absurd h (by decide)), (fun h => by first | exact ⟨rfl, rfl⟩ | exact absurd h (by decide)), trivial⟩, trivial⟩⟩
            · skip
              have q : G (ccC n G i x) (ccC n G j y) ≠ rpF n G k := by have q1 : ¬ ((G (ccC n G i x) (ccC n G j y) : Nat) : Int) = ((clF n G (rpF n G k) 0 : Nat) : Int) := of_decide_eq_false hc78; omega
              have hs := cy_f q
              refine snd_skip ?_
              apply lr tokTB (by kernel_rfl)
              · intro RR hRR
                refine w_move (by constructor) ?_
                refine y_add rfl rfl ?_
                refine w_assign (by constructor) ?_
                exact hRR
              refine ⟨y + 1, ρ0, ?_, (by omega), (by dsimp only; omega)⟩
              exact ⟨⟨(mi), m_cgrp, ⟨rfl, rfl, rfl, rfl, rfl⟩, (mt_rowsW (V := _) (fun _ _ _ _ => rfl)), ⟨rfl, rfl, rfl, rfl, rfl⟩, (mi), (mi), (mi), (by exact m_int (by rw [hs])), (mi), (mi), trivial⟩, ⟨⟨rfl, (sx), (by first | exact mt_vec (fun _ _ => rfl) | exact mt_mat (fun _ _ _ _ => rfl) | exact mt_tab (fun _ _ _ _ _ _ => rfl) | exact mt_arr0 | exact mt_app (fun _ _ => rfl) rfl | exact ⟨rfl, fun _ _ => mt_row (fun _ _ => rfl)⟩ | exact Mt_closed (V := _) closed_alg (fun _ _ _ => trivial) (by simp))⟩, ⟨rfl, (sx), (by first | exact mt_vec (fun _ _ => rfl) | exact mt_mat (fun _ _ _ _ => rfl) | exact mt_tab (fun _ _ _ _ _ _ => rfl) | exact mt_arr0 | exact mt_app (fun _ _ => rfl) rfl | exact ⟨rfl, fun _ _ => mt_row (fun _ _ => rfl)⟩ | exact Mt_closed (V := _) closed_alg (fun _ _ _ => trivial) (by simp))⟩, trivial⟩, ⟨⟨(fun h => by first | exact ⟨rfl, rfl⟩ | exact absurd h (by decide)), (fun h => by first | exact ⟨rfl, rfl⟩ | exact absurd h (by decide)), trivial⟩, ⟨(fun h => by first | exact ⟨rfl, rfl⟩ | exact absurd h (by decide)), (fun h => by first | exact ⟨rfl, rfl⟩ | exact absurd h (by decide)), trivial⟩, trivial⟩⟩
          · try simp only [hcs] at hc52
            have ge_y : ccW n G j = y := by have q : ((ccW n G j : Nat) : Int) ≤ (y : Int) := hc52; omega
            subst ge_y
            refine snd_exit ?_
            apply lr tokTB (by kernel_rfl)
            · intro RR hRR
              refine w_move (by constructor) ?_
              refine y_add rfl rfl ?_
              refine w_assign (by constructor) ?_
              exact hRR
            refine ⟨x + 1, ρ0, ?_, (by omega), (by dsimp only; omega)⟩
            exact ⟨⟨(mi), m_cgrp, ⟨rfl, rfl, rfl, rfl, rfl⟩, (mt_rowsW (V := _) (fun _ _ _ _ => rfl)), ⟨rfl, rfl, rfl, rfl, rfl⟩, (mi), (mi), (mi), (by exact m_int rfl), (mi), trivial⟩, ⟨⟨rfl, (sx), (by first | exact mt_vec (fun _ _ => rfl) | exact mt_mat (fun _ _ _ _ => rfl) | exact mt_tab (fun _ _ _ _ _ _ => rfl) | exact mt_arr0 | exact mt_app (fun _ _ => rfl) rfl | exact ⟨rfl, fun _ _ => mt_row (fun _ _ => rfl)⟩ | exact Mt_closed (V := _) closed_alg (fun _ _ _ => trivial) (by simp))⟩, ⟨rfl, (sx), (by first | exact mt_vec (fun _ _ => rfl) | exact mt_mat (fun _ _ _ _ => rfl) | exact mt_tab (fun _ _ _ _ _ _ => rfl) | exact mt_arr0 | exact mt_app (fun _ _ => rfl) rfl | exact ⟨rfl, fun _ _ => mt_row (fun _ _ => rfl)⟩ | exact Mt_closed (V := _) closed_alg (fun _ _ _ => trivial) (by simp))⟩, trivial⟩, ⟨⟨(fun h => by first | exact ⟨rfl, rfl⟩ | exact absurd h (by decide)), (fun h => by first | exact ⟨rfl, rfl⟩ | exact absurd h (by decide)), trivial⟩, ⟨(fun h => by first | exact ⟨rfl, rfl⟩ | exact absurd h (by decide)), (fun h => by first | exact ⟨rfl, rfl⟩ | exact absurd h (by decide)), trivial⟩, trivial⟩⟩
        · try simp only [hcs] at hc43
          have ge_x : ccW n G i = x := by have q : ((ccW n G i : Nat) : Int) ≤ (x : Int) := hc43; omega
          subst ge_x
          refine snd_exit ?_
          apply ldX tokTB mixed [] (by kernel_rfl) (by kernel_rfl)
          · intro RR hRR
            show WOps _ _ _ _ _ _ _
            refine w_move (by constructor) ?_
            refine w_move (by constructor) ?_
            refine w_move (by constructor) ?_
            refine w_move (by constructor) ?_
            refine w_move (by constructor) ?_
            refine w_rem rfl rfl (by first | assumption | omega) ?_
            refine w_conv rfl und2 und5 (by exact w_cnt ⟨by omega, by omega⟩) ?_
            refine w_fap rfl und27 rfl kn24 nz24 rfl (by decide) rfl ?_
            first | refine w_iac rfl rfl und24 kn23 (by exact sz23.symm) ?_ rfl ?_ | refine w_iap rfl rfl und24 kn23 rfl (by exact sz23.symm) rfl ?_ ?_
            · exact ⟨by omega, by omega⟩
            first | refine w_iac rfl rfl und23 kn22 (by exact sz22.symm) ?_ rfl ?_ | refine w_iap rfl rfl und23 kn22 rfl (by exact sz22.symm) rfl ?_ ?_
            · exact ⟨by omega, by omega⟩
            first | refine w_iac rfl rfl und22 kn5 (by exact sz5.symm) ?_ rfl ?_ | refine w_iap rfl rfl und22 kn5 rfl (by exact sz5.symm) rfl ?_ ?_
            · exact ⟨by omega, by omega⟩
            first | refine w_stw rfl (by constructor) kn5 rfl (by exact trivial) (sx) (by exact sz5.symm) ?_ | refine w_sti rfl rfl kn5 rfl (by exact trivial) (by exact sz5.symm) ?_ | refine w_store rfl (HV.eq (by constructor)) kn5 rfl (by exact trivial) (sx) (by exact sz5.symm) (put_in (by first | exact put_mat | exact put_tab | exact put_alg0 | exact put_pr0 | exact put_pr1 | exact put_pr2 | exact put_tn4 | exact put_grp0 | exact put_grp1 | exact put_alg1 | exact put_alg2 | exact put_alg3 | exact put_alg3i | exact put_alg2ij | exact put_alg2ijk | exact put_mat2 | exact put_tab2 | exact put_tab3)) ?_ | refine w_store rfl (HV.eq (by constructor)) kn5 rfl (by exact trivial) (by exact trivial) (by exact sz5.symm) rfl ?_
            exact hRR
          apply lr tokTB (by kernel_rfl)
          · intro RR hRR
            refine w_move (by constructor) ?_
            refine y_add rfl rfl ?_
            refine w_assign (by constructor) ?_
            exact hRR
          refine ⟨k + 1, ρ0, ?_, (by omega), (by dsimp only; omega)⟩
          exact ⟨⟨(mi), m_cgrp, ⟨rfl, rfl, rfl, rfl, rfl⟩, (mt_rowsW (V := _) (fun _ _ _ _ => rfl)), ⟨rfl, rfl, rfl, rfl, rfl⟩, (mi), (mi), (mi), trivial⟩, ⟨⟨rfl, (sx), (by first | exact mt_vec (fun _ _ => rfl) | exact mt_mat (fun _ _ _ _ => rfl) | exact mt_tab (fun _ _ _ _ _ _ => rfl) | exact mt_arr0 | exact mt_app (fun _ _ => rfl) rfl | exact ⟨rfl, fun _ _ => mt_row (fun _ _ => rfl)⟩ | exact Mt_closed (V := _) closed_alg (fun _ _ _ => trivial) (by simp))⟩, ⟨rfl, (sx), (by exact mt_ten1 lt_j lt_k)⟩, trivial⟩, ⟨⟨(fun h => by first | exact ⟨rfl, rfl⟩ | exact absurd h (by decide)), (fun h => by first | exact ⟨rfl, rfl⟩ | exact absurd h (by decide)), trivial⟩, ⟨(fun h => by first | exact ⟨rfl, rfl⟩ | exact absurd h (by decide)), (fun h => by first | exact ⟨rfl, rfl⟩ | exact absurd h (by decide)), trivial⟩, trivial⟩⟩
      · try simp only [hcs] at hc34
        have ge_k : (ccN n G) = k := by omega
        subst ge_k
        refine snd_exit ?_
        apply lr tokTB (by kernel_rfl)
        · intro RR hRR
          refine w_move (by constructor) ?_
          refine y_add rfl rfl ?_
          refine w_assign (by constructor) ?_
          exact hRR
        refine ⟨j + 1, ρ0, ?_, (by omega), (by dsimp only; omega)⟩
        exact ⟨⟨(mi), m_cgrp, ⟨rfl, rfl, rfl, rfl, rfl⟩, (mt_rowsW (V := _) (fun _ _ _ _ => rfl)), ⟨rfl, rfl, rfl, rfl, rfl⟩, (mi), (mi), trivial⟩, ⟨⟨rfl, (sx), (by first | exact mt_vec (fun _ _ => rfl) | exact mt_mat (fun _ _ _ _ => rfl) | exact mt_tab (fun _ _ _ _ _ _ => rfl) | exact mt_arr0 | exact mt_app (fun _ _ => rfl) rfl | exact ⟨rfl, fun _ _ => mt_row (fun _ _ => rfl)⟩ | exact Mt_closed (V := _) closed_alg (fun _ _ _ => trivial) (by simp))⟩, ⟨rfl, (sx), (by exact mt_alg rfl rfl (fun a b c _ _ _ => fillT3_k) (fun _ _ => rfl))⟩, trivial⟩, ⟨⟨(fun h => by first | exact ⟨rfl, rfl⟩ | exact absurd h (by decide)), (fun h => by first | exact ⟨rfl, rfl⟩ | exact absurd h (by decide)), trivial⟩, ⟨(fun h => by first | exact ⟨rfl, rfl⟩ | exact absurd h (by decide)), (fun h => by first | exact ⟨rfl, rfl⟩ | exact absurd h (by decide)), trivial⟩, trivial⟩⟩
    · try simp only [hcs] at hc28
      have ge_j : (ccN n G) = j := by omega
      subst ge_j
      refine snd_exit ?_
      apply lr tokTB (by kernel_rfl)
      · intro RR hRR
        refine w_move (by constructor) ?_
        refine y_add rfl rfl ?_
        refine w_assign (by constructor) ?_
        exact hRR
      refine ⟨i + 1, ρ0, ?_, (by omega), (by dsimp only; omega)⟩
      exact ⟨⟨(mi), m_cgrp, ⟨rfl, rfl, rfl, rfl, rfl⟩, (mt_rowsW (V := _) (fun _ _ _ _ => rfl)), ⟨rfl, rfl, rfl, rfl, rfl⟩, (mi), trivial⟩, ⟨⟨rfl, (sx), (by first | exact mt_vec (fun _ _ => rfl) | exact mt_mat (fun _ _ _ _ => rfl) | exact mt_tab (fun _ _ _ _ _ _ => rfl) | exact mt_arr0 | exact mt_app (fun _ _ => rfl) rfl | exact ⟨rfl, fun _ _ => mt_row (fun _ _ => rfl)⟩ | exact Mt_closed (V := _) closed_alg (fun _ _ _ => trivial) (by simp))⟩, ⟨rfl, (sx), (by exact mt_alg rfl rfl (fun a b c _ _ _ => fillT3_j) (fun _ _ => rfl))⟩, trivial⟩, ⟨⟨(fun h => by first | exact ⟨rfl, rfl⟩ | exact absurd h (by decide)), (fun h => by first | exact ⟨rfl, rfl⟩ | exact absurd h (by decide)), trivial⟩, ⟨(fun h => by first | exact ⟨rfl, rfl⟩ | exact absurd h (by decide)), (fun h => by first | exact ⟨rfl, rfl⟩ | exact absurd h (by decide)), trivial⟩, trivial⟩⟩
  · try simp only [hcs] at hc22
    have ge_i : (ccN n G) = i := by omega
    subst ge_i
    refine snd_exit ?_
    apply sr tokTB (by kernel_rfl)
    · intro RR hRR
      refine w_fap rfl und27 rfl kn25 nz25 rfl (by decide) rfl ?_
      first | refine w_iac rfl rfl und25 kn5 (by exact sz5.symm) ?_ rfl ?_ | refine w_iap rfl rfl und25 kn5 rfl (by exact sz5.symm) rfl ?_ ?_
      · exact ⟨by omega, by omega⟩
      first | refine w_stw rfl (by constructor) kn5 rfl (by exact trivial) (sx) (by exact sz5.symm) ?_ | refine w_sti rfl rfl kn5 rfl (by exact trivial) (by exact sz5.symm) ?_ | refine w_store rfl (HV.eq (by constructor)) kn5 rfl (by exact trivial) (sx) (by exact sz5.symm) (put_in (by first | exact put_mat | exact put_tab | exact put_alg0 | exact put_pr0 | exact put_pr1 | exact put_pr2 | exact put_tn4 | exact put_grp0 | exact put_grp1 | exact put_alg1 | exact put_alg2 | exact put_alg3 | exact put_alg3i | exact put_alg2ij | exact put_alg2ijk | exact put_mat2 | exact put_tab2 | exact put_tab3)) ?_ | refine w_store rfl (HV.eq (by constructor)) kn5 rfl (by exact trivial) (by exact trivial) (by exact sz5.symm) rfl ?_
      exact hRR
    apply sr tokTB (by kernel_rfl)
    · intro RR hRR
      refine w_ldp rfl kn27 rfl (by constructor) (by exact sz27.symm) (by exact ag27.symm) ?_
      refine w_stw rfl (by constructor) kn27 rfl (by exact trivial) (sx) (by exact sz27.symm) ?_
      exact hRR
    refine snd_ret ?_
    exact rt_c (T := TB) rfl kn27 rfl sz27.symm ag27.symm (fun V => mt_alg rfl rfl (fun _ _ _ _ _ _ => rfl) (fun a ha => by match a, ha with | 0, _ => rfl | 1, _ => rfl | 2, _ => rfl | 3, _ => rfl | 4, _ => rfl | 5, _ => rfl))
theorem c_iClassAlgebra_ok {n : Nat} {G : Nat → Nat → Nat} (hG : RG G) (h : GN n G) {p : Int} (hp : primeB p = true) : ACalls Try.prog TB 26 [.int .i64 p, grpA (n : Int) G] (.tup 2 (pairA (algA p (((ccN n G) : Nat) : Int) (fillT3 (ccN n G) (caT p n G) ((ccN n G)) (0) (0)) (eF 0)) (.int .i64 0))) [] := by
  have hcl := closed_cgrp (n := (n : Int)) (G := G)
  have hcl2 := closed_grp (n := (n : Int)) (G := G)
  have hn6 := h.n6
  have hpb := primeB_bd hp
  have hc6 := h.cle
  refine acalls_of tokTB Try.func26 rfl rfl (Nat.le_of_ble_eq_true rfl) ?_
  apply sr tokTB (by kernel_rfl)
  · intro RR hRR
    refine w_boxc (HV.eq (by constructor)) (by exact trivial) ?_
    refine w_alloc kn27 rfl zr27 ?_
    refine w_assign (by constructor) ?_
    exact hRR
  refine snd_seq ?_
  apply sr tokTB (by kernel_rfl)
  · intro RR hRR
    refine w_move (by constructor) ?_
    refine w_ldc rfl kn38 (by constructor) (by exact sz38.symm) (by exact ag38.symm) ?_
    refine y_call rfl (ec (exc exp_grp exn)) (c_primed_ok hG h hp) ?_
    refine w_assign (by constructor) ?_
    exact hRR
  apply sr tokTB (by kernel_rfl)
  · intro RR hRR
    refine w_move (by constructor) ?_
    refine w_neq rfl rfl ?_
    exact hRR
  refine snd_cond_false rfl ?_
  refine snd_skip ?_
  apply sr tokTB (by kernel_rfl)
  · intro RR hRR
    refine w_move (by constructor) ?_
    refine y_call rfl (exc exp_cgrp (ec exn)) (c_classAlgebra hG h hp) ?_
    refine w_stw rfl (by constructor) kn27 rfl (by exact trivial) (sx) (by exact sz27.symm) ?_
    refine w_assign (by constructor) ?_
    exact hRR
  refine snd_ret ?_
  show retQ TB _ _ _ _ _ _
  exact rt_ct (T := TB) rfl kn27 rfl (by exact sz27.symm) (by exact ag27.symm) (fun V => mt_alg rfl rfl (fun _ _ _ _ _ _ => rfl) (fun _ _ => rfl)) (fun V => rfl)
theorem c_iClassAlgebra_pr {n : Nat} {G : Nat → Nat → Nat} (hG : RG G) (h : GN n G) {p : Int} (hp : primeB p = false) : ACalls Try.prog TB 26 [.int .i64 p, grpA (n : Int) G] (.tup 2 (pairA (algA 0 0 (fun _ _ _ => 0) (fun _ => 0)) (.int .i64 2))) [] := by
  have hcl := closed_cgrp (n := (n : Int)) (G := G)
  have hcl2 := closed_grp (n := (n : Int)) (G := G)
  refine acalls_of tokTB Try.func26 rfl rfl (Nat.le_of_ble_eq_true rfl) ?_
  apply sr tokTB (by kernel_rfl)
  · intro RR hRR
    refine w_boxc (HV.eq (by constructor)) (by exact trivial) ?_
    refine w_alloc kn27 rfl zr27 ?_
    refine w_assign (by constructor) ?_
    exact hRR
  refine snd_seq ?_
  apply sr tokTB (by kernel_rfl)
  · intro RR hRR
    refine w_move (by constructor) ?_
    refine w_ldc rfl kn38 (by constructor) (by exact sz38.symm) (by exact ag38.symm) ?_
    refine y_call rfl (ec (exc exp_grp exn)) (c_primed_pr hG h hp) ?_
    refine w_assign (by constructor) ?_
    exact hRR
  apply sr tokTB (by kernel_rfl)
  · intro RR hRR
    refine w_move (by constructor) ?_
    refine w_neq rfl rfl ?_
    exact hRR
  refine snd_cond_true rfl ?_
  apply sr tokTB (by kernel_rfl)
  · intro RR hRR
    refine w_bld_s kn27 zr27 und27 rfl (by exact ⟨rfl, kn2, sz2, rfl, kn2, sz2, rfl, kn24, sz24, rfl, kn25, sz25, trivial⟩) trivial rfl ?_
    refine w_move (by constructor) ?_
    refine w_stw rfl (by constructor) kn27 rfl (by exact trivial) (sx) (by exact sz27.symm) ?_
    refine w_assign (by constructor) ?_
    exact hRR
  refine snd_ret ?_
  show retQ TB _ _ _ _ _ _
  exact rt_ct (T := TB) rfl kn27 rfl (by exact sz27.symm) (by exact ag27.symm) (fun V => m_alg) (fun V => rfl)
theorem c_iClassAlgebra_no {n : Int} {G : Nat → Nat → Nat} (hG : RG G) {p : Int} (h : ¬ GZ n G) : ACalls Try.prog TB 26 [.int .i64 p, grpA n G] (.tup 2 (pairA (algA 0 0 (fun _ _ _ => 0) (fun _ => 0)) (.int .i64 1))) [] := by
  have hcl2 := closed_grp (n := n) (G := G)
  refine acalls_of tokTB Try.func26 rfl rfl (Nat.le_of_ble_eq_true rfl) ?_
  apply sr tokTB (by kernel_rfl)
  · intro RR hRR
    refine w_boxc (HV.eq (by constructor)) (by exact trivial) ?_
    refine w_alloc kn27 rfl zr27 ?_
    refine w_assign (by constructor) ?_
    exact hRR
  refine snd_seq ?_
  apply sr tokTB (by kernel_rfl)
  · intro RR hRR
    refine w_move (by constructor) ?_
    refine w_ldc rfl kn38 (by constructor) (by exact sz38.symm) (by exact ag38.symm) ?_
    refine y_call rfl (ec (exc exp_grp exn)) (c_primed_no hG h) ?_
    refine w_assign (by constructor) ?_
    exact hRR
  apply sr tokTB (by kernel_rfl)
  · intro RR hRR
    refine w_move (by constructor) ?_
    refine w_neq rfl rfl ?_
    exact hRR
  refine snd_cond_true rfl ?_
  apply sr tokTB (by kernel_rfl)
  · intro RR hRR
    refine w_bld_s kn27 zr27 und27 rfl (by exact ⟨rfl, kn2, sz2, rfl, kn2, sz2, rfl, kn24, sz24, rfl, kn25, sz25, trivial⟩) trivial rfl ?_
    refine w_move (by constructor) ?_
    refine w_stw rfl (by constructor) kn27 rfl (by exact trivial) (sx) (by exact sz27.symm) ?_
    refine w_assign (by constructor) ?_
    exact hRR
  refine snd_ret ?_
  show retQ TB _ _ _ _ _ _
  exact rt_ct (T := TB) rfl kn27 rfl (by exact sz27.symm) (by exact ag27.symm) (fun V => m_alg) (fun V => rfl)
theorem c_sClassAlgebra_ok {n : Nat} {G : Nat → Nat → Nat} (hG : RG G) (h : GN n G) {p : Int} (hp : primeB p = true) : ACalls Try.prog TB 25 [.int .i64 p, grpA (n : Int) G] (.tup 2 (pairA (algA p (((ccN n G) : Nat) : Int) (fillT3 (ccN n G) (caT p n G) ((ccN n G)) (0) (0)) (eF 0)) (.int .i64 0))) [] := by
  have hcl := closed_cgrp (n := (n : Int)) (G := G)
  have hcl2 := closed_grp (n := (n : Int)) (G := G)
  have hn6 := h.n6
  have hpb := primeB_bd hp
  have hc6 := h.cle
  refine acalls_of tokTB Try.func25 rfl rfl (Nat.le_of_ble_eq_true rfl) ?_
  apply sr tokTB (by kernel_rfl)
  · intro RR hRR
    refine w_boxc (HV.eq (by constructor)) (by exact trivial) ?_
    refine w_alloc kn27 rfl zr27 ?_
    refine w_assign (by constructor) ?_
    exact hRR
  refine snd_seq ?_
  apply sr tokTB (by kernel_rfl)
  · intro RR hRR
    refine w_move (by constructor) ?_
    refine w_ldc rfl kn38 (by constructor) (by exact sz38.symm) (by exact ag38.symm) ?_
    refine y_call rfl (ec (exc exp_grp exn)) (c_l06Code_ok hG h hp) ?_
    refine w_assign (by constructor) ?_
    exact hRR
  apply sr tokTB (by kernel_rfl)
  · intro RR hRR
    refine w_move (by constructor) ?_
    refine w_neq rfl rfl ?_
    exact hRR
  refine snd_cond_false rfl ?_
  refine snd_skip ?_
  apply sr tokTB (by kernel_rfl)
  · intro RR hRR
    refine w_move (by constructor) ?_
    refine w_ldc rfl kn38 (by constructor) (by exact sz38.symm) (by exact ag38.symm) ?_
    refine y_call rfl (ec (exc exp_grp exn)) (c_l06ClassAlgebra hG h hp) ?_
    refine w_stw rfl (by constructor) kn27 rfl (by exact trivial) (sx) (by exact sz27.symm) ?_
    refine w_assign (by constructor) ?_
    exact hRR
  refine snd_ret ?_
  show retQ TB _ _ _ _ _ _
  exact rt_ct (T := TB) rfl kn27 rfl (by exact sz27.symm) (by exact ag27.symm) (fun V => mt_alg rfl rfl (fun _ _ _ _ _ _ => rfl) (fun _ _ => rfl)) (fun V => rfl)
theorem c_sClassAlgebra_pr {n : Nat} {G : Nat → Nat → Nat} (hG : RG G) (h : GN n G) {p : Int} (hp : primeB p = false) : ACalls Try.prog TB 25 [.int .i64 p, grpA (n : Int) G] (.tup 2 (pairA (algA 0 0 (fun _ _ _ => 0) (fun _ => 0)) (.int .i64 2))) [] := by
  have hcl := closed_cgrp (n := (n : Int)) (G := G)
  have hcl2 := closed_grp (n := (n : Int)) (G := G)
  refine acalls_of tokTB Try.func25 rfl rfl (Nat.le_of_ble_eq_true rfl) ?_
  apply sr tokTB (by kernel_rfl)
  · intro RR hRR
    refine w_boxc (HV.eq (by constructor)) (by exact trivial) ?_
    refine w_alloc kn27 rfl zr27 ?_
    refine w_assign (by constructor) ?_
    exact hRR
  refine snd_seq ?_
  apply sr tokTB (by kernel_rfl)
  · intro RR hRR
    refine w_move (by constructor) ?_
    refine w_ldc rfl kn38 (by constructor) (by exact sz38.symm) (by exact ag38.symm) ?_
    refine y_call rfl (ec (exc exp_grp exn)) (c_l06Code_pr hG h hp) ?_
    refine w_assign (by constructor) ?_
    exact hRR
  apply sr tokTB (by kernel_rfl)
  · intro RR hRR
    refine w_move (by constructor) ?_
    refine w_neq rfl rfl ?_
    exact hRR
  refine snd_cond_true rfl ?_
  apply sr tokTB (by kernel_rfl)
  · intro RR hRR
    refine w_bld_s kn27 zr27 und27 rfl (by exact ⟨rfl, kn2, sz2, rfl, kn2, sz2, rfl, kn24, sz24, rfl, kn25, sz25, trivial⟩) trivial rfl ?_
    refine w_move (by constructor) ?_
    refine w_stw rfl (by constructor) kn27 rfl (by exact trivial) (sx) (by exact sz27.symm) ?_
    refine w_assign (by constructor) ?_
    exact hRR
  refine snd_ret ?_
  show retQ TB _ _ _ _ _ _
  exact rt_ct (T := TB) rfl kn27 rfl (by exact sz27.symm) (by exact ag27.symm) (fun V => m_alg) (fun V => rfl)
theorem c_sClassAlgebra_no {n : Int} {G : Nat → Nat → Nat} (hG : RG G) {p : Int} (h : ¬ GZ n G) : ACalls Try.prog TB 25 [.int .i64 p, grpA n G] (.tup 2 (pairA (algA 0 0 (fun _ _ _ => 0) (fun _ => 0)) (.int .i64 1))) [] := by
  have hcl2 := closed_grp (n := n) (G := G)
  refine acalls_of tokTB Try.func25 rfl rfl (Nat.le_of_ble_eq_true rfl) ?_
  apply sr tokTB (by kernel_rfl)
  · intro RR hRR
    refine w_boxc (HV.eq (by constructor)) (by exact trivial) ?_
    refine w_alloc kn27 rfl zr27 ?_
    refine w_assign (by constructor) ?_
    exact hRR
  refine snd_seq ?_
  apply sr tokTB (by kernel_rfl)
  · intro RR hRR
    refine w_move (by constructor) ?_
    refine w_ldc rfl kn38 (by constructor) (by exact sz38.symm) (by exact ag38.symm) ?_
    refine y_call rfl (ec (exc exp_grp exn)) (c_l06Code_no hG h) ?_
    refine w_assign (by constructor) ?_
    exact hRR
  apply sr tokTB (by kernel_rfl)
  · intro RR hRR
    refine w_move (by constructor) ?_
    refine w_neq rfl rfl ?_
    exact hRR
  refine snd_cond_true rfl ?_
  apply sr tokTB (by kernel_rfl)
  · intro RR hRR
    refine w_bld_s kn27 zr27 und27 rfl (by exact ⟨rfl, kn2, sz2, rfl, kn2, sz2, rfl, kn24, sz24, rfl, kn25, sz25, trivial⟩) trivial rfl ?_
    refine w_move (by constructor) ?_
    refine w_stw rfl (by constructor) kn27 rfl (by exact trivial) (sx) (by exact sz27.symm) ?_
    refine w_assign (by constructor) ?_
    exact hRR
  refine snd_ret ?_
  show retQ TB _ _ _ _ _ _
  exact rt_ct (T := TB) rfl kn27 rfl (by exact sz27.symm) (by exact ag27.symm) (fun V => m_alg) (fun V => rfl)
theorem lClassAlgebra_ok {n : Nat} {G : Nat → Nat → Nat} (hG : RG G) (h : GN n G) {p : Int} (hp : primeB p = true) : ACalls Try.prog TB 7 [.int .i64 p, grpA (n : Int) G] (.bool true) [] := by
  refine acalls_of tokTB Try.func7 rfl rfl (Nat.le_of_ble_eq_true rfl) ?_
  apply sr tokTB (by kernel_rfl)
  · intro RR hRR
    refine w_boxc (HV.eq (by constructor)) (by exact trivial) ?_
    refine w_assign (by constructor) ?_
    exact hRR
  apply sr tokTB (by kernel_rfl)
  · intro RR hRR
    refine w_move (by constructor) ?_
    refine w_ldc rfl kn34 (by constructor) (by exact sz34.symm) (by exact ag34.symm) ?_
    refine w_call0 rfl (exc exp_grp exn) (c_toGroup) nr_grp (fun _ => shift_grp) ?_
    refine y_call rfl (ec (exc exp_grp exn)) (c_sClassAlgebra_ok hG h hp) ?_
    refine w_move (by constructor) ?_
    refine w_ext rfl (by decide) (by constructor) ?_
    refine w_ext rfl (by decide) (by constructor) ?_
    refine w_alloc kn27 rfl zr27 ?_
    refine w_stw rfl (by constructor) kn27 rfl (by exact trivial) (sx) (by exact sz27.symm) ?_
    refine w_assign (by constructor) ?_
    exact hRR
  apply sr tokTB (by kernel_rfl)
  · intro RR hRR
    refine w_move (by constructor) ?_
    refine w_ldc rfl kn34 (by constructor) (by exact sz34.symm) (by exact ag34.symm) ?_
    refine w_call0 rfl (exc exp_grp exn) (c_toGroup) nr_grp (fun _ => shift_grp) ?_
    refine y_call rfl (ec (exc exp_grp exn)) (c_iClassAlgebra_ok hG h hp) ?_
    refine w_move (by constructor) ?_
    refine w_ext rfl (by decide) (by constructor) ?_
    refine w_ext rfl (by decide) (by constructor) ?_
    refine w_alloc kn27 rfl zr27 ?_
    refine w_stw rfl (by constructor) kn27 rfl (by exact trivial) (sx) (by exact sz27.symm) ?_
    refine w_assign (by constructor) ?_
    exact hRR
  refine snd_seq ?_
  apply srG (env' := (31, .bool (!true || decide ((0 : Int) ≠ 0))) :: (30, .any) :: (29, .any) :: (28, .any) :: (27, _) :: (26, _) :: (25, _) :: (24, _) :: (23, _) :: _) tokTB (by kernel_rfl)
  · intro RR hRR
    refine w_ldp rfl kn27 rfl (by constructor) (by exact sz27.symm) (by exact ag27.symm) ?_
    refine w_ldp rfl kn27 rfl (by constructor) (by exact sz27.symm) (by exact ag27.symm) ?_
    refine y_call rfl (ec (ec exn)) (c_eqAlgebra) ?_
    refine w_not rfl ?_
    refine w_move (by constructor) ?_
    refine w_g rfl rfl (fun hg4 => ?_) (fun hg4 => ?_)
    · skip
      refine w_move (by constructor) ?_
      refine w_g_on rfl rfl hg4 ?_
      refine w_move (by constructor) ?_
      refine w_g_on rfl rfl hg4 ?_
      refine w_neq rfl rfl ?_
      refine w_pick_0 rfl hg4 (by constructor) ?_
      try simp only [Int.toNat_natCast] at hg4
      exact hRR _ (EL.cons (.inr (by first | rfl | (simp only [hg4, els]; done) | (simp only [hg4, els]; rfl) | (simp [hg4]; done) | (clear hRR; simp_all; done))) (EL.cons (.inl rfl) (EL.cons (.inl rfl) (EL.cons (.inl rfl) (EL.cons (.inr rfl) (EL.cons (.inr rfl) (EL.cons (.inr rfl) (EL.cons (.inr rfl) (EL.cons (.inr rfl) (EL.refl _))))))))))
    · have hg4 := eq_true_of_ne_false hg4
      refine w_g_off rfl rfl (by rw [hg4]; decide) ?_
      refine w_g_off rfl rfl (by rw [hg4]; decide) ?_
      refine w_pick_1 rfl hg4 (by constructor) ?_
      try simp only [Int.toNat_natCast] at hg4
      exact hRR _ (EL.cons (.inr (by first | rfl | (simp only [hg4, els]; done) | (simp only [hg4, els]; rfl) | (simp [hg4]; done) | (clear hRR; simp_all; done))) (EL.cons (.inl rfl) (EL.cons (.inl rfl) (EL.cons (.inl rfl) (EL.cons (.inr rfl) (EL.cons (.inr rfl) (EL.cons (.inr rfl) (EL.cons (.inr rfl) (EL.cons (.inr rfl) (EL.refl _))))))))))
  refine snd_cond _ rfl (fun hc31 => ?_) (fun hc31 => ?_)
  · skip
    exact absurd hc31 (by simp [eqN])
  · skip
    refine snd_skip ?_
    apply sr tokTB (by kernel_rfl)
    · intro RR hRR
      refine w_assign (by constructor) ?_
      exact hRR
    refine snd_ret ?_
    exact rt (T := TB) (fun V => by first | exact m_bool rfl | exact m_int rfl)
theorem lClassAlgebra_pr {n : Nat} {G : Nat → Nat → Nat} (hG : RG G) (h : GN n G) {p : Int} (hp : primeB p = false) : ACalls Try.prog TB 7 [.int .i64 p, grpA (n : Int) G] (.bool true) [] := by
  refine acalls_of tokTB Try.func7 rfl rfl (Nat.le_of_ble_eq_true rfl) ?_
  apply sr tokTB (by kernel_rfl)
  · intro RR hRR
    refine w_boxc (HV.eq (by constructor)) (by exact trivial) ?_
    refine w_assign (by constructor) ?_
    exact hRR
  apply sr tokTB (by kernel_rfl)
  · intro RR hRR
    refine w_move (by constructor) ?_
    refine w_ldc rfl kn34 (by constructor) (by exact sz34.symm) (by exact ag34.symm) ?_
    refine w_call0 rfl (exc exp_grp exn) (c_toGroup) nr_grp (fun _ => shift_grp) ?_
    refine y_call rfl (ec (exc exp_grp exn)) (c_sClassAlgebra_pr hG h hp) ?_
    refine w_move (by constructor) ?_
    refine w_ext rfl (by decide) (by constructor) ?_
    refine w_ext rfl (by decide) (by constructor) ?_
    refine w_alloc kn27 rfl zr27 ?_
    refine w_stw rfl (by constructor) kn27 rfl (by exact trivial) (sx) (by exact sz27.symm) ?_
    refine w_assign (by constructor) ?_
    exact hRR
  apply sr tokTB (by kernel_rfl)
  · intro RR hRR
    refine w_move (by constructor) ?_
    refine w_ldc rfl kn34 (by constructor) (by exact sz34.symm) (by exact ag34.symm) ?_
    refine w_call0 rfl (exc exp_grp exn) (c_toGroup) nr_grp (fun _ => shift_grp) ?_
    refine y_call rfl (ec (exc exp_grp exn)) (c_iClassAlgebra_pr hG h hp) ?_
    refine w_move (by constructor) ?_
    refine w_ext rfl (by decide) (by constructor) ?_
    refine w_ext rfl (by decide) (by constructor) ?_
    refine w_alloc kn27 rfl zr27 ?_
    refine w_stw rfl (by constructor) kn27 rfl (by exact trivial) (sx) (by exact sz27.symm) ?_
    refine w_assign (by constructor) ?_
    exact hRR
  refine snd_seq ?_
  apply srG (env' := (31, .bool (!true || decide ((2 : Int) ≠ 2))) :: (30, .any) :: (29, .any) :: (28, .any) :: (27, _) :: (26, _) :: (25, _) :: (24, _) :: (23, _) :: _) tokTB (by kernel_rfl)
  · intro RR hRR
    refine w_ldp rfl kn27 rfl (by constructor) (by exact sz27.symm) (by exact ag27.symm) ?_
    refine w_ldp rfl kn27 rfl (by constructor) (by exact sz27.symm) (by exact ag27.symm) ?_
    refine y_call rfl (ec (ec exn)) (c_eqAlgebra) ?_
    refine w_not rfl ?_
    refine w_move (by constructor) ?_
    refine w_g rfl rfl (fun hg4 => ?_) (fun hg4 => ?_)
    · skip
      refine w_move (by constructor) ?_
      refine w_g_on rfl rfl hg4 ?_
      refine w_move (by constructor) ?_
      refine w_g_on rfl rfl hg4 ?_
      refine w_neq rfl rfl ?_
      refine w_pick_0 rfl hg4 (by constructor) ?_
      try simp only [Int.toNat_natCast] at hg4
      exact hRR _ (EL.cons (.inr (by first | rfl | (simp only [hg4, els]; done) | (simp only [hg4, els]; rfl) | (simp [hg4]; done) | (clear hRR; simp_all; done))) (EL.cons (.inl rfl) (EL.cons (.inl rfl) (EL.cons (.inl rfl) (EL.cons (.inr rfl) (EL.cons (.inr rfl) (EL.cons (.inr rfl) (EL.cons (.inr rfl) (EL.cons (.inr rfl) (EL.refl _))))))))))
    · have hg4 := eq_true_of_ne_false hg4
      refine w_g_off rfl rfl (by rw [hg4]; decide) ?_
      refine w_g_off rfl rfl (by rw [hg4]; decide) ?_
      refine w_pick_1 rfl hg4 (by constructor) ?_
      try simp only [Int.toNat_natCast] at hg4
      exact hRR _ (EL.cons (.inr (by first | rfl | (simp only [hg4, els]; done) | (simp only [hg4, els]; rfl) | (simp [hg4]; done) | (clear hRR; simp_all; done))) (EL.cons (.inl rfl) (EL.cons (.inl rfl) (EL.cons (.inl rfl) (EL.cons (.inr rfl) (EL.cons (.inr rfl) (EL.cons (.inr rfl) (EL.cons (.inr rfl) (EL.cons (.inr rfl) (EL.refl _))))))))))
  refine snd_cond _ rfl (fun hc31 => ?_) (fun hc31 => ?_)
  · skip
    exact absurd hc31 (by simp [eqN])
  · skip
    refine snd_skip ?_
    apply sr tokTB (by kernel_rfl)
    · intro RR hRR
      refine w_assign (by constructor) ?_
      exact hRR
    refine snd_ret ?_
    exact rt (T := TB) (fun V => by first | exact m_bool rfl | exact m_int rfl)
theorem lClassAlgebra_no {n : Int} {G : Nat → Nat → Nat} (hG : RG G) {p : Int} (h : ¬ GZ n G) : ACalls Try.prog TB 7 [.int .i64 p, grpA n G] (.bool true) [] := by
  refine acalls_of tokTB Try.func7 rfl rfl (Nat.le_of_ble_eq_true rfl) ?_
  apply sr tokTB (by kernel_rfl)
  · intro RR hRR
    refine w_boxc (HV.eq (by constructor)) (by exact trivial) ?_
    refine w_assign (by constructor) ?_
    exact hRR
  apply sr tokTB (by kernel_rfl)
  · intro RR hRR
    refine w_move (by constructor) ?_
    refine w_ldc rfl kn34 (by constructor) (by exact sz34.symm) (by exact ag34.symm) ?_
    refine w_call0 rfl (exc exp_grp exn) (c_toGroup) nr_grp (fun _ => shift_grp) ?_
    refine y_call rfl (ec (exc exp_grp exn)) (c_sClassAlgebra_no hG h) ?_
    refine w_move (by constructor) ?_
    refine w_ext rfl (by decide) (by constructor) ?_
    refine w_ext rfl (by decide) (by constructor) ?_
    refine w_alloc kn27 rfl zr27 ?_
    refine w_stw rfl (by constructor) kn27 rfl (by exact trivial) (sx) (by exact sz27.symm) ?_
    refine w_assign (by constructor) ?_
    exact hRR
  apply sr tokTB (by kernel_rfl)
  · intro RR hRR
    refine w_move (by constructor) ?_
    refine w_ldc rfl kn34 (by constructor) (by exact sz34.symm) (by exact ag34.symm) ?_
    refine w_call0 rfl (exc exp_grp exn) (c_toGroup) nr_grp (fun _ => shift_grp) ?_
    refine y_call rfl (ec (exc exp_grp exn)) (c_iClassAlgebra_no hG h) ?_
    refine w_move (by constructor) ?_
    refine w_ext rfl (by decide) (by constructor) ?_
    refine w_ext rfl (by decide) (by constructor) ?_
    refine w_alloc kn27 rfl zr27 ?_
    refine w_stw rfl (by constructor) kn27 rfl (by exact trivial) (sx) (by exact sz27.symm) ?_
    refine w_assign (by constructor) ?_
    exact hRR
  refine snd_seq ?_
  apply srG (env' := (31, .bool (!true || decide ((1 : Int) ≠ 1))) :: (30, .any) :: (29, .any) :: (28, .any) :: (27, _) :: (26, _) :: (25, _) :: (24, _) :: (23, _) :: _) tokTB (by kernel_rfl)
  · intro RR hRR
    refine w_ldp rfl kn27 rfl (by constructor) (by exact sz27.symm) (by exact ag27.symm) ?_
    refine w_ldp rfl kn27 rfl (by constructor) (by exact sz27.symm) (by exact ag27.symm) ?_
    refine y_call rfl (ec (ec exn)) (c_eqAlgebra) ?_
    refine w_not rfl ?_
    refine w_move (by constructor) ?_
    refine w_g rfl rfl (fun hg4 => ?_) (fun hg4 => ?_)
    · skip
      refine w_move (by constructor) ?_
      refine w_g_on rfl rfl hg4 ?_
      refine w_move (by constructor) ?_
      refine w_g_on rfl rfl hg4 ?_
      refine w_neq rfl rfl ?_
      refine w_pick_0 rfl hg4 (by constructor) ?_
      try simp only [Int.toNat_natCast] at hg4
      exact hRR _ (EL.cons (.inr (by first | rfl | (simp only [hg4, els]; done) | (simp only [hg4, els]; rfl) | (simp [hg4]; done) | (clear hRR; simp_all; done))) (EL.cons (.inl rfl) (EL.cons (.inl rfl) (EL.cons (.inl rfl) (EL.cons (.inr rfl) (EL.cons (.inr rfl) (EL.cons (.inr rfl) (EL.cons (.inr rfl) (EL.cons (.inr rfl) (EL.refl _))))))))))
    · have hg4 := eq_true_of_ne_false hg4
      refine w_g_off rfl rfl (by rw [hg4]; decide) ?_
      refine w_g_off rfl rfl (by rw [hg4]; decide) ?_
      refine w_pick_1 rfl hg4 (by constructor) ?_
      try simp only [Int.toNat_natCast] at hg4
      exact hRR _ (EL.cons (.inr (by first | rfl | (simp only [hg4, els]; done) | (simp only [hg4, els]; rfl) | (simp [hg4]; done) | (clear hRR; simp_all; done))) (EL.cons (.inl rfl) (EL.cons (.inl rfl) (EL.cons (.inl rfl) (EL.cons (.inr rfl) (EL.cons (.inr rfl) (EL.cons (.inr rfl) (EL.cons (.inr rfl) (EL.cons (.inr rfl) (EL.refl _))))))))))
  refine snd_cond _ rfl (fun hc31 => ?_) (fun hc31 => ?_)
  · skip
    exact absurd hc31 (by simp [eqN])
  · skip
    refine snd_skip ?_
    apply sr tokTB (by kernel_rfl)
    · intro RR hRR
      refine w_assign (by constructor) ?_
      exact hRR
    refine snd_ret ?_
    exact rt (T := TB) (fun V => by first | exact m_bool rfl | exact m_int rfl)
theorem law_ClassAlgebra (p : Int) {n : Int} {G : Nat → Nat → Nat} (hG : RG G) : ACalls Try.prog TB 7 [.int .i64 p, grpA n G] (.bool true) [] := by
  by_cases h : GZ n G
  · obtain ⟨m, rfl, hm⟩ := GZ_of h
    cases hp : primeB p with
    | true => exact lClassAlgebra_ok hG hm hp
    | false => exact lClassAlgebra_pr hG hm hp
  · exact lClassAlgebra_no hG h
end Go.Am

