/- Part 4 of what the law stands on: abstract values, their walk, contracts of functions. My own work. Conditions: none. -/
import Derived.Test.YtndlghhhkgjohaaPart3
set_option linter.unusedVariables false
set_option linter.unusedSimpArgs false
set_option maxRecDepth 4000
namespace Go.Am
attribute [local irreducible] retQ retQp
open Go.Proofs
theorem c_classes {n : Nat} {G : Nat → Nat → Nat} (hG : RG G) (h : GN n G) : ACalls Try.prog TB 35 [.cptr (grpA (n : Int) G)] (.own 0 0 (ccN n G) 62) [(0, .one (ZR (ccN n G)) (CO 1 (ccN n G) (ccW n G) 2)), (1, .many (famF (ccN n G) (ccW n G) (ccF n G)))] := by
  have hcl := closed_cgrp (n := (n : Int)) (G := G)
  have hcl2 := closed_grp (n := (n : Int)) (G := G)
  have hn6 := h.n6
  refine acalls_of tokTB Try.func35 rfl rfl (Nat.le_of_ble_eq_true rfl) ?_
  apply sr tokTB (by kernel_rfl)
  · intro RR hRR
    refine w_assign (by constructor) ?_
    exact hRR
  apply sr tokTB (by kernel_rfl)
  · intro RR hRR
    refine w_bsl und35 kn62 (by rw [sz62]; rfl) rfl trivial trivial rfl ?_
    refine w_assign (by constructor) ?_
    exact hRR
  refine snd_seq ?_
  apply sr tokTB (by kernel_rfl)
  · intro RR hRR
    refine w_move (by constructor) ?_
    refine y_call rfl (exc exp_cgrp exn) (c_gn) ?_
    refine w_move (by constructor) ?_
    exact hRR
  refine snd_block ?_
  refine snd_loop (S := Nat) (fun i => ([(0, .cptr (grpA (n : Int) G)), (3, .own 905 0 (enN (repB n G) (i)) 62), (8, .int .i64 (n : Int)), (9, .int .i64 (i : Int))], [(905, .one (ZR (enN (repB n G) (i))) (CO 1 (enN (repB n G) (i)) (ccW n G) 2)), (1, .many (famF (enN (repB n G) (i)) (ccW n G) (ccF n G)))])) (fun i => i ≤ n) (fun i => n - i) (0) (ρL [(905, 6)] 1 0 912) ?_ ?_ ?_
  · exact emb_famL (by decide) rfl rfl rfl rfl (fun j hj => absurd hj (Nat.not_lt_zero _)) (fun q => absurd q (Nat.not_lt_zero _)) (fun q => absurd q (Nat.not_lt_zero _)) (fun r hr => absurd hr (Nat.not_lt_zero _)) trivial ⟨m_cgrp, (by first | exact ⟨rfl, rfl, rfl, rfl⟩ | exact ⟨rfl, by omega, rfl, rfl⟩), (mi), (mi), trivial⟩
  · exact Nat.zero_le _
  intro i hi0
  refine sq (env2 := [(0, .cptr (grpA (n : Int) G)), (3, .own 905 0 (enN (repB n G) (i)) 62), (8, .int .i64 (n : Int)), (9, .int .i64 (i : Int))]) (ol2 := [(905, .one (ZR (enN (repB n G) (i))) (CO 1 (enN (repB n G) (i)) (ccW n G) 2)), (1, .many (famF (enN (repB n G) (i)) (ccW n G) (ccF n G)))]) rfl rfl ?_
  apply sr tokTB (by kernel_rfl)
  · intro RR hRR
    refine w_lss rfl rfl ?_
    exact hRR
  refine snd_seq ?_
  refine snd_cond _ rfl (fun hc10 => ?_) (fun hc10 => ?_)
  · try simp only [hcs] at hc10
    have lt_i : i < n := by omega
    have hei := enN_le (repB n G) i
    refine snd_skip ?_
    refine snd_seq ?_
    refine snd_block ?_
    apply sr tokTB (by kernel_rfl)
    · intro RR hRR
      refine w_move (by constructor) ?_
      refine w_assign (by constructor) ?_
      exact hRR
    apply sr tokTB (by kernel_rfl)
    · intro RR hRR
      refine w_move (by constructor) ?_
      refine w_move (by constructor) ?_
      refine w_call rfl (exc exp_cgrp (ec exn)) (c_classOf hG h lt_i) (.inl ⟨trivial, ⟨fun _ => trivial, trivial⟩⟩) rfl (by constructor) rfl ?_
      refine w_assign (by constructor) ?_
      exact hRR
    apply sr tokTB (by kernel_rfl)
    · intro RR hRR
      refine w_move (by constructor) ?_
      refine w_iao rfl rfl und62 kn2 ?_ ?_
      · exact ⟨Int.le_refl _, (show (0 : Int) < ((clN n G i : Nat) : Int) by have := (h.cl_0 lt_i).1; omega)⟩
      first | refine w_ldc rfl kn2 (by constructor) (by exact sz2.symm) (by exact ag2.symm) ?_ | refine w_ldp rfl kn2 rfl (by constructor) (by exact sz2.symm) (by exact ag2.symm) ?_
      refine w_move (by constructor) ?_
      refine w_eql rfl rfl ?_
      exact hRR
    refine snd_cond _ rfl (fun hc19 => ?_) (fun hc19 => ?_)
    · skip
      have hrep : repB n G i = true := (h.cl_0 lt_i).2.1 (by have q : ((clF n G i 0 : Nat) : Int) = (i : Int) := of_decide_eq_true hc19; omega)
      obtain ⟨hen, hri⟩ := en_at hrep n lt_i
      have hri : rpF n G (enN (repB n G) i) = i := hri
      have hs := en_t hrep
      apply lr tokTB (by kernel_rfl)
      · intro RR hRR
        refine w_move (by constructor) ?_
        refine w_move (by constructor) ?_
        refine w_bsl1 und35 kn62 (by rw [sz62]; rfl) rfl (by constructor) (by first | exact trivial | exact cel_cap2) (by exact sz62.symm) (by first | exact trivial | exact ssh_vec | exact ⟨rfl, fun _ => trivial⟩) ?_
        refine w_app_o und35 rfl rfl kn62 rfl rfl (fun C h => ⟨rfl, rfl, rfl, h⟩) (by rw [by62]; omega) (by omega) rfl ?_
        refine w_assign (by constructor) ?_
        exact hRR
      apply lr tokTB (by kernel_rfl)
      · intro RR hRR
        refine y_add rfl rfl ?_
        refine w_move (by constructor) ?_
        exact hRR
      refine ⟨i + 1, (ρL [(905, 23)] 1 (enN (repB n G) i) 15000), ?_, (by omega), (by dsimp only; omega)⟩
      show Emb _ _ _ [(0, .cptr (grpA (n : Int) G)), (3, .own 905 0 (enN (repB n G) ((i + 1))) 62), (8, .int .i64 (n : Int)), (9, .int .i64 ((i + 1) : Int))] [(905, .one (ZR (enN (repB n G) ((i + 1)))) (CO 1 (enN (repB n G) ((i + 1))) (ccW n G) 2)), (1, .many (famF (enN (repB n G) ((i + 1))) (ccW n G) (ccF n G)))]
      rw [hs]
      exact emb_famL (by decide) rfl rfl rfl rfl (fun j hj hne => appF_lt (by omega)) (fun _ => (appF_ge (Nat.le_refl _) (by omega)).trans (by rw [Nat.sub_self]; show AV.own 15000 0 (clN n G i) 2 = AV.own 15000 0 (clN n G (rpF n G (enN (repB n G) i))) 2; rw [hri])) (fun _ => ⟨_, (by show _ = some (Z64 (clN n G (rpF n G (enN (repB n G) i))), _); rw [hri]; exact rfl), fun V => (by show Mt V (C64 (clN n G (rpF n G (enN (repB n G) i))) (fun z => ((clF n G (rpF n G (enN (repB n G) i)) z : Nat) : Int))) _; rw [hri]; exact mt_vec (fun _ _ => rfl))⟩) (fun r hr hne => ⟨_, famF_at (w := (ccW n G)) (F := (ccF n G)) (by omega), fun V => mt_vec (fun _ _ => rfl)⟩) trivial ⟨m_cgrp, (by first | exact ⟨rfl, rfl, rfl, rfl⟩ | exact ⟨rfl, by omega, rfl, rfl⟩), (mi), (mi), trivial⟩
    · skip
      have hs := en_f (Bool.eq_false_iff.2 (fun q => (of_decide_eq_false hc19) (by show ((clF n G i 0 : Nat) : Int) = (i : Int); have := (h.cl_0 lt_i).2.2 q; omega)))
      refine snd_skip ?_
      apply lr tokTB (by kernel_rfl)
      · intro RR hRR
        refine y_add rfl rfl ?_
        refine w_move (by constructor) ?_
        exact hRR
      refine ⟨i + 1, (ρL [(905, 905)] 1 (enN (repB n G) i) 912), ?_, (by omega), (by dsimp only; omega)⟩
      show Emb _ _ _ [(0, .cptr (grpA (n : Int) G)), (3, .own 905 0 (enN (repB n G) ((i + 1))) 62), (8, .int .i64 (n : Int)), (9, .int .i64 ((i + 1) : Int))] [(905, .one (ZR (enN (repB n G) ((i + 1)))) (CO 1 (enN (repB n G) ((i + 1))) (ccW n G) 2)), (1, .many (famF (enN (repB n G) ((i + 1))) (ccW n G) (ccF n G)))]
      rw [hs]
      exact emb_famL (by decide) rfl rfl rfl rfl (fun j hj hne => rfl) (fun q => absurd q (by omega)) (fun q => absurd q (by omega)) (fun r hr hne => ⟨_, famF_at (w := (ccW n G)) (F := (ccF n G)) (by omega), fun V => mt_vec (fun _ _ => rfl)⟩) trivial ⟨m_cgrp, (by first | exact ⟨rfl, rfl, rfl, rfl⟩ | exact ⟨rfl, by omega, rfl, rfl⟩), (mi), (mi), trivial⟩
  · try simp only [hcs] at hc10
    have ge_i : n = i := by omega
    subst ge_i
    refine snd_exit ?_
    apply sr tokTB (by kernel_rfl)
    · intro RR hRR
      refine w_move (by constructor) ?_
      refine w_assign (by constructor) ?_
      exact hRR
    refine snd_ret ?_
    show retQ TB _ _ _ _ _ _
    exact rt_fam (T := TB) (a := 905) rfl (by decide) rfl rfl (fun r hr => famF_at (c := ccN n G) (w := ccW n G) (F := ccF n G) hr)
theorem c_l06Classes {n : Nat} {G : Nat → Nat → Nat} (hG : RG G) (h : GN n G) : ACalls Try.prog TB 32 [grpA (n : Int) G] (.own 0 0 (ccN n G) 62) [(0, .one (ZR (ccN n G)) (CO 1 (ccN n G) (ccW n G) 2)), (1, .many (famF (ccN n G) (ccW n G) (ccF n G)))] := by
  have hcl := closed_cgrp (n := (n : Int)) (G := G)
  have hcl2 := closed_grp (n := (n : Int)) (G := G)
  have hn6 := h.n6
  refine acalls_of tokTB Try.func32 rfl rfl (Nat.le_of_ble_eq_true rfl) ?_
  apply sr tokTB (by kernel_rfl)
  · intro RR hRR
    refine w_boxc (HV.eq (by constructor)) (by exact trivial) ?_
    refine w_assign (by constructor) ?_
    exact hRR
  apply sr tokTB (by kernel_rfl)
  · intro RR hRR
    refine w_bld_a kn81 zr81 und81 kn4 (fun _ => (by exact sz4.symm)) trivial rfl (by exact sz4.symm) ?_
    refine w_bsl und35 kn62 (by rw [sz62]; rfl) rfl trivial trivial rfl ?_
    refine w_alloc kn81 rfl zr81 ?_
    refine w_stw rfl (by constructor) kn81 rfl (by exact trivial) (sx) (by exact sz81.symm) ?_
    refine w_assign (by constructor) ?_
    exact hRR
  refine snd_seq ?_
  apply sr tokTB (by kernel_rfl)
  · intro RR hRR
    refine w_assign (by constructor) ?_
    exact hRR
  refine snd_block ?_
  refine snd_loop (S := Nat) (fun i => ([(1, .cptr (grpA (n : Int) G)), (3, .ptr 3 0 [] 0 (.arr 6 (fun _ => .bool false))), (4, .own 905 0 (enN (repB n G) (i)) 62), (5, .int .i64 (i : Int))], [(905, .one (ZR (enN (repB n G) (i))) (CO 1 (enN (repB n G) (i)) (ccW n G) 2)), (1, .many (famF (enN (repB n G) (i)) (ccW n G) (ccF n G))), (3, .one (.arr 6 (fun _ => .bool false)) (.arr 6 (fun z => .bool (metF n G i z))))])) (fun i => i ≤ n) (fun i => n - i) (0) (ρL [(905, 11), (3, 3)] 1 0 912) ?_ ?_ ?_
  · exact emb_famL (by decide) rfl rfl rfl rfl (fun j hj => absurd hj (Nat.not_lt_zero _)) (fun q => absurd q (Nat.not_lt_zero _)) (fun q => absurd q (Nat.not_lt_zero _)) (fun r hr => absurd hr (Nat.not_lt_zero _)) ⟨⟨_, rfl, ⟨rfl, fun _ => trivial⟩, fun V => mt_bools (fun z hz => rfl)⟩, trivial⟩ ⟨m_cgrp, ⟨rfl, rfl, rfl, rfl, rfl⟩, (by first | exact ⟨rfl, rfl, rfl, rfl⟩ | exact ⟨rfl, by omega, rfl, rfl⟩), (mi), trivial⟩
  · exact Nat.zero_le _
  intro i hi0
  refine sq (env2 := [(1, .cptr (grpA (n : Int) G)), (3, .ptr 3 0 [] 0 (.arr 6 (fun _ => .bool false))), (4, .own 905 0 (enN (repB n G) (i)) 62), (5, .int .i64 (i : Int))]) (ol2 := [(905, .one (ZR (enN (repB n G) (i))) (CO 1 (enN (repB n G) (i)) (ccW n G) 2)), (1, .many (famF (enN (repB n G) (i)) (ccW n G) (ccF n G))), (3, .one (.arr 6 (fun _ => .bool false)) (.arr 6 (fun z => .bool (metF n G i z))))]) rfl rfl ?_
  refine snd_seq ?_
  apply sr tokTB (by kernel_rfl)
  · intro RR hRR
    refine w_move (by constructor) ?_
    refine w_fac rfl und38 rfl kn2 nz2 (by decide) rfl (by constructor) ?_
    refine w_ldc rfl kn2 (by constructor) (by exact sz2.symm) (by exact ag2.symm) ?_
    refine w_lss rfl rfl ?_
    exact hRR
  refine snd_cond _ rfl (fun hc15 => ?_) (fun hc15 => ?_)
  · try simp only [hcs] at hc15
    have lt_i : i < n := by omega
    have hei := enN_le (repB n G) i
    refine snd_skip ?_
    refine snd_seq ?_
    refine snd_block ?_
    refine snd_seq ?_
    apply sr tokTB (by kernel_rfl)
    · intro RR hRR
      refine w_move (by constructor) ?_
      refine w_iap rfl rfl und81 kn4 rfl (by exact sz4.symm) rfl ?_ ?_
      · exact ⟨by omega, by omega⟩
      first | refine w_ldc rfl kn4 (by constructor) (by exact sz4.symm) (by exact ag4.symm) ?_ | refine w_ldp rfl kn4 rfl (by constructor) (by exact sz4.symm) (by exact ag4.symm) ?_
      exact hRR
    refine snd_cond _ rfl (fun hc20 => ?_) (fun hc20 => ?_)
    · skip
      have hs := en_f (P := repB n G) (j := i) (by show (!metF n G i i) = false; rw [show metF n G i i = true from hc20]; rfl)
      refine snd_exit ?_
      apply lr tokTB (by kernel_rfl)
      · intro RR hRR
        refine w_move (by constructor) ?_
        refine y_add rfl rfl ?_
        refine w_assign (by constructor) ?_
        exact hRR
      refine ⟨i + 1, (ρL [(905, 905), (3, 3)] 1 (enN (repB n G) i) 912), ?_, (by omega), (by dsimp only; omega)⟩
      show Emb _ _ _ [(1, .cptr (grpA (n : Int) G)), (3, .ptr 3 0 [] 0 (.arr 6 (fun _ => .bool false))), (4, .own 905 0 (enN (repB n G) ((i + 1))) 62), (5, .int .i64 ((i + 1) : Int))] [(905, .one (ZR (enN (repB n G) ((i + 1)))) (CO 1 (enN (repB n G) ((i + 1))) (ccW n G) 2)), (1, .many (famF (enN (repB n G) ((i + 1))) (ccW n G) (ccF n G))), (3, .one (.arr 6 (fun _ => .bool false)) (.arr 6 (fun z => .bool (metF n G (i + 1) z))))]
      rw [hs]
      exact emb_famL (by decide) rfl rfl rfl rfl (fun j hj hne => rfl) (fun q => absurd q (by omega)) (fun q => absurd q (by omega)) (fun r hr hne => ⟨_, famF_at (w := (ccW n G)) (F := (ccF n G)) (by omega), fun V => mt_vec (fun _ _ => rfl)⟩) ⟨⟨_, rfl, ⟨rfl, fun _ => trivial⟩, fun V => mt_bools (fun z hz => (met_t hc20 z).symm)⟩, trivial⟩ ⟨m_cgrp, ⟨rfl, rfl, rfl, rfl, rfl⟩, (by first | exact ⟨rfl, rfl, rfl, rfl⟩ | exact ⟨rfl, by omega, rfl, rfl⟩), (mi), trivial⟩
    · skip
      have hmet : metF n G i i = false := hc20
      have hrep : repB n G i = true := by show (!metF n G i i) = true; rw [hmet]; rfl
      obtain ⟨hen, hri⟩ := en_at hrep n lt_i
      have hri : rpF n G (enN (repB n G) i) = i := hri
      have hs := en_t hrep
      refine snd_skip ?_
      apply sr tokTB (by kernel_rfl)
      · intro RR hRR
        refine w_bld_a kn81 zr81 und81 kn4 (fun _ => (by exact sz4.symm)) trivial rfl (by exact sz4.symm) ?_
        refine w_alloc kn81 rfl zr81 ?_
        refine w_stw rfl (by constructor) kn81 rfl (by exact trivial) (sx) (by exact sz81.symm) ?_
        exact hRR
      refine snd_seq ?_
      apply sr tokTB (by kernel_rfl)
      · intro RR hRR
        refine w_assign (by constructor) ?_
        exact hRR
      refine snd_block ?_
      refine snd_loop (S := Nat) (fun x => ([(1, .cptr (grpA (n : Int) G)), (3, .ptr 3 0 [] 0 (.arr 6 (fun _ => .bool false))), (4, .own 905 0 (enN (repB n G) (i)) 62), (5, .int .i64 (i : Int)), (6, .ptr 6 0 [] 0 (.arr 6 (fun _ => .bool false))), (7, .int .i64 (x : Int))], [(905, .one (ZR (enN (repB n G) (i))) (CO 1 (enN (repB n G) (i)) (ccW n G) 2)), (1, .many (famF (enN (repB n G) (i)) (ccW n G) (ccF n G))), (3, .one (.arr 6 (fun _ => .bool false)) (.arr 6 (fun z => .bool (metF n G i z)))), (6, .one (.arr 6 (fun _ => .bool false)) (.arr 6 (fun z => .bool (owF n G i (x) z))))])) (fun x => x ≤ n) (fun x => n - x) (0) (ρL [(905, 905), (3, 3), (6, 6)] 1 (enN (repB n G) i) 912) ?_ ?_ ?_
      · exact emb_famL (by decide) rfl rfl rfl rfl (fun j hj hne => rfl) (fun q => absurd q (by omega)) (fun q => absurd q (by omega)) (fun r hr hne => ⟨_, famF_at (w := (ccW n G)) (F := (ccF n G)) (by omega), fun V => mt_vec (fun _ _ => rfl)⟩) ⟨⟨_, rfl, ⟨rfl, fun _ => trivial⟩, fun V => mt_bools (fun z hz => rfl)⟩, ⟨_, rfl, ⟨rfl, fun _ => trivial⟩, fun V => mt_bools (fun z hz => rfl)⟩, trivial⟩ ⟨m_cgrp, ⟨rfl, rfl, rfl, rfl, rfl⟩, (by first | exact ⟨rfl, rfl, rfl, rfl⟩ | exact ⟨rfl, by omega, rfl, rfl⟩), (mi), ⟨rfl, rfl, rfl, rfl, rfl⟩, (mi), trivial⟩
      · exact Nat.zero_le _
      intro x hi2
      refine sq (env2 := [(1, .cptr (grpA (n : Int) G)), (3, .ptr 3 0 [] 0 (.arr 6 (fun _ => .bool false))), (4, .own 905 0 (enN (repB n G) (i)) 62), (5, .int .i64 (i : Int)), (6, .ptr 6 0 [] 0 (.arr 6 (fun _ => .bool false))), (7, .int .i64 (x : Int))]) (ol2 := [(905, .one (ZR (enN (repB n G) (i))) (CO 1 (enN (repB n G) (i)) (ccW n G) 2)), (1, .many (famF (enN (repB n G) (i)) (ccW n G) (ccF n G))), (3, .one (.arr 6 (fun _ => .bool false)) (.arr 6 (fun z => .bool (metF n G i z)))), (6, .one (.arr 6 (fun _ => .bool false)) (.arr 6 (fun z => .bool (owF n G i (x) z))))]) rfl rfl ?_
      refine snd_seq ?_
      apply sr tokTB (by kernel_rfl)
      · intro RR hRR
        refine w_move (by constructor) ?_
        refine w_fac rfl und38 rfl kn2 nz2 (by decide) rfl (by constructor) ?_
        refine w_ldc rfl kn2 (by constructor) (by exact sz2.symm) (by exact ag2.symm) ?_
        refine w_lss rfl rfl ?_
        exact hRR
      refine snd_cond _ rfl (fun hc25 => ?_) (fun hc25 => ?_)
      · try simp only [hcs] at hc25
        have lt_x : x < n := by omega
        refine snd_skip ?_
        refine snd_seq ?_
        refine snd_block ?_
        apply ldX tokTB mixed [0, 2] (by kernel_rfl) (by kernel_rfl)
        · intro RR hRR
          show WOps _ _ _ _ _ _ _
          show LoadC Try.prog TB _ _ _
          refine wx_ldc rfl kn38 (by constructor) (by exact sz38.symm) (by exact ag38.symm) ?_
          show WOps _ _ _ _ _ _ _
          refine w_move (by constructor) ?_
          refine w_move (by constructor) ?_
          show LoadC Try.prog TB _ _ _
          refine wx_ldc rfl kn38 (by constructor) (by exact sz38.symm) (by exact ag38.symm) ?_
          show WOps _ _ _ _ _ _ _
          refine w_move (by constructor) ?_
          refine y_call rfl (exc exp_grp (ec exn)) (c_l06Inverse hG h lt_x) ?_
          refine w_bsl und62 kn2 (by rw [sz2]; rfl) rfl (by exact ⟨⟨by decide, trivial, sz2.symm⟩, ⟨by decide, trivial, sz2.symm⟩, ⟨by decide, trivial, sz2.symm⟩, trivial⟩) (by exact ⟨(sx), (sx), (sx), trivial⟩) rfl ?_
          refine y_call rfl (exc exp_grp (exc (by refine congrArg (AV.ro 3) (funext fun i => ?_); match i with | 0 => rfl | 1 => rfl | 2 => rfl | n + 3 => rfl) exn)) ((h.gp3 lt_i lt_x ▸ c_l06Times (m := 3) (f := f3 x i (ivN n G x)) hG h (by omega) (fun r hr => by match r, hr with | 0, _ => exact lt_x | 1, _ => exact lt_i | 2, _ => exact h.iv_lt lt_x))) ?_
          refine w_iap rfl rfl und81 kn4 rfl (by exact sz4.symm) rfl ?_ ?_
          · exact ⟨(show (0 : Int) ≤ ((cj n G i x : Nat) : Int) by omega), (show ((cj n G i x : Nat) : Int) < 6 by have := h.cj_lt lt_i lt_x; omega)⟩
          refine w_stb rfl rfl kn4 rfl (by exact trivial) (by exact sz4.symm) ?_
          exact hRR
        apply lr tokTB (by kernel_rfl)
        · intro RR hRR
          refine w_move (by constructor) ?_
          refine y_add rfl rfl ?_
          refine w_assign (by constructor) ?_
          exact hRR
        refine ⟨x + 1, (ρL [(905, 905), (3, 3), (6, 6)] 1 (enN (repB n G) i) 912), ?_, (by omega), (by dsimp only; omega)⟩
        exact emb_famL (by decide) rfl rfl rfl rfl (fun j hj hne => rfl) (fun q => absurd q (by omega)) (fun q => absurd q (by omega)) (fun r hr hne => ⟨_, famF_at (w := (ccW n G)) (F := (ccF n G)) (by omega), fun V => mt_vec (fun _ _ => rfl)⟩) ⟨⟨_, rfl, ⟨rfl, fun _ => trivial⟩, fun V => mt_bools (fun z hz => rfl)⟩, ⟨_, rfl, ⟨rfl, fun _ => trivial⟩, fun V => mt_bools (fun z hz => rfl)⟩, trivial⟩ ⟨m_cgrp, ⟨rfl, rfl, rfl, rfl, rfl⟩, (by first | exact ⟨rfl, rfl, rfl, rfl⟩ | exact ⟨rfl, by omega, rfl, rfl⟩), (mi), ⟨rfl, rfl, rfl, rfl, rfl⟩, (mi), trivial⟩
      · try simp only [hcs] at hc25
        have ge_x : n = x := by omega
        subst ge_x
        refine snd_exit ?_
        apply sr tokTB (by kernel_rfl)
        · intro RR hRR
          refine w_bsl und62 kn2 (by rw [sz2]; rfl) rfl trivial trivial rfl ?_
          refine w_assign (by constructor) ?_
          exact hRR
        refine snd_seq ?_
        apply sr tokTB (by kernel_rfl)
        · intro RR hRR
          refine w_assign (by constructor) ?_
          exact hRR
        refine snd_block ?_
        refine snd_loop (S := Nat) (fun j => ([(1, .cptr (grpA (n : Int) G)), (3, .ptr 3 0 [] 0 (.arr 6 (fun _ => .bool false))), (4, .own 905 0 (enN (repB n G) (i)) 62), (5, .int .i64 (i : Int)), (6, .ptr 6 0 [] 0 (.arr 6 (fun _ => .bool false))), (8, .own 909 0 (enN (owF n G i n) (j)) 2), (9, .int .i64 (j : Int))], [(905, .one (ZR (enN (repB n G) (i))) (CO 1 (enN (repB n G) (i)) (ccW n G) 2)), (1, .many (famF (enN (repB n G) (i)) (ccW n G) (ccF n G))), (3, .one (.arr 6 (fun _ => .bool false)) (.arr 6 (fun z => .bool (metG n G i j z)))), (6, .one (.arr 6 (fun _ => .bool false)) (.arr 6 (fun z => .bool (owF n G i (n) z)))), (909, .one (Z64 (enN (owF n G i n) (j))) (C64 (enN (owF n G i n) (j)) (fun r => ((clF n G i r : Nat) : Int))))])) (fun j => j ≤ n) (fun j => n - j) (0) (ρL [(905, 905), (3, 3), (6, 6), (909, 37)] 1 (enN (repB n G) i) 912) ?_ ?_ ?_
        · exact emb_famL (by decide) rfl rfl rfl rfl (fun j hj hne => rfl) (fun q => absurd q (by omega)) (fun q => absurd q (by omega)) (fun r hr hne => ⟨_, famF_at (w := (ccW n G)) (F := (ccF n G)) (by omega), fun V => mt_vec (fun _ _ => rfl)⟩) ⟨⟨_, rfl, ⟨rfl, fun _ => trivial⟩, fun V => mt_bools (fun z hz => metG_0)⟩, ⟨_, rfl, ⟨rfl, fun _ => trivial⟩, fun V => mt_bools (fun z hz => rfl)⟩, ⟨_, rfl, ⟨rfl, fun _ => trivial⟩, fun V => mt_arr0⟩, trivial⟩ ⟨m_cgrp, ⟨rfl, rfl, rfl, rfl, rfl⟩, (by first | exact ⟨rfl, rfl, rfl, rfl⟩ | exact ⟨rfl, by omega, rfl, rfl⟩), (mi), ⟨rfl, rfl, rfl, rfl, rfl⟩, (by first | exact ⟨rfl, rfl, rfl, rfl⟩ | exact ⟨rfl, by omega, rfl, rfl⟩), (mi), trivial⟩
        · exact Nat.zero_le _
        intro j hi4
        refine sq (env2 := [(1, .cptr (grpA (n : Int) G)), (3, .ptr 3 0 [] 0 (.arr 6 (fun _ => .bool false))), (4, .own 905 0 (enN (repB n G) (i)) 62), (5, .int .i64 (i : Int)), (6, .ptr 6 0 [] 0 (.arr 6 (fun _ => .bool false))), (8, .own 909 0 (enN (owF n G i n) (j)) 2), (9, .int .i64 (j : Int))]) (ol2 := [(905, .one (ZR (enN (repB n G) (i))) (CO 1 (enN (repB n G) (i)) (ccW n G) 2)), (1, .many (famF (enN (repB n G) (i)) (ccW n G) (ccF n G))), (3, .one (.arr 6 (fun _ => .bool false)) (.arr 6 (fun z => .bool (metG n G i j z)))), (6, .one (.arr 6 (fun _ => .bool false)) (.arr 6 (fun z => .bool (owF n G i (n) z)))), (909, .one (Z64 (enN (owF n G i n) (j))) (C64 (enN (owF n G i n) (j)) (fun r => ((clF n G i r : Nat) : Int))))]) rfl rfl ?_
        refine snd_seq ?_
        apply sr tokTB (by kernel_rfl)
        · intro RR hRR
          refine w_move (by constructor) ?_
          refine w_fac rfl und38 rfl kn2 nz2 (by decide) rfl (by constructor) ?_
          refine w_ldc rfl kn2 (by constructor) (by exact sz2.symm) (by exact ag2.symm) ?_
          refine w_lss rfl rfl ?_
          exact hRR
        refine snd_cond _ rfl (fun hc41 => ?_) (fun hc41 => ?_)
        · try simp only [hcs] at hc41
          have lt_j : j < n := by omega
          refine snd_skip ?_
          refine snd_seq ?_
          refine snd_block ?_
          apply sr tokTB (by kernel_rfl)
          · intro RR hRR
            refine w_move (by constructor) ?_
            refine w_iap rfl rfl und81 kn4 rfl (by exact sz4.symm) rfl ?_ ?_
            · exact ⟨by omega, by omega⟩
            first | refine w_ldc rfl kn4 (by constructor) (by exact sz4.symm) (by exact ag4.symm) ?_ | refine w_ldp rfl kn4 rfl (by constructor) (by exact sz4.symm) (by exact ag4.symm) ?_
            exact hRR
          refine snd_cond _ rfl (fun hc46 => ?_) (fun hc46 => ?_)
          · skip
            have hown : owF n G i n j = true := hc46
            obtain ⟨hoe, hoi⟩ := en_at hown n lt_j
            have hsj := en_t hown
            have hej := enN_le (owF n G i n) j
            apply sr tokTB (by kernel_rfl)
            · intro RR hRR
              refine w_move (by constructor) ?_
              refine w_iap rfl rfl und81 kn4 rfl (by exact sz4.symm) rfl ?_ ?_
              · exact ⟨by omega, by omega⟩
              refine w_stb rfl rfl kn4 rfl (by exact trivial) (by exact sz4.symm) ?_
              exact hRR
            apply lr tokTB (by kernel_rfl)
            · intro RR hRR
              refine w_move (by constructor) ?_
              refine w_move (by constructor) ?_
              refine w_bsl1 und62 kn2 (by rw [sz2]; rfl) rfl (by constructor) (by first | exact trivial | exact cel_cap2) (by exact sz2.symm) (by first | exact trivial | exact ssh_vec | exact ⟨rfl, fun _ => trivial⟩) ?_
              refine w_app_o und62 rfl rfl kn2 rfl rfl (fun C h => ⟨rfl, rfl, rfl, h⟩) (by rw [by2]; omega) (by omega) rfl ?_
              refine w_assign (by constructor) ?_
              exact hRR
            apply lr tokTB (by kernel_rfl)
            · intro RR hRR
              refine w_move (by constructor) ?_
              refine y_add rfl rfl ?_
              refine w_assign (by constructor) ?_
              exact hRR
            refine ⟨j + 1, (ρL [(905, 905), (3, 3), (6, 6), (909, 52)] 1 (enN (repB n G) i) 912), ?_, (by omega), (by dsimp only; omega)⟩
            show Emb _ _ _ [(1, .cptr (grpA (n : Int) G)), (3, .ptr 3 0 [] 0 (.arr 6 (fun _ => .bool false))), (4, .own 905 0 (enN (repB n G) (i)) 62), (5, .int .i64 (i : Int)), (6, .ptr 6 0 [] 0 (.arr 6 (fun _ => .bool false))), (8, .own 909 0 (enN (owF n G i n) ((j + 1))) 2), (9, .int .i64 ((j + 1) : Int))] [(905, .one (ZR (enN (repB n G) (i))) (CO 1 (enN (repB n G) (i)) (ccW n G) 2)), (1, .many (famF (enN (repB n G) (i)) (ccW n G) (ccF n G))), (3, .one (.arr 6 (fun _ => .bool false)) (.arr 6 (fun z => .bool (metG n G i (j + 1) z)))), (6, .one (.arr 6 (fun _ => .bool false)) (.arr 6 (fun z => .bool (owF n G i (n) z)))), (909, .one (Z64 (enN (owF n G i n) ((j + 1)))) (C64 (enN (owF n G i n) ((j + 1))) (fun r => ((clF n G i r : Nat) : Int))))]
            rw [hsj]
            exact emb_famL (by decide) rfl rfl rfl rfl (fun j hj hne => rfl) (fun q => absurd q (by omega)) (fun q => absurd q (by omega)) (fun r hr hne => ⟨_, famF_at (w := (ccW n G)) (F := (ccF n G)) (by omega), fun V => mt_vec (fun _ _ => rfl)⟩) ⟨⟨_, rfl, ⟨rfl, fun _ => trivial⟩, fun V => mt_bools (fun z hz => metG_t hown z)⟩, ⟨_, rfl, ⟨rfl, fun _ => trivial⟩, fun V => mt_bools (fun z hz => rfl)⟩, ⟨_, rfl, ⟨rfl, fun _ => trivial⟩, fun V => by exact mt_app (fun _ _ => rfl) (congrArg (AV.int .i64) (congrArg Int.ofNat hoi.symm))⟩, trivial⟩ ⟨m_cgrp, ⟨rfl, rfl, rfl, rfl, rfl⟩, (by first | exact ⟨rfl, rfl, rfl, rfl⟩ | exact ⟨rfl, by omega, rfl, rfl⟩), (mi), ⟨rfl, rfl, rfl, rfl, rfl⟩, (by first | exact ⟨rfl, rfl, rfl, rfl⟩ | exact ⟨rfl, by omega, rfl, rfl⟩), (mi), trivial⟩
          · skip
            have hown : owF n G i n j = false := hc46
            have hsj := en_f hown
            refine snd_skip ?_
            apply lr tokTB (by kernel_rfl)
            · intro RR hRR
              refine w_move (by constructor) ?_
              refine y_add rfl rfl ?_
              refine w_assign (by constructor) ?_
              exact hRR
            refine ⟨j + 1, (ρL [(905, 905), (3, 3), (6, 6), (909, 909)] 1 (enN (repB n G) i) 912), ?_, (by omega), (by dsimp only; omega)⟩
            show Emb _ _ _ [(1, .cptr (grpA (n : Int) G)), (3, .ptr 3 0 [] 0 (.arr 6 (fun _ => .bool false))), (4, .own 905 0 (enN (repB n G) (i)) 62), (5, .int .i64 (i : Int)), (6, .ptr 6 0 [] 0 (.arr 6 (fun _ => .bool false))), (8, .own 909 0 (enN (owF n G i n) ((j + 1))) 2), (9, .int .i64 ((j + 1) : Int))] [(905, .one (ZR (enN (repB n G) (i))) (CO 1 (enN (repB n G) (i)) (ccW n G) 2)), (1, .many (famF (enN (repB n G) (i)) (ccW n G) (ccF n G))), (3, .one (.arr 6 (fun _ => .bool false)) (.arr 6 (fun z => .bool (metG n G i (j + 1) z)))), (6, .one (.arr 6 (fun _ => .bool false)) (.arr 6 (fun z => .bool (owF n G i (n) z)))), (909, .one (Z64 (enN (owF n G i n) ((j + 1)))) (C64 (enN (owF n G i n) ((j + 1))) (fun r => ((clF n G i r : Nat) : Int))))]
            rw [hsj]
            exact emb_famL (by decide) rfl rfl rfl rfl (fun j hj hne => rfl) (fun q => absurd q (by omega)) (fun q => absurd q (by omega)) (fun r hr hne => ⟨_, famF_at (w := (ccW n G)) (F := (ccF n G)) (by omega), fun V => mt_vec (fun _ _ => rfl)⟩) ⟨⟨_, rfl, ⟨rfl, fun _ => trivial⟩, fun V => mt_bools (fun z hz => metG_f hown z)⟩, ⟨_, rfl, ⟨rfl, fun _ => trivial⟩, fun V => mt_bools (fun z hz => rfl)⟩, ⟨_, rfl, ⟨rfl, fun _ => trivial⟩, fun V => mt_vec (fun _ _ => rfl)⟩, trivial⟩ ⟨m_cgrp, ⟨rfl, rfl, rfl, rfl, rfl⟩, (by first | exact ⟨rfl, rfl, rfl, rfl⟩ | exact ⟨rfl, by omega, rfl, rfl⟩), (mi), ⟨rfl, rfl, rfl, rfl, rfl⟩, (by first | exact ⟨rfl, rfl, rfl, rfl⟩ | exact ⟨rfl, by omega, rfl, rfl⟩), (mi), trivial⟩
        · try simp only [hcs] at hc41
          have ge_j : n = j := by omega
          subst ge_j
          have hel := enN_le (owF n G i n) n
          refine snd_exit ?_
          apply lr tokTB (by kernel_rfl)
          · intro RR hRR
            refine w_move (by constructor) ?_
            refine w_move (by constructor) ?_
            refine w_bsl1 und35 kn62 (by rw [sz62]; rfl) rfl (by constructor) (by first | exact trivial | exact cel_cap2) (by exact sz62.symm) (by first | exact trivial | exact ssh_vec | exact ⟨rfl, fun _ => trivial⟩) ?_
            refine w_app_o und35 rfl rfl kn62 rfl rfl (fun C h => ⟨rfl, rfl, rfl, h⟩) (by rw [by62]; omega) (by omega) rfl ?_
            refine w_assign (by constructor) ?_
            exact hRR
          apply lr tokTB (by kernel_rfl)
          · intro RR hRR
            refine w_move (by constructor) ?_
            refine y_add rfl rfl ?_
            refine w_assign (by constructor) ?_
            exact hRR
          refine ⟨i + 1, (ρL [(905, 56), (3, 3)] 1 (enN (repB n G) i) 909), ?_, (by omega), (by dsimp only; omega)⟩
          show Emb _ _ _ [(1, .cptr (grpA (n : Int) G)), (3, .ptr 3 0 [] 0 (.arr 6 (fun _ => .bool false))), (4, .own 905 0 (enN (repB n G) ((i + 1))) 62), (5, .int .i64 ((i + 1) : Int))] [(905, .one (ZR (enN (repB n G) ((i + 1)))) (CO 1 (enN (repB n G) ((i + 1))) (ccW n G) 2)), (1, .many (famF (enN (repB n G) ((i + 1))) (ccW n G) (ccF n G))), (3, .one (.arr 6 (fun _ => .bool false)) (.arr 6 (fun z => .bool (metF n G (i + 1) z))))]
          rw [hs]
          exact emb_famL (by decide) rfl rfl rfl rfl (fun j hj hne => appF_lt (by omega)) (fun _ => (appF_ge (Nat.le_refl _) (by omega)).trans (by rw [Nat.sub_self]; show AV.own 909 0 (enN (owF n G i n) n) 2 = AV.own 909 0 (clN n G (rpF n G (enN (repB n G) i))) 2; rw [hri])) (fun _ => ⟨_, (by show _ = some (Z64 (clN n G (rpF n G (enN (repB n G) i))), _); rw [hri]; exact rfl), fun V => (by show Mt V (C64 (clN n G (rpF n G (enN (repB n G) i))) (fun z => ((clF n G (rpF n G (enN (repB n G) i)) z : Nat) : Int))) _; rw [hri]; exact mt_vec (fun _ _ => rfl))⟩) (fun r hr hne => ⟨_, famF_at (w := (ccW n G)) (F := (ccF n G)) (by omega), fun V => mt_vec (fun _ _ => rfl)⟩) ⟨⟨_, rfl, ⟨rfl, fun _ => trivial⟩, fun V => mt_bools (fun z hz => h.metG_n lt_i hmet)⟩, trivial⟩ ⟨m_cgrp, ⟨rfl, rfl, rfl, rfl, rfl⟩, (by first | exact ⟨rfl, rfl, rfl, rfl⟩ | exact ⟨rfl, by omega, rfl, rfl⟩), (mi), trivial⟩
  · try simp only [hcs] at hc15
    have ge_i : n = i := by omega
    subst ge_i
    refine snd_exit ?_
    apply sr tokTB (by kernel_rfl)
    · intro RR hRR
      refine w_move (by constructor) ?_
      refine w_assign (by constructor) ?_
      exact hRR
    refine snd_ret ?_
    show retQ TB _ _ _ _ _ _
    exact rt_fam (T := TB) (a := 905) rfl (by decide) rfl rfl (fun r hr => famF_at (c := ccN n G) (w := ccW n G) (F := ccF n G) hr)
end Go.Am

set_option linter.unusedVariables false
set_option linter.unusedSimpArgs false
set_option maxRecDepth 4000
namespace Go.Am
attribute [local irreducible] retQ retQp
open Go.Proofs
theorem zr38 : TB.zero 38 = grpA 0 (fun _ _ => 0) := by
  refine congrArg (AV.sct 2) (funext fun i => ?_)
  match i with
  | 0 => rfl
  | 1 => rfl
  | n + 2 => rfl
theorem c_toGroup {n : Int} {G : Nat → Nat → Nat} : ACalls Try.prog TB 12 [grpA n G] (grpA n G) [] := by
  refine acalls_of tokTB Try.func12 rfl rfl (Nat.le_of_ble_eq_true rfl) ?_
  apply sr tokTB (by kernel_rfl)
  · intro RR hRR
    refine w_boxc (HV.eq (by constructor)) (by exact trivial) ?_
    refine w_alloc kn38 rfl zr38 ?_
    exact hRR
  apply sr tokTB (by kernel_rfl)
  · intro RR hRR
    refine w_alloc kn38 rfl zr38 ?_
    exact hRR
  apply sr tokTB (by kernel_rfl)
  · intro RR hRR
    refine w_fac rfl und34 rfl kn2 nz2 (by decide) rfl (by constructor) ?_
    refine w_ldc rfl kn2 (by constructor) (by exact sz2.symm) (by exact ag2.symm) ?_
    refine w_fap rfl und38 rfl kn2 nz2 rfl (by decide) rfl ?_
    first | refine w_stw rfl (by constructor) kn2 rfl (by exact trivial) (sx) (by exact sz2.symm) ?_ | refine w_sti rfl rfl kn2 rfl (by exact trivial) (by exact sz2.symm) ?_ | refine w_store rfl (HV.eq (by constructor)) kn2 rfl (by exact trivial) (sx) (by exact sz2.symm) (put_in (by first | exact put_mat | exact put_tab | exact put_alg0 | exact put_pr0 | exact put_pr1 | exact put_pr2 | exact put_tn4 | exact put_grp0 | exact put_grp1 | exact put_alg1 | exact put_alg2 | exact put_alg3 | exact put_alg3i | exact put_alg2ij | exact put_alg2ijk | exact put_mat2 | exact put_tab2 | exact put_tab3)) ?_ | refine w_store rfl (HV.eq (by constructor)) kn2 rfl (by exact trivial) (by exact trivial) (by exact sz2.symm) rfl ?_
    exact hRR
  apply sr tokTB (by kernel_rfl)
  · intro RR hRR
    refine w_fac rfl und34 rfl kn23 nz23 (by decide) rfl (by constructor) ?_
    refine w_ldc rfl kn23 (by constructor) (by exact sz23.symm) (by exact ag23.symm) ?_
    refine y_call rfl (ec exn) (c_toByteA6A6 (M := tb2 G)) ?_
    refine w_fap rfl und38 rfl kn23 nz23 rfl (by decide) rfl ?_
    first | refine w_stw rfl (by constructor) kn23 rfl (by exact trivial) (sx) (by exact sz23.symm) ?_ | refine w_sti rfl rfl kn23 rfl (by exact trivial) (by exact sz23.symm) ?_ | refine w_store rfl (HV.eq (by constructor)) kn23 rfl (by exact trivial) (sx) (by exact sz23.symm) (put_in (by first | exact put_mat | exact put_tab | exact put_alg0 | exact put_pr0 | exact put_pr1 | exact put_pr2 | exact put_tn4 | exact put_grp0 | exact put_grp1 | exact put_alg1 | exact put_alg2 | exact put_alg3 | exact put_alg3i | exact put_alg2ij | exact put_alg2ijk | exact put_mat2 | exact put_tab2 | exact put_tab3)) ?_ | refine w_store rfl (HV.eq (by constructor)) kn23 rfl (by exact trivial) (by exact trivial) (by exact sz23.symm) rfl ?_
    exact hRR
  apply sr tokTB (by kernel_rfl)
  · intro RR hRR
    refine w_ldp rfl kn38 rfl (by constructor) (by exact sz38.symm) (by exact ag38.symm) ?_
    refine w_stw rfl (by constructor) kn38 rfl (by exact trivial) (sx) (by exact sz38.symm) ?_
    exact hRR
  refine snd_ret ?_
  exact rt_c (T := TB) rfl kn38 rfl sz38.symm ag38.symm (fun V => m_grp)
end Go.Am

set_option linter.unusedVariables false
set_option linter.unusedSimpArgs false
set_option maxRecDepth 4000
namespace Go.Am
attribute [local irreducible] retQ retQp
open Go.Proofs
theorem c_IndexFuncW {N : Nat} {W : Nat → Nat} {R : Nat → Nat → Int} {g nc : Nat} {caps : Nat → AV} {P : Nat → Bool} (hN : N ≤ 100) (hcaps : (AV.fn g nc caps).closed) (hf : ∀ i, i < N → ACalls Try.prog TB g (rowA (W i) (R i) :: capL nc caps) (.bool (P i)) []) : ACalls Try.prog TB 70 [rowsW N W R, .fn g nc caps] (.int .i64 (idxF P N)) [] := by
  refine acalls_of tokTB Try.func70 rfl rfl (Nat.le_of_ble_eq_true rfl) ?_
  apply sr tokTB (by kernel_rfl)
  · intro RR hRR
    refine w_assign (by constructor) ?_
    exact hRR
  refine snd_seq ?_
  apply sr tokTB (by kernel_rfl)
  · intro RR hRR
    refine w_move (by constructor) ?_
    first | refine w_len_r rfl rfl und35 ?_ | refine w_len_o rfl rfl und35 ?_ | refine w_len_n rfl rfl und35 ?_
    refine w_move (by constructor) ?_
    exact hRR
  refine snd_block ?_
  refine snd_loop (S := Nat) (fun i => ([(0, rowsW N W R), (1, .fn g nc caps), (7, .int .i64 (N : Int)), (8, .int .i64 (i : Int))], [])) (fun i => i ≤ N ∧ (∀ j, j < i → P j = false)) (fun i => N - i) (0) ρ0 ?_ ?_ ?_
  · exact ⟨⟨(mt_rowsW (V := _) (fun _ _ _ _ => rfl)), (Mt_closed (V := _) (by assumption) (fun _ _ _ => trivial) (by simp)), (mi), (mi), trivial⟩, trivial, trivial⟩
  · exact ⟨Nat.zero_le _, fun j hj => absurd hj (Nat.not_lt_zero _)⟩
  intro i hi0
  refine sq (env2 := [(0, rowsW N W R), (1, .fn g nc caps), (7, .int .i64 (N : Int)), (8, .int .i64 (i : Int))]) (ol2 := []) rfl rfl ?_
  obtain ⟨le_i, inv_i⟩ := hi0
  apply sr tokTB (by kernel_rfl)
  · intro RR hRR
    refine w_lss rfl rfl ?_
    exact hRR
  refine snd_seq ?_
  refine snd_cond _ rfl (fun hc9 => ?_) (fun hc9 => ?_)
  · try simp only [hcs] at hc9
    have lt_i : i < N := by omega
    refine snd_skip ?_
    refine snd_seq ?_
    refine snd_block ?_
    apply sr tokTB (by kernel_rfl)
    · intro RR hRR
      refine w_move (by constructor) ?_
      refine w_assign (by constructor) ?_
      exact hRR
    apply sr tokTB (by kernel_rfl)
    · intro RR hRR
      refine w_move (by constructor) ?_
      refine w_move (by constructor) ?_
      refine w_move (by constructor) ?_
      refine w_iar rfl rfl und35 kn62 (by exact sz62.symm) ?_ rfl ?_
      · exact ⟨by omega, by omega⟩
      first | refine w_ldc rfl kn62 (by constructor) (by exact sz62.symm) (by exact ag62.symm) ?_ | refine w_ldp rfl kn62 rfl (by constructor) (by exact sz62.symm) (by exact ag62.symm) ?_
      refine y_call rfl (exc (by exact rfl) (exp_capL hcaps)) (hf i (by omega)) ?_
      exact hRR
    refine snd_cond _ rfl (fun hc16 => ?_) (fun hc16 => ?_)
    · skip
      apply sr tokTB (by kernel_rfl)
      · intro RR hRR
        refine w_move (by constructor) ?_
        refine w_assign (by constructor) ?_
        exact hRR
      refine snd_ret ?_
      exact rt (T := TB) (fun V => m_int (idx_at (by omega) (by exact hc16) inv_i).symm)
    · skip
      refine snd_skip ?_
      apply lr tokTB (by kernel_rfl)
      · intro RR hRR
        refine y_add rfl rfl ?_
        refine w_move (by constructor) ?_
        exact hRR
      refine ⟨i + 1, ρ0, ?_, ⟨by omega, all_step inv_i (by exact hc16)⟩, (by dsimp only; omega)⟩
      exact ⟨⟨(mt_rowsW (V := _) (fun _ _ _ _ => rfl)), (Mt_closed (V := _) (by assumption) (fun _ _ _ => trivial) (by simp)), (mi), (mi), trivial⟩, trivial, trivial⟩
  · try simp only [hcs] at hc9
    have ge_i : N = i := by omega
    subst ge_i
    refine snd_exit ?_
    apply sr tokTB (by kernel_rfl)
    · intro RR hRR
      refine w_assign (by constructor) ?_
      exact hRR
    refine snd_ret ?_
    exact rt (T := TB) (fun V => m_int (idx_none inv_i).symm)
theorem c_classNumber1 {n : Nat} {G : Nat → Nat → Nat} {i r : Nat} (h : GN n G) (hi : i < n) : ACalls Try.prog TB 71 [rowA (ccW n G r) (ccF n G r), (.cptr (.int .i64 (i : Int)))] (.bool (owF n G (rpF n G r) n i)) [] := by
  have hwr := h.wle r
  refine acalls_of tokTB Try.func71 rfl rfl (Nat.le_of_ble_eq_true rfl) ?_
  apply sr tokTB (by kernel_rfl)
  · intro RR hRR
    refine w_assign (by constructor) ?_
    exact hRR
  apply sr tokTB (by kernel_rfl)
  · intro RR hRR
    refine w_move (by constructor) ?_
    first | refine w_ldc rfl kn3 (by constructor) (by exact sz3.symm) (by exact ag3.symm) ?_ | refine w_ldp rfl kn3 rfl (by constructor) (by exact sz3.symm) (by exact ag3.symm) ?_
    refine y_call rfl (ec (ec exn)) ((cl_has hi ▸ c_Contains (m := ccW n G r) (f := ccF n G r) (x := ((i : Nat) : Int)) (Nat.le_trans hwr (by decide)))) ?_
    refine w_assign (by constructor) ?_
    exact hRR
  refine snd_ret ?_
  exact rt (T := TB) (fun V => rfl)
theorem c_classNumber {n : Nat} {G : Nat → Nat → Nat} (hG : RG G) (h : GN n G) {i : Nat} (hi : i < n) : ACalls Try.prog TB 46 [.cptr (grpA (n : Int) G), .int .i64 (i : Int)] (.int .i64 (clI n G i)) [] := by
  have hcl := closed_cgrp (n := (n : Int)) (G := G)
  have hcl2 := closed_grp (n := (n : Int)) (G := G)
  have hn6 := h.n6
  have hc6 := h.cle
  refine acalls_of tokTB Try.func46 rfl rfl (Nat.le_of_ble_eq_true rfl) ?_
  apply sr tokTB (by kernel_rfl)
  · intro RR hRR
    refine w_boxc (HV.eq (by constructor)) (by exact trivial) ?_
    refine w_assign (by constructor) ?_
    exact hRR
  apply sr tokTB (by kernel_rfl)
  · intro RR hRR
    refine w_move (by constructor) ?_
    refine w_callc rfl (exc exp_cgrp exn) (famW_cl (c_classes hG h)) (by exact closed_rowsW) (by exact ⟨closed_cgrp, trivial⟩) ?_
    refine w_mkf1 (by constructor) ?_
    refine y_call rfl (exc (exp_closed closed_rowsW) (exc (exp_closed (closed_cap1 closed_ci)) exn)) (c_IndexFuncW (g := 71) (nc := 1) (caps := cap1 (.cptr (.int .i64 (i : Int)))) (P := fun r => owF n G (rpF n G r) n i) (by omega) (closed_cap1 closed_ci) (fun r hr => c_classNumber1 h hi)) ?_
    refine w_assign (by constructor) ?_
    exact hRR
  refine snd_ret ?_
  exact rt (T := TB) (fun V => rfl)
theorem c_iInverseStar_ok {n : Nat} {G : Nat → Nat → Nat} (hG : RG G) (h : GN n G) {p : Int} (hp : primeB p = true) : ACalls Try.prog TB 21 [.int .i64 p, grpA (n : Int) G] (.tup 2 (pairA (.own 0 0 (ccN n G) 25) (.int .i64 0))) [(0, .one (.arr (ccN n G) (fun _ => TB.zero 25)) (.arr (ccN n G) (fun r => vecA (eF (isN n G r)))))] := by
  have hcl := closed_cgrp (n := (n : Int)) (G := G)
  have hcl2 := closed_grp (n := (n : Int)) (G := G)
  have hn6 := h.n6
  have hpb := primeB_bd hp
  have hc6 := h.cle
  refine acalls_of tokTB Try.func21 rfl rfl (Nat.le_of_ble_eq_true rfl) ?_
  apply sr tokTB (by kernel_rfl)
  · intro RR hRR
    refine w_boxc (HV.eq (by constructor)) (by exact trivial) ?_
    refine w_assign (by constructor) ?_
    refine w_assign (by constructor) ?_
    exact hRR
  refine snd_seq ?_
  apply sr tokTB (by kernel_rfl)
  · intro RR hRR
    refine w_move (by constructor) ?_
    refine w_ldc rfl kn38 (by constructor) (by exact sz38.symm) (by exact ag38.symm) ?_
    refine y_call rfl (ec (exc exp_grp exn)) (c_primed_ok hG h hp) ?_
    refine w_assign (by constructor) ?_
    exact hRR
  apply sr tokTB (by kernel_rfl)
  · intro RR hRR
    refine w_move (by constructor) ?_
    refine w_neq rfl rfl ?_
    exact hRR
  refine snd_cond_false rfl ?_
  refine snd_skip ?_
  apply sr tokTB (by kernel_rfl)
  · intro RR hRR
    refine w_bsl und47 kn25 (by rw [sz25]; rfl) rfl trivial trivial rfl ?_
    refine w_assign (by constructor) ?_
    exact hRR
  refine snd_seq ?_
  apply sr tokTB (by kernel_rfl)
  · intro RR hRR
    refine w_callc rfl (exc exp_cgrp exn) (famW_cl (c_classes hG h)) (by exact closed_rowsW) (by exact ⟨closed_cgrp, trivial⟩) ?_
    first | refine w_len_r rfl rfl und35 ?_ | refine w_len_o rfl rfl und35 ?_ | refine w_len_n rfl rfl und35 ?_
    refine w_move (by constructor) ?_
    exact hRR
  refine snd_block ?_
  refine snd_loop (S := Nat) (fun k => ([(3, .cptr (grpA (n : Int) G)), (7, .own 907 0 k 25), (17, rowsW (ccN n G) (ccW n G) (ccF n G)), (18, .int .i64 (((ccN n G) : Nat) : Int)), (19, .int .i64 (k : Int))], [(907, .one (.arr k (fun _ => TB.zero 25)) (.arr k (fun r => vecA (eF (isN n G r)))))])) (fun k => k ≤ (ccN n G)) (fun k => (ccN n G) - k) (0) (fun k i => bif Nat.beq k 907 then (16, i) else (k, i)) ?_ ?_ ?_
  · exact ⟨⟨m_cgrp, (by first | exact ⟨rfl, rfl, rfl, rfl⟩ | exact ⟨rfl, by omega, rfl, rfl⟩), (mt_rowsW (V := _) (fun _ _ _ _ => rfl)), (mi), (mi), trivial⟩, ⟨⟨rfl, (sx), (by exact ⟨rfl, fun j hj => absurd hj (by omega)⟩)⟩, trivial⟩, ⟨⟨(fun h => by first | exact ⟨rfl, rfl⟩ | exact absurd h (by decide)), trivial⟩, trivial⟩⟩
  · exact Nat.zero_le _
  intro k hi0
  refine sq (env2 := [(3, .cptr (grpA (n : Int) G)), (7, .own 907 0 k 25), (17, rowsW (ccN n G) (ccW n G) (ccF n G)), (18, .int .i64 (((ccN n G) : Nat) : Int)), (19, .int .i64 (k : Int))]) (ol2 := [(907, .one (.arr k (fun _ => TB.zero 25)) (.arr k (fun r => vecA (eF (isN n G r)))))]) rfl rfl ?_
  apply sr tokTB (by kernel_rfl)
  · intro RR hRR
    refine w_lss rfl rfl ?_
    exact hRR
  refine snd_seq ?_
  refine snd_cond _ rfl (fun hc20 => ?_) (fun hc20 => ?_)
  · try simp only [hcs] at hc20
    have lt_k : k < (ccN n G) := by omega
    have hcf := (h.rp lt_k).2.1
    have hrl := (h.rp lt_k).1
    have hvl := h.iv_lt hrl
    have hnl := h.isN_lt lt_k
    have hiv : ivI n G (clF n G (rpF n G k) 0) = ((ivN n G (rpF n G k) : Nat) : Int) := by rw [hcf]; exact (h.iv hrl).2.2.2.2
    have hcn : clI n G (ivN n G (rpF n G k)) = ((isN n G k : Nat) : Int) := (h.clP hvl).1
    refine snd_skip ?_
    refine snd_seq ?_
    refine snd_block ?_
    apply sr tokTB (by kernel_rfl)
    · intro RR hRR
      refine w_iar rfl rfl und35 kn62 (by exact sz62.symm) ?_ rfl ?_
      · exact ⟨by omega, by omega⟩
      first | refine w_ldc rfl kn62 (by constructor) (by exact sz62.symm) (by exact ag62.symm) ?_ | refine w_ldp rfl kn62 rfl (by constructor) (by exact sz62.symm) (by exact ag62.symm) ?_
      refine w_assign (by constructor) ?_
      exact hRR
    apply lr tokTB (by kernel_rfl)
    · intro RR hRR
      refine w_move (by constructor) ?_
      refine w_move (by constructor) ?_
      refine w_iar rfl rfl und62 kn2 (by exact sz2.symm) ?_ rfl ?_
      · exact ⟨Int.le_refl _, (show (0 : Int) < ((clN n G (rpF n G k) : Nat) : Int) by have := (h.rp lt_k).2.2; omega)⟩
      first | refine w_ldc rfl kn2 (by constructor) (by exact sz2.symm) (by exact ag2.symm) ?_ | refine w_ldp rfl kn2 rfl (by constructor) (by exact sz2.symm) (by exact ag2.symm) ?_
      refine y_call rfl (exc exp_cgrp (ec exn)) ((hiv ▸ c_ginverse (i := clF n G (rpF n G k) 0) hG hn6 (by omega))) ?_
      refine y_call rfl (exc exp_cgrp (ec exn)) ((hcn ▸ c_classNumber (i := ivN n G (rpF n G k)) hG h hvl)) ?_
      refine y_call rfl (ec exn) (c_basis (i := isN n G k) (by omega)) ?_
      refine w_bsl1 und47 kn25 (by rw [sz25]; rfl) rfl (by constructor) (by first | exact trivial | exact cel_cap2) (by exact sz25.symm) (by first | exact trivial | exact ssh_vec | exact ⟨rfl, fun _ => trivial⟩) ?_
      refine w_app_o und47 rfl rfl kn25 rfl rfl (fun C h => ⟨rfl, rfl, rfl, h⟩) (by rw [by25]; omega) (by omega) rfl ?_
      refine w_assign (by constructor) ?_
      exact hRR
    apply lr tokTB (by kernel_rfl)
    · intro RR hRR
      refine y_add rfl rfl ?_
      refine w_move (by constructor) ?_
      exact hRR
    refine ⟨k + 1, (fun k i => bif Nat.beq k 907 then (31, i) else (k, i)), ?_, (by omega), (by dsimp only; omega)⟩
    exact ⟨⟨m_cgrp, (by first | exact ⟨rfl, rfl, rfl, rfl⟩ | exact ⟨rfl, by omega, rfl, rfl⟩), (mt_rowsW (V := _) (fun _ _ _ _ => rfl)), (mi), (mi), trivial⟩, ⟨⟨rfl, (sx), (by exact mt_app' rfl (fun _ _ => mt_vec (fun _ _ => rfl)) (mt_vec (fun z _ => rfl)))⟩, trivial⟩, ⟨⟨(fun h => by first | exact ⟨rfl, rfl⟩ | exact absurd h (by decide)), trivial⟩, trivial⟩⟩
  · try simp only [hcs] at hc20
    have ge_k : (ccN n G) = k := by omega
    subst ge_k
    refine snd_exit ?_
    apply sr tokTB (by kernel_rfl)
    · intro RR hRR
      refine w_move (by constructor) ?_
      refine w_assign (by constructor) ?_
      refine w_assign (by constructor) ?_
      exact hRR
    refine snd_ret ?_
    show retQ TB _ _ _ _ _ _
    show retQ TB _ _ _ _ _ _
    exact rt_own_u rfl (fun V => rfl) rfl rfl (fun _ => (sx)) (fun V i hi => mt_vec (fun _ _ => rfl))
theorem c_iInverseStar_pr {n : Nat} {G : Nat → Nat → Nat} (hG : RG G) (h : GN n G) {p : Int} (hp : primeB p = false) : ACalls Try.prog TB 21 [.int .i64 p, grpA (n : Int) G] (.tup 2 (pairA .nilsl (.int .i64 2))) [] := by
  have hcl := closed_cgrp (n := (n : Int)) (G := G)
  have hcl2 := closed_grp (n := (n : Int)) (G := G)
  refine acalls_of tokTB Try.func21 rfl rfl (Nat.le_of_ble_eq_true rfl) ?_
  apply sr tokTB (by kernel_rfl)
  · intro RR hRR
    refine w_boxc (HV.eq (by constructor)) (by exact trivial) ?_
    refine w_assign (by constructor) ?_
    refine w_assign (by constructor) ?_
    exact hRR
  refine snd_seq ?_
  apply sr tokTB (by kernel_rfl)
  · intro RR hRR
    refine w_move (by constructor) ?_
    refine w_ldc rfl kn38 (by constructor) (by exact sz38.symm) (by exact ag38.symm) ?_
    refine y_call rfl (ec (exc exp_grp exn)) (c_primed_pr hG h hp) ?_
    refine w_assign (by constructor) ?_
    exact hRR
  apply sr tokTB (by kernel_rfl)
  · intro RR hRR
    refine w_move (by constructor) ?_
    refine w_neq rfl rfl ?_
    exact hRR
  refine snd_cond_true rfl ?_
  apply sr tokTB (by kernel_rfl)
  · intro RR hRR
    refine w_move (by constructor) ?_
    refine w_assign (by constructor) ?_
    refine w_assign (by constructor) ?_
    exact hRR
  refine snd_ret ?_
  exact rt_tt (T := TB) (fun V => rfl) (fun V => rfl)
theorem c_iInverseStar_no {n : Int} {G : Nat → Nat → Nat} (hG : RG G) {p : Int} (h : ¬ GZ n G) : ACalls Try.prog TB 21 [.int .i64 p, grpA n G] (.tup 2 (pairA .nilsl (.int .i64 1))) [] := by
  have hcl2 := closed_grp (n := n) (G := G)
  refine acalls_of tokTB Try.func21 rfl rfl (Nat.le_of_ble_eq_true rfl) ?_
  apply sr tokTB (by kernel_rfl)
  · intro RR hRR
    refine w_boxc (HV.eq (by constructor)) (by exact trivial) ?_
    refine w_assign (by constructor) ?_
    refine w_assign (by constructor) ?_
    exact hRR
  refine snd_seq ?_
  apply sr tokTB (by kernel_rfl)
  · intro RR hRR
    refine w_move (by constructor) ?_
    refine w_ldc rfl kn38 (by constructor) (by exact sz38.symm) (by exact ag38.symm) ?_
    refine y_call rfl (ec (exc exp_grp exn)) (c_primed_no hG h) ?_
    refine w_assign (by constructor) ?_
    exact hRR
  apply sr tokTB (by kernel_rfl)
  · intro RR hRR
    refine w_move (by constructor) ?_
    refine w_neq rfl rfl ?_
    exact hRR
  refine snd_cond_true rfl ?_
  apply sr tokTB (by kernel_rfl)
  · intro RR hRR
    refine w_move (by constructor) ?_
    refine w_assign (by constructor) ?_
    refine w_assign (by constructor) ?_
    exact hRR
  refine snd_ret ?_
  exact rt_tt (T := TB) (fun V => rfl) (fun V => rfl)
theorem c_l08Inverse {n : Nat} {G : Nat → Nat → Nat} (hG : RG G) (h : GN n G) : ACalls Try.prog TB 44 [grpA (n : Int) G] (.own 0 0 (ccN n G) 25) [(0, .one (.arr (ccN n G) (fun _ => TB.zero 25)) (.arr (ccN n G) (fun r => vecA (eF (isN n G r)))))] := by
  have hcl := closed_cgrp (n := (n : Int)) (G := G)
  have hcl2 := closed_grp (n := (n : Int)) (G := G)
  have hn6 := h.n6
  have hc6 := h.cle
  refine acalls_of tokTB Try.func44 rfl rfl (Nat.le_of_ble_eq_true rfl) ?_
  apply sr tokTB (by kernel_rfl)
  · intro RR hRR
    refine w_boxc (HV.eq (by constructor)) (by exact trivial) ?_
    refine w_assign (by constructor) ?_
    exact hRR
  apply sr tokTB (by kernel_rfl)
  · intro RR hRR
    refine w_ldc rfl kn38 (by constructor) (by exact sz38.symm) (by exact ag38.symm) ?_
    refine w_callc rfl (exc exp_grp exn) (famW_cl (c_l06Classes hG h)) (by exact closed_rowsW) (by exact ⟨closed_grp, trivial⟩) ?_
    refine w_bsl und47 kn25 (by rw [sz25]; rfl) rfl trivial trivial rfl ?_
    refine w_assign (by constructor) ?_
    refine w_assign (by constructor) ?_
    exact hRR
  refine snd_seq ?_
  apply sr tokTB (by kernel_rfl)
  · intro RR hRR
    refine w_assign (by constructor) ?_
    exact hRR
  refine snd_block ?_
  refine snd_loop (S := Nat) (fun r => ([(1, .cptr (grpA (n : Int) G)), (3, rowsW (ccN n G) (ccW n G) (ccF n G)), (4, .own 904 0 r 25), (5, .int .i64 (r : Int))], [(904, .one (.arr r (fun _ => TB.zero 25)) (.arr r (fun r => vecA (eF (isN n G r)))))])) (fun r => r ≤ (ccN n G)) (fun r => (ccN n G) - r) (0) (fun k i => bif Nat.beq k 904 then (12, i) else (k, i)) ?_ ?_ ?_
  · exact ⟨⟨m_cgrp, (mt_rowsW (V := _) (fun _ _ _ _ => rfl)), (by first | exact ⟨rfl, rfl, rfl, rfl⟩ | exact ⟨rfl, by omega, rfl, rfl⟩), (mi), trivial⟩, ⟨⟨rfl, (sx), (by exact ⟨rfl, fun j hj => absurd hj (by omega)⟩)⟩, trivial⟩, ⟨⟨(fun h => by first | exact ⟨rfl, rfl⟩ | exact absurd h (by decide)), trivial⟩, trivial⟩⟩
  · exact Nat.zero_le _
  intro r hi0
  refine sq (env2 := [(1, .cptr (grpA (n : Int) G)), (3, rowsW (ccN n G) (ccW n G) (ccF n G)), (4, .own 904 0 r 25), (5, .int .i64 (r : Int))]) (ol2 := [(904, .one (.arr r (fun _ => TB.zero 25)) (.arr r (fun r => vecA (eF (isN n G r)))))]) rfl rfl ?_
  refine snd_seq ?_
  apply sr tokTB (by kernel_rfl)
  · intro RR hRR
    refine w_move (by constructor) ?_
    refine w_move (by constructor) ?_
    first | refine w_len_r rfl rfl und35 ?_ | refine w_len_o rfl rfl und35 ?_ | refine w_len_n rfl rfl und35 ?_
    refine w_lss rfl rfl ?_
    exact hRR
  refine snd_cond _ rfl (fun hc16 => ?_) (fun hc16 => ?_)
  · try simp only [hcs] at hc16
    have lt_r : r < (ccN n G) := by omega
    have hcf := (h.rp lt_r).2.1
    have hrl := (h.rp lt_r).1
    have hvl := h.iv_lt hrl
    have hnl := h.isN_lt lt_r
    have hiv : ivN n G (clF n G (rpF n G r) 0) = ivN n G (rpF n G r) := by rw [hcf]
    refine snd_skip ?_
    refine snd_seq ?_
    refine snd_block ?_
    apply sdX tokTB mixed [0, 3, 1] (by kernel_rfl) (by kernel_rfl)
    · intro RR hRR
      show WOps _ _ _ _ _ _ _
      show LoadC Try.prog TB _ _ _
      refine wx_ldc rfl kn38 (by constructor) (by exact sz38.symm) (by exact ag38.symm) ?_
      show WOps _ _ _ _ _ _ _
      refine w_move (by constructor) ?_
      refine w_move (by constructor) ?_
      refine w_iar rfl rfl und35 kn62 (by exact sz62.symm) ?_ rfl ?_
      · exact ⟨by omega, by omega⟩
      show LoadC Try.prog TB _ _ _
      first | refine wx_ldc rfl kn62 (by constructor) (by exact sz62.symm) (by exact ag62.symm) ?_ | refine w_ldp rfl kn62 rfl (by constructor) (by exact sz62.symm) (by exact ag62.symm) ?_
      show WOps _ _ _ _ _ _ _
      refine w_iar rfl rfl und62 kn2 (by exact sz2.symm) ?_ rfl ?_
      · exact ⟨Int.le_refl _, (show (0 : Int) < ((clN n G (rpF n G r) : Nat) : Int) by have := (h.rp lt_r).2.2; omega)⟩
      show LoadC Try.prog TB _ _ _
      first | refine wx_ldc rfl kn2 (by constructor) (by exact sz2.symm) (by exact ag2.symm) ?_ | refine w_ldp rfl kn2 rfl (by constructor) (by exact sz2.symm) (by exact ag2.symm) ?_
      show WOps _ _ _ _ _ _ _
      refine y_call rfl (exc exp_grp (ec exn)) ((hiv ▸ c_l06Inverse (i := clF n G (rpF n G r) 0) hG h (by omega))) ?_
      refine w_bld_a kn25 zr25 und25 kn5 (fun _ => (by exact sz5.symm)) trivial rfl (by exact sz5.symm) ?_
      refine w_alloc kn25 rfl zr25 ?_
      refine w_assign (by constructor) ?_
      refine w_stw rfl (by constructor) kn25 rfl (by exact trivial) (sx) (by exact sz25.symm) ?_
      exact hRR
    refine snd_seq ?_
    apply sr tokTB (by kernel_rfl)
    · intro RR hRR
      refine w_assign (by constructor) ?_
      exact hRR
    refine snd_block ?_
    refine snd_loop (S := Nat) (fun k => ([(1, .cptr (grpA (n : Int) G)), (3, rowsW (ccN n G) (ccW n G) (ccF n G)), (4, .own 904 0 r 25), (5, .int .i64 (r : Int)), (6, .int .i64 ((ivN n G (rpF n G r) : Nat) : Int)), (7, .ptr 7 0 [] 0 (vecA (fun _ => 0))), (8, .int .i64 (k : Int))], [(904, .one (.arr r (fun _ => TB.zero 25)) (.arr r (fun r => vecA (eF (isN n G r))))), (7, .one (vecA (fun _ => 0)) (vecA (isF n G r k)))])) (fun k => k ≤ (ccN n G)) (fun k => (ccN n G) - k) (0) ρ0 ?_ ?_ ?_
    · exact ⟨⟨m_cgrp, (mt_rowsW (V := _) (fun _ _ _ _ => rfl)), (by first | exact ⟨rfl, rfl, rfl, rfl⟩ | exact ⟨rfl, by omega, rfl, rfl⟩), (mi), (mi), ⟨rfl, rfl, rfl, rfl, rfl⟩, (mi), trivial⟩, ⟨⟨rfl, (sx), (by exact ⟨rfl, fun _ _ => mt_vec (fun _ _ => rfl)⟩)⟩, ⟨rfl, (sx), (by exact mt_vec (fun z _ => isF_z))⟩, trivial⟩, ⟨⟨(fun h => by first | exact ⟨rfl, rfl⟩ | exact absurd h (by decide)), (fun h => by first | exact ⟨rfl, rfl⟩ | exact absurd h (by decide)), trivial⟩, ⟨(fun h => by first | exact ⟨rfl, rfl⟩ | exact absurd h (by decide)), (fun h => by first | exact ⟨rfl, rfl⟩ | exact absurd h (by decide)), trivial⟩, trivial⟩⟩
    · exact Nat.zero_le _
    intro k hi2
    refine sq (env2 := [(1, .cptr (grpA (n : Int) G)), (3, rowsW (ccN n G) (ccW n G) (ccF n G)), (4, .own 904 0 r 25), (5, .int .i64 (r : Int)), (6, .int .i64 ((ivN n G (rpF n G r) : Nat) : Int)), (7, .ptr 7 0 [] 0 (vecA (fun _ => 0))), (8, .int .i64 (k : Int))]) (ol2 := [(904, .one (.arr r (fun _ => TB.zero 25)) (.arr r (fun r => vecA (eF (isN n G r))))), (7, .one (vecA (fun _ => 0)) (vecA (isF n G r k)))]) rfl rfl ?_
    refine snd_seq ?_
    apply sr tokTB (by kernel_rfl)
    · intro RR hRR
      refine w_move (by constructor) ?_
      refine w_move (by constructor) ?_
      first | refine w_len_r rfl rfl und35 ?_ | refine w_len_o rfl rfl und35 ?_ | refine w_len_n rfl rfl und35 ?_
      refine w_lss rfl rfl ?_
      exact hRR
    refine snd_cond _ rfl (fun hc31 => ?_) (fun hc31 => ?_)
    · try simp only [hcs] at hc31
      have lt_k : k < (ccN n G) := by omega
      refine snd_skip ?_
      refine snd_seq ?_
      refine snd_block ?_
      apply sr tokTB (by kernel_rfl)
      · intro RR hRR
        refine w_assign (by constructor) ?_
        exact hRR
      refine snd_block ?_
      refine snd_loop (S := Nat) (fun m => ([(1, .cptr (grpA (n : Int) G)), (3, rowsW (ccN n G) (ccW n G) (ccF n G)), (4, .own 904 0 r 25), (5, .int .i64 (r : Int)), (6, .int .i64 ((ivN n G (rpF n G r) : Nat) : Int)), (7, .ptr 7 0 [] 0 (vecA (fun _ => 0))), (8, .int .i64 (k : Int)), (9, .int .i64 (m : Int))], [(904, .one (.arr r (fun _ => TB.zero 25)) (.arr r (fun r => vecA (eF (isN n G r))))), (7, .one (vecA (fun _ => 0)) (vecA (isG n G r k m)))])) (fun m => m ≤ (ccW n G k)) (fun m => (ccW n G k) - m) (0) ρ0 ?_ ?_ ?_
      · exact ⟨⟨m_cgrp, (mt_rowsW (V := _) (fun _ _ _ _ => rfl)), (by first | exact ⟨rfl, rfl, rfl, rfl⟩ | exact ⟨rfl, by omega, rfl, rfl⟩), (mi), (mi), ⟨rfl, rfl, rfl, rfl, rfl⟩, (mi), (mi), trivial⟩, ⟨⟨rfl, (sx), (by exact ⟨rfl, fun _ _ => mt_vec (fun _ _ => rfl)⟩)⟩, ⟨rfl, (sx), (by exact mt_vec (fun z _ => isG_0))⟩, trivial⟩, ⟨⟨(fun h => by first | exact ⟨rfl, rfl⟩ | exact absurd h (by decide)), (fun h => by first | exact ⟨rfl, rfl⟩ | exact absurd h (by decide)), trivial⟩, ⟨(fun h => by first | exact ⟨rfl, rfl⟩ | exact absurd h (by decide)), (fun h => by first | exact ⟨rfl, rfl⟩ | exact absurd h (by decide)), trivial⟩, trivial⟩⟩
      · exact Nat.zero_le _
      intro m hi4
      refine sq (env2 := [(1, .cptr (grpA (n : Int) G)), (3, rowsW (ccN n G) (ccW n G) (ccF n G)), (4, .own 904 0 r 25), (5, .int .i64 (r : Int)), (6, .int .i64 ((ivN n G (rpF n G r) : Nat) : Int)), (7, .ptr 7 0 [] 0 (vecA (fun _ => 0))), (8, .int .i64 (k : Int)), (9, .int .i64 (m : Int))]) (ol2 := [(904, .one (.arr r (fun _ => TB.zero 25)) (.arr r (fun r => vecA (eF (isN n G r))))), (7, .one (vecA (fun _ => 0)) (vecA (isG n G r k m)))]) rfl rfl ?_
      refine snd_seq ?_
      apply sr tokTB (by kernel_rfl)
      · intro RR hRR
        refine w_move (by constructor) ?_
        refine w_move (by constructor) ?_
        refine w_move (by constructor) ?_
        refine w_iar rfl rfl und35 kn62 (by exact sz62.symm) ?_ rfl ?_
        · exact ⟨by omega, by omega⟩
        first | refine w_ldc rfl kn62 (by constructor) (by exact sz62.symm) (by exact ag62.symm) ?_ | refine w_ldp rfl kn62 rfl (by constructor) (by exact sz62.symm) (by exact ag62.symm) ?_
        refine w_len_r rfl rfl und62 ?_
        refine w_lss rfl rfl ?_
        exact hRR
      refine snd_cond _ rfl (fun hc40 => ?_) (fun hc40 => ?_)
      · try simp only [hcs] at hc40
        have lt_m : m < ccW n G k := Int.ofNat_lt.1 hc40
        have hwk : ccW n G k ≤ 6 := h.wle k
        refine snd_skip ?_
        refine snd_seq ?_
        refine snd_block ?_
        apply sr tokTB (by kernel_rfl)
        · intro RR hRR
          refine w_move (by constructor) ?_
          refine w_move (by constructor) ?_
          refine w_iar rfl rfl und35 kn62 (by exact sz62.symm) ?_ rfl ?_
          · exact ⟨by omega, by omega⟩
          first | refine w_ldc rfl kn62 (by constructor) (by exact sz62.symm) (by exact ag62.symm) ?_ | refine w_ldp rfl kn62 rfl (by constructor) (by exact sz62.symm) (by exact ag62.symm) ?_
          refine w_move (by constructor) ?_
          refine w_iar rfl rfl und62 kn2 (by exact sz2.symm) ?_ rfl ?_
          · exact ⟨(show (0 : Int) ≤ (m : Int) by omega), (show (m : Int) < ((ccW n G k : Nat) : Int) by omega)⟩
          first | refine w_ldc rfl kn2 (by constructor) (by exact sz2.symm) (by exact ag2.symm) ?_ | refine w_ldp rfl kn2 rfl (by constructor) (by exact sz2.symm) (by exact ag2.symm) ?_
          refine w_move (by constructor) ?_
          refine w_eql rfl rfl ?_
          exact hRR
        refine snd_cond _ rfl (fun hc51 => ?_) (fun hc51 => ?_)
        · skip
          have q : clF n G (rpF n G k) m = ivN n G (rpF n G r) := by have q1 : ((clF n G (rpF n G k) m : Nat) : Int) = ((ivN n G (rpF n G r) : Nat) : Int) := of_decide_eq_true hc51; omega
          apply lr tokTB (by kernel_rfl)
          · intro RR hRR
            refine w_move (by constructor) ?_
            refine w_iap rfl rfl und25 kn5 rfl (by exact sz5.symm) rfl ?_ ?_
            · exact ⟨by omega, by omega⟩
            first | refine w_stw rfl (by constructor) kn5 rfl (by exact trivial) (sx) (by exact sz5.symm) ?_ | refine w_sti rfl rfl kn5 rfl (by exact trivial) (by exact sz5.symm) ?_ | refine w_store rfl (HV.eq (by constructor)) kn5 rfl (by exact trivial) (sx) (by exact sz5.symm) (put_in (by first | exact put_mat | exact put_tab | exact put_alg0 | exact put_pr0 | exact put_pr1 | exact put_pr2 | exact put_tn4 | exact put_grp0 | exact put_grp1 | exact put_alg1 | exact put_alg2 | exact put_alg3 | exact put_alg3i | exact put_alg2ij | exact put_alg2ijk | exact put_mat2 | exact put_tab2 | exact put_tab3)) ?_ | refine w_store rfl (HV.eq (by constructor)) kn5 rfl (by exact trivial) (by exact trivial) (by exact sz5.symm) rfl ?_
            exact hRR
          apply lr tokTB (by kernel_rfl)
          · intro RR hRR
            refine w_move (by constructor) ?_
            refine y_add rfl rfl ?_
            refine w_assign (by constructor) ?_
            exact hRR
          refine ⟨m + 1, ρ0, ?_, (by omega), (by dsimp only; omega)⟩
          exact ⟨⟨m_cgrp, (mt_rowsW (V := _) (fun _ _ _ _ => rfl)), (by first | exact ⟨rfl, rfl, rfl, rfl⟩ | exact ⟨rfl, by omega, rfl, rfl⟩), (mi), (mi), ⟨rfl, rfl, rfl, rfl, rfl⟩, (mi), (mi), trivial⟩, ⟨⟨rfl, (sx), (by exact ⟨rfl, fun _ _ => mt_vec (fun _ _ => rfl)⟩)⟩, ⟨rfl, (sx), (by exact mt_vec (fun z _ => isG_t q))⟩, trivial⟩, ⟨⟨(fun h => by first | exact ⟨rfl, rfl⟩ | exact absurd h (by decide)), (fun h => by first | exact ⟨rfl, rfl⟩ | exact absurd h (by decide)), trivial⟩, ⟨(fun h => by first | exact ⟨rfl, rfl⟩ | exact absurd h (by decide)), (fun h => by first | exact ⟨rfl, rfl⟩ | exact absurd h (by decide)), trivial⟩, trivial⟩⟩
        · skip
          have q : clF n G (rpF n G k) m ≠ ivN n G (rpF n G r) := by have q1 : ¬ ((clF n G (rpF n G k) m : Nat) : Int) = ((ivN n G (rpF n G r) : Nat) : Int) := of_decide_eq_false hc51; omega
          refine snd_skip ?_
          apply lr tokTB (by kernel_rfl)
          · intro RR hRR
            refine w_move (by constructor) ?_
            refine y_add rfl rfl ?_
            refine w_assign (by constructor) ?_
            exact hRR
          refine ⟨m + 1, ρ0, ?_, (by omega), (by dsimp only; omega)⟩
          exact ⟨⟨m_cgrp, (mt_rowsW (V := _) (fun _ _ _ _ => rfl)), (by first | exact ⟨rfl, rfl, rfl, rfl⟩ | exact ⟨rfl, by omega, rfl, rfl⟩), (mi), (mi), ⟨rfl, rfl, rfl, rfl, rfl⟩, (mi), (mi), trivial⟩, ⟨⟨rfl, (sx), (by exact ⟨rfl, fun _ _ => mt_vec (fun _ _ => rfl)⟩)⟩, ⟨rfl, (sx), (by exact mt_vec (fun z _ => isG_f q))⟩, trivial⟩, ⟨⟨(fun h => by first | exact ⟨rfl, rfl⟩ | exact absurd h (by decide)), (fun h => by first | exact ⟨rfl, rfl⟩ | exact absurd h (by decide)), trivial⟩, ⟨(fun h => by first | exact ⟨rfl, rfl⟩ | exact absurd h (by decide)), (fun h => by first | exact ⟨rfl, rfl⟩ | exact absurd h (by decide)), trivial⟩, trivial⟩⟩
      · try simp only [hcs] at hc40
        have ge_m : ccW n G k = m := by have q : ((ccW n G k : Nat) : Int) ≤ (m : Int) := hc40; omega
        subst ge_m
        refine snd_exit ?_
        apply lr tokTB (by kernel_rfl)
        · intro RR hRR
          refine w_move (by constructor) ?_
          refine y_add rfl rfl ?_
          refine w_assign (by constructor) ?_
          exact hRR
        refine ⟨k + 1, ρ0, ?_, (by omega), (by dsimp only; omega)⟩
        exact ⟨⟨m_cgrp, (mt_rowsW (V := _) (fun _ _ _ _ => rfl)), (by first | exact ⟨rfl, rfl, rfl, rfl⟩ | exact ⟨rfl, by omega, rfl, rfl⟩), (mi), (mi), ⟨rfl, rfl, rfl, rfl, rfl⟩, (mi), trivial⟩, ⟨⟨rfl, (sx), (by exact ⟨rfl, fun _ _ => mt_vec (fun _ _ => rfl)⟩)⟩, ⟨rfl, (sx), (by exact mt_vec (fun z _ => h.isG_n lt_r lt_k))⟩, trivial⟩, ⟨⟨(fun h => by first | exact ⟨rfl, rfl⟩ | exact absurd h (by decide)), (fun h => by first | exact ⟨rfl, rfl⟩ | exact absurd h (by decide)), trivial⟩, ⟨(fun h => by first | exact ⟨rfl, rfl⟩ | exact absurd h (by decide)), (fun h => by first | exact ⟨rfl, rfl⟩ | exact absurd h (by decide)), trivial⟩, trivial⟩⟩
    · try simp only [hcs] at hc31
      have ge_k : (ccN n G) = k := by omega
      subst ge_k
      refine snd_exit ?_
      apply lr tokTB (by kernel_rfl)
      · intro RR hRR
        refine w_move (by constructor) ?_
        refine w_ldp rfl kn25 rfl (by constructor) (by exact sz25.symm) (by exact ag25.symm) ?_
        refine w_bsl1 und47 kn25 (by rw [sz25]; rfl) rfl (by constructor) (by first | exact trivial | exact cel_cap2) (by exact sz25.symm) (by first | exact trivial | exact ssh_vec | exact ⟨rfl, fun _ => trivial⟩) ?_
        refine w_app_o und47 rfl rfl kn25 rfl rfl (fun C h => ⟨rfl, rfl, rfl, h⟩) (by rw [by25]; omega) (by omega) rfl ?_
        refine w_assign (by constructor) ?_
        exact hRR
      apply lr tokTB (by kernel_rfl)
      · intro RR hRR
        refine w_move (by constructor) ?_
        refine y_add rfl rfl ?_
        refine w_assign (by constructor) ?_
        exact hRR
      refine ⟨r + 1, (fun k i => bif Nat.beq k 904 then (57, i) else (k, i)), ?_, (by omega), (by dsimp only; omega)⟩
      exact ⟨⟨m_cgrp, (mt_rowsW (V := _) (fun _ _ _ _ => rfl)), (by first | exact ⟨rfl, rfl, rfl, rfl⟩ | exact ⟨rfl, by omega, rfl, rfl⟩), (mi), trivial⟩, ⟨⟨rfl, (sx), (by exact mt_app' rfl (fun _ _ => mt_vec (fun _ _ => rfl)) (mt_vec (fun z _ => isF_n hnl)))⟩, trivial⟩, ⟨⟨(fun h => by first | exact ⟨rfl, rfl⟩ | exact absurd h (by decide)), trivial⟩, trivial⟩⟩
  · try simp only [hcs] at hc16
    have ge_r : (ccN n G) = r := by omega
    subst ge_r
    refine snd_exit ?_
    apply sr tokTB (by kernel_rfl)
    · intro RR hRR
      refine w_move (by constructor) ?_
      refine w_assign (by constructor) ?_
      exact hRR
    refine snd_ret ?_
    show retQ TB _ _ _ _ _ _
    show retQ TB _ _ _ _ _ _
    exact rt_own rfl rfl rfl (fun _ => (sx)) (fun V i hi => mt_vec (fun _ _ => rfl))
theorem c_sInverseStar_ok {n : Nat} {G : Nat → Nat → Nat} (hG : RG G) (h : GN n G) {p : Int} (hp : primeB p = true) : ACalls Try.prog TB 20 [.int .i64 p, grpA (n : Int) G] (.tup 2 (pairA (.own 0 0 (ccN n G) 25) (.int .i64 0))) [(0, .one (.arr (ccN n G) (fun _ => TB.zero 25)) (.arr (ccN n G) (fun r => vecA (eF (isN n G r)))))] := by
  have hcl := closed_cgrp (n := (n : Int)) (G := G)
  have hcl2 := closed_grp (n := (n : Int)) (G := G)
  have hn6 := h.n6
  have hpb := primeB_bd hp
  have hc6 := h.cle
  refine acalls_of tokTB Try.func20 rfl rfl (Nat.le_of_ble_eq_true rfl) ?_
  apply sr tokTB (by kernel_rfl)
  · intro RR hRR
    refine w_boxc (HV.eq (by constructor)) (by exact trivial) ?_
    refine w_assign (by constructor) ?_
    refine w_assign (by constructor) ?_
    exact hRR
  refine snd_seq ?_
  apply sr tokTB (by kernel_rfl)
  · intro RR hRR
    refine w_move (by constructor) ?_
    refine w_ldc rfl kn38 (by constructor) (by exact sz38.symm) (by exact ag38.symm) ?_
    refine y_call rfl (ec (exc exp_grp exn)) (c_l06Code_ok hG h hp) ?_
    refine w_assign (by constructor) ?_
    exact hRR
  apply sr tokTB (by kernel_rfl)
  · intro RR hRR
    refine w_move (by constructor) ?_
    refine w_neq rfl rfl ?_
    exact hRR
  refine snd_cond_false rfl ?_
  refine snd_skip ?_
  apply sr tokTB (by kernel_rfl)
  · intro RR hRR
    refine w_ldc rfl kn38 (by constructor) (by exact sz38.symm) (by exact ag38.symm) ?_
    refine w_call rfl (exc exp_grp exn) (c_l08Inverse hG h) (.inl ⟨trivial, ⟨fun _ _ => trivial, trivial⟩⟩) rfl (by constructor) rfl ?_
    refine w_assign (by constructor) ?_
    refine w_assign (by constructor) ?_
    exact hRR
  refine snd_ret ?_
  show retQ TB _ _ _ _ _ _
  show retQ TB _ _ _ _ _ _
  exact rt_own_u rfl (fun V => rfl) rfl rfl (fun _ => (sx)) (fun V i hi => mt_vec (fun _ _ => rfl))
theorem c_sInverseStar_pr {n : Nat} {G : Nat → Nat → Nat} (hG : RG G) (h : GN n G) {p : Int} (hp : primeB p = false) : ACalls Try.prog TB 20 [.int .i64 p, grpA (n : Int) G] (.tup 2 (pairA .nilsl (.int .i64 2))) [] := by
  have hcl := closed_cgrp (n := (n : Int)) (G := G)
  have hcl2 := closed_grp (n := (n : Int)) (G := G)
  refine acalls_of tokTB Try.func20 rfl rfl (Nat.le_of_ble_eq_true rfl) ?_
  apply sr tokTB (by kernel_rfl)
  · intro RR hRR
    refine w_boxc (HV.eq (by constructor)) (by exact trivial) ?_
    refine w_assign (by constructor) ?_
    refine w_assign (by constructor) ?_
    exact hRR
  refine snd_seq ?_
  apply sr tokTB (by kernel_rfl)
  · intro RR hRR
    refine w_move (by constructor) ?_
    refine w_ldc rfl kn38 (by constructor) (by exact sz38.symm) (by exact ag38.symm) ?_
    refine y_call rfl (ec (exc exp_grp exn)) (c_l06Code_pr hG h hp) ?_
    refine w_assign (by constructor) ?_
    exact hRR
  apply sr tokTB (by kernel_rfl)
  · intro RR hRR
    refine w_move (by constructor) ?_
    refine w_neq rfl rfl ?_
    exact hRR
  refine snd_cond_true rfl ?_
  apply sr tokTB (by kernel_rfl)
  · intro RR hRR
    refine w_move (by constructor) ?_
    refine w_assign (by constructor) ?_
    refine w_assign (by constructor) ?_
    exact hRR
  refine snd_ret ?_
  exact rt_tt (T := TB) (fun V => rfl) (fun V => rfl)
theorem c_sInverseStar_no {n : Int} {G : Nat → Nat → Nat} (hG : RG G) {p : Int} (h : ¬ GZ n G) : ACalls Try.prog TB 20 [.int .i64 p, grpA n G] (.tup 2 (pairA .nilsl (.int .i64 1))) [] := by
  have hcl2 := closed_grp (n := n) (G := G)
  refine acalls_of tokTB Try.func20 rfl rfl (Nat.le_of_ble_eq_true rfl) ?_
  apply sr tokTB (by kernel_rfl)
  · intro RR hRR
    refine w_boxc (HV.eq (by constructor)) (by exact trivial) ?_
    refine w_assign (by constructor) ?_
    refine w_assign (by constructor) ?_
    exact hRR
  refine snd_seq ?_
  apply sr tokTB (by kernel_rfl)
  · intro RR hRR
    refine w_move (by constructor) ?_
    refine w_ldc rfl kn38 (by constructor) (by exact sz38.symm) (by exact ag38.symm) ?_
    refine y_call rfl (ec (exc exp_grp exn)) (c_l06Code_no hG h) ?_
    refine w_assign (by constructor) ?_
    exact hRR
  apply sr tokTB (by kernel_rfl)
  · intro RR hRR
    refine w_move (by constructor) ?_
    refine w_neq rfl rfl ?_
    exact hRR
  refine snd_cond_true rfl ?_
  apply sr tokTB (by kernel_rfl)
  · intro RR hRR
    refine w_move (by constructor) ?_
    refine w_assign (by constructor) ?_
    refine w_assign (by constructor) ?_
    exact hRR
  refine snd_ret ?_
  exact rt_tt (T := TB) (fun V => rfl) (fun V => rfl)
theorem lInverseStar_ok {n : Nat} {G : Nat → Nat → Nat} (hG : RG G) (h : GN n G) {p : Int} (hp : primeB p = true) : ACalls Try.prog TB 6 [.int .i64 p, grpA (n : Int) G] (.bool true) [] := by
  refine acalls_of tokTB Try.func6 rfl rfl (Nat.le_of_ble_eq_true rfl) ?_
  apply sr tokTB (by kernel_rfl)
  · intro RR hRR
    refine w_boxc (HV.eq (by constructor)) (by exact trivial) ?_
    refine w_assign (by constructor) ?_
    exact hRR
  apply sr tokTB (by kernel_rfl)
  · intro RR hRR
    refine w_move (by constructor) ?_
    refine w_ldc rfl kn34 (by constructor) (by exact sz34.symm) (by exact ag34.symm) ?_
    refine w_call0 rfl (exc exp_grp exn) (c_toGroup) nr_grp (fun _ => shift_grp) ?_
    refine w_call rfl (ec (exc exp_grp exn)) (c_sInverseStar_ok hG h hp) (.inl ⟨nr_pair trivial trivial, ⟨fun _ _ => trivial, trivial⟩⟩) rfl (by constructor) rfl ?_
    refine w_move (by constructor) ?_
    refine w_ext rfl (by decide) (by constructor) ?_
    refine w_ext rfl (by decide) (by constructor) ?_
    refine w_assign (by constructor) ?_
    refine w_assign (by constructor) ?_
    exact hRR
  apply sr tokTB (by kernel_rfl)
  · intro RR hRR
    refine w_move (by constructor) ?_
    refine w_ldc rfl kn34 (by constructor) (by exact sz34.symm) (by exact ag34.symm) ?_
    refine w_call0 rfl (exc exp_grp exn) (c_toGroup) nr_grp (fun _ => shift_grp) ?_
    refine w_call rfl (ec (exc exp_grp exn)) (c_iInverseStar_ok hG h hp) (.inl ⟨nr_pair trivial trivial, ⟨fun _ _ => trivial, trivial⟩⟩) rfl (by constructor) rfl ?_
    refine w_move (by constructor) ?_
    refine w_ext rfl (by decide) (by constructor) ?_
    refine w_ext rfl (by decide) (by constructor) ?_
    refine w_assign (by constructor) ?_
    refine w_assign (by constructor) ?_
    exact hRR
  refine snd_seq ?_
  apply srG (env' := (35, .bool (!true || decide ((0 : Int) ≠ 0))) :: (34, .any) :: (33, .any) :: (32, .any) :: (31, _) :: (30, _) :: (29, _) :: (28, _) :: (27, _) :: _) tokTB (by kernel_rfl)
  · intro RR hRR
    refine w_move (by constructor) ?_
    refine w_move (by constructor) ?_
    refine y_call rfl rfl ((c_eqVectorS (N := (ccN n G)) (R := (fun r => eF (isN n G r))) (S := (fun r => eF (isN n G r))) (by have := h.cle; omega) (fun i _ => fun j _ => rfl)).mt ⟨mt_vl0 rfl, mt_vl0 rfl, trivial⟩) ?_
    refine w_not rfl ?_
    refine w_move (by constructor) ?_
    refine w_g rfl rfl (fun hg4 => ?_) (fun hg4 => ?_)
    · skip
      refine w_move (by constructor) ?_
      refine w_g_on rfl rfl hg4 ?_
      refine w_move (by constructor) ?_
      refine w_g_on rfl rfl hg4 ?_
      refine w_neq rfl rfl ?_
      refine w_pick_0 rfl hg4 (by constructor) ?_
      try simp only [Int.toNat_natCast] at hg4
      exact hRR _ (EL.cons (.inr (by first | rfl | (simp only [hg4, els]; done) | (simp only [hg4, els]; rfl) | (simp [hg4]; done) | (clear hRR; simp_all; done))) (EL.cons (.inl rfl) (EL.cons (.inl rfl) (EL.cons (.inl rfl) (EL.cons (.inr rfl) (EL.cons (.inr rfl) (EL.cons (.inr rfl) (EL.cons (.inr rfl) (EL.cons (.inr rfl) (EL.refl _))))))))))
    · have hg4 := eq_true_of_ne_false hg4
      refine w_g_off rfl rfl (by rw [hg4]; decide) ?_
      refine w_g_off rfl rfl (by rw [hg4]; decide) ?_
      refine w_pick_1 rfl hg4 (by constructor) ?_
      try simp only [Int.toNat_natCast] at hg4
      exact hRR _ (EL.cons (.inr (by first | rfl | (simp only [hg4, els]; done) | (simp only [hg4, els]; rfl) | (simp [hg4]; done) | (clear hRR; simp_all; done))) (EL.cons (.inl rfl) (EL.cons (.inl rfl) (EL.cons (.inl rfl) (EL.cons (.inr rfl) (EL.cons (.inr rfl) (EL.cons (.inr rfl) (EL.cons (.inr rfl) (EL.cons (.inr rfl) (EL.refl _))))))))))
  refine snd_cond _ rfl (fun hc35 => ?_) (fun hc35 => ?_)
  · skip
    exact absurd hc35 (by simp)
  · skip
    refine snd_skip ?_
    apply sr tokTB (by kernel_rfl)
    · intro RR hRR
      refine w_assign (by constructor) ?_
      exact hRR
    apply srD tokTB (ops1 := [_, _]) (ops2 := [_]) (by kernel_rfl) rfl rfl
    · intro RR hRR
      refine w_move (by constructor) ?_
      refine w_move (by constructor) ?_
      exact hRR
    · exact mut_mid1 tokTB (c_markVectorS (N := (ccN n G)) (R := (fun r => eF (isN n G r))) (k := 1) (by have := h.cle; omega) (by omega)) (args := [.tmp 37]) (k := 25000) (i := 0) rfl rfl ⟨trivial, trivial⟩ trivial (fun _ _ => trivial) (fun _ _ => trivial) rfl
    · intro RR hRR
      refine w_assign (by constructor) ?_
      exact hRR
    apply sr tokTB (by kernel_rfl)
    · intro RR hRR
      refine w_assign (by constructor) ?_
      exact hRR
    apply sr tokTB (by kernel_rfl)
    · intro RR hRR
      refine w_move (by constructor) ?_
      refine w_move (by constructor) ?_
      refine y_call rfl rfl ((c_heldVectorS (N := (ccN n G)) (R := mk8 1) (k := 1) (by have := h.cle; omega) (by omega) (fun i _ j _ => rfl)).mt ⟨mt_vl0 rfl, mt_int0, trivial⟩) ?_
      refine w_assign (by constructor) ?_
      exact hRR
    refine snd_seq ?_
    apply sr tokTB (by kernel_rfl)
    · intro RR hRR
      refine w_move (by constructor) ?_
      refine w_lss rfl rfl ?_
      exact hRR
    refine snd_cond_false (by exact congrArg AV.bool (decide_eq_false (by omega))) ?_
    refine snd_skip ?_
    refine snd_seq ?_
    apply sr tokTB (by kernel_rfl)
    · intro RR hRR
      refine w_move (by constructor) ?_
      refine w_move (by constructor) ?_
      refine w_neq rfl rfl ?_
      exact hRR
    refine snd_cond_false (by exact congrArg AV.bool (decide_eq_false (by simp))) ?_
    refine snd_skip ?_
    apply sr tokTB (by kernel_rfl)
    · intro RR hRR
      refine w_move (by constructor) ?_
      refine w_ldc rfl kn34 (by constructor) (by exact sz34.symm) (by exact ag34.symm) ?_
      refine w_call0 rfl (exc exp_grp exn) (c_toGroup) nr_grp (fun _ => shift_grp) ?_
      refine w_call rfl (ec (exc exp_grp exn)) (c_iInverseStar_ok hG h hp) (.inl ⟨nr_pair trivial trivial, ⟨fun _ _ => trivial, trivial⟩⟩) rfl (by constructor) rfl ?_
      refine w_move (by constructor) ?_
      refine w_ext rfl (by decide) (by constructor) ?_
      refine w_ext rfl (by decide) (by constructor) ?_
      refine w_assign (by constructor) ?_
      refine w_assign (by constructor) ?_
      exact hRR
    refine snd_seq ?_
    apply srG (env' := (62, .bool (!true || decide ((0 : Int) ≠ 0))) :: (61, .any) :: (60, .any) :: (59, .any) :: (58, _) :: (57, _) :: (56, _) :: (55, _) :: (54, _) :: _) tokTB (by kernel_rfl)
    · intro RR hRR
      refine w_move (by constructor) ?_
      refine w_move (by constructor) ?_
      refine y_call rfl rfl ((c_eqVectorS (N := (ccN n G)) (R := (fun r => eF (isN n G r))) (S := (fun r => eF (isN n G r))) (by have := h.cle; omega) (fun i _ => fun j _ => rfl)).mt ⟨mt_vl0 rfl, mt_vl0 rfl, trivial⟩) ?_
      refine w_not rfl ?_
      refine w_move (by constructor) ?_
      refine w_g rfl rfl (fun hg4 => ?_) (fun hg4 => ?_)
      · skip
        refine w_move (by constructor) ?_
        refine w_g_on rfl rfl hg4 ?_
        refine w_move (by constructor) ?_
        refine w_g_on rfl rfl hg4 ?_
        refine w_neq rfl rfl ?_
        refine w_pick_0 rfl hg4 (by constructor) ?_
        try simp only [Int.toNat_natCast] at hg4
        exact hRR _ (EL.cons (.inr (by first | rfl | (simp only [hg4, els]; done) | (simp only [hg4, els]; rfl) | (simp [hg4]; done) | (clear hRR; simp_all; done))) (EL.cons (.inl rfl) (EL.cons (.inl rfl) (EL.cons (.inl rfl) (EL.cons (.inr rfl) (EL.cons (.inr rfl) (EL.cons (.inr rfl) (EL.cons (.inr rfl) (EL.cons (.inr rfl) (EL.refl _))))))))))
      · have hg4 := eq_true_of_ne_false hg4
        refine w_g_off rfl rfl (by rw [hg4]; decide) ?_
        refine w_g_off rfl rfl (by rw [hg4]; decide) ?_
        refine w_pick_1 rfl hg4 (by constructor) ?_
        try simp only [Int.toNat_natCast] at hg4
        exact hRR _ (EL.cons (.inr (by first | rfl | (simp only [hg4, els]; done) | (simp only [hg4, els]; rfl) | (simp [hg4]; done) | (clear hRR; simp_all; done))) (EL.cons (.inl rfl) (EL.cons (.inl rfl) (EL.cons (.inl rfl) (EL.cons (.inr rfl) (EL.cons (.inr rfl) (EL.cons (.inr rfl) (EL.cons (.inr rfl) (EL.cons (.inr rfl) (EL.refl _))))))))))
    refine snd_cond _ rfl (fun hc62 => ?_) (fun hc62 => ?_)
    · skip
      exact absurd hc62 (by simp)
    · skip
      refine snd_skip ?_
      apply sr tokTB (by kernel_rfl)
      · intro RR hRR
        refine w_assign (by constructor) ?_
        exact hRR
      apply sr tokTB (by kernel_rfl)
      · intro RR hRR
        refine w_move (by constructor) ?_
        refine w_move (by constructor) ?_
        refine y_call rfl rfl ((c_heldVectorS (N := (ccN n G)) (R := mk8 1) (k := 1) (by have := h.cle; omega) (by omega) (fun i _ j _ => rfl)).mt ⟨mt_vl0 rfl, mt_int0, trivial⟩) ?_
        refine w_assign (by constructor) ?_
        exact hRR
      refine snd_seq ?_
      apply sr tokTB (by kernel_rfl)
      · intro RR hRR
        refine w_move (by constructor) ?_
        refine w_lss rfl rfl ?_
        exact hRR
      refine snd_cond_false (by exact congrArg AV.bool (decide_eq_false (by omega))) ?_
      refine snd_skip ?_
      refine snd_seq ?_
      apply sr tokTB (by kernel_rfl)
      · intro RR hRR
        refine w_move (by constructor) ?_
        refine w_move (by constructor) ?_
        refine w_neq rfl rfl ?_
        exact hRR
      refine snd_cond_false (by exact congrArg AV.bool (decide_eq_false (by simp))) ?_
      refine snd_skip ?_
      apply sr tokTB (by kernel_rfl)
      · intro RR hRR
        refine w_assign (by constructor) ?_
        exact hRR
      refine snd_ret ?_
      exact rt (T := TB) (fun V => rfl)
theorem lInverseStar_pr {n : Nat} {G : Nat → Nat → Nat} (hG : RG G) (h : GN n G) {p : Int} (hp : primeB p = false) : ACalls Try.prog TB 6 [.int .i64 p, grpA (n : Int) G] (.bool true) [] := by
  refine acalls_of tokTB Try.func6 rfl rfl (Nat.le_of_ble_eq_true rfl) ?_
  apply sr tokTB (by kernel_rfl)
  · intro RR hRR
    refine w_boxc (HV.eq (by constructor)) (by exact trivial) ?_
    refine w_assign (by constructor) ?_
    exact hRR
  apply sr tokTB (by kernel_rfl)
  · intro RR hRR
    refine w_move (by constructor) ?_
    refine w_ldc rfl kn34 (by constructor) (by exact sz34.symm) (by exact ag34.symm) ?_
    refine w_call0 rfl (exc exp_grp exn) (c_toGroup) nr_grp (fun _ => shift_grp) ?_
    refine y_call rfl (ec (exc exp_grp exn)) (c_sInverseStar_pr hG h hp) ?_
    refine w_move (by constructor) ?_
    refine w_ext rfl (by decide) (by constructor) ?_
    refine w_ext rfl (by decide) (by constructor) ?_
    refine w_assign (by constructor) ?_
    refine w_assign (by constructor) ?_
    exact hRR
  apply sr tokTB (by kernel_rfl)
  · intro RR hRR
    refine w_move (by constructor) ?_
    refine w_ldc rfl kn34 (by constructor) (by exact sz34.symm) (by exact ag34.symm) ?_
    refine w_call0 rfl (exc exp_grp exn) (c_toGroup) nr_grp (fun _ => shift_grp) ?_
    refine y_call rfl (ec (exc exp_grp exn)) (c_iInverseStar_pr hG h hp) ?_
    refine w_move (by constructor) ?_
    refine w_ext rfl (by decide) (by constructor) ?_
    refine w_ext rfl (by decide) (by constructor) ?_
    refine w_assign (by constructor) ?_
    refine w_assign (by constructor) ?_
    exact hRR
  refine snd_seq ?_
  apply srG (env' := (35, .bool (!true || decide ((2 : Int) ≠ 2))) :: (34, .any) :: (33, .any) :: (32, .any) :: (31, _) :: (30, _) :: (29, _) :: (28, _) :: (27, _) :: _) tokTB (by kernel_rfl)
  · intro RR hRR
    refine w_move (by constructor) ?_
    refine w_move (by constructor) ?_
    refine y_call rfl rfl ((c_eqVectorS (N := 0) (R := (fun _ _ => 0)) (S := (fun _ _ => 0)) (by omega) (fun i h => absurd h (by omega))).mt ⟨mt_nil0, mt_nil0, trivial⟩) ?_
    refine w_not rfl ?_
    refine w_move (by constructor) ?_
    refine w_g rfl rfl (fun hg4 => ?_) (fun hg4 => ?_)
    · skip
      refine w_move (by constructor) ?_
      refine w_g_on rfl rfl hg4 ?_
      refine w_move (by constructor) ?_
      refine w_g_on rfl rfl hg4 ?_
      refine w_neq rfl rfl ?_
      refine w_pick_0 rfl hg4 (by constructor) ?_
      try simp only [Int.toNat_natCast] at hg4
      exact hRR _ (EL.cons (.inr (by first | rfl | (simp only [hg4, els]; done) | (simp only [hg4, els]; rfl) | (simp [hg4]; done) | (clear hRR; simp_all; done))) (EL.cons (.inl rfl) (EL.cons (.inl rfl) (EL.cons (.inl rfl) (EL.cons (.inr rfl) (EL.cons (.inr rfl) (EL.cons (.inr rfl) (EL.cons (.inr rfl) (EL.cons (.inr rfl) (EL.refl _))))))))))
    · have hg4 := eq_true_of_ne_false hg4
      refine w_g_off rfl rfl (by rw [hg4]; decide) ?_
      refine w_g_off rfl rfl (by rw [hg4]; decide) ?_
      refine w_pick_1 rfl hg4 (by constructor) ?_
      try simp only [Int.toNat_natCast] at hg4
      exact hRR _ (EL.cons (.inr (by first | rfl | (simp only [hg4, els]; done) | (simp only [hg4, els]; rfl) | (simp [hg4]; done) | (clear hRR; simp_all; done))) (EL.cons (.inl rfl) (EL.cons (.inl rfl) (EL.cons (.inl rfl) (EL.cons (.inr rfl) (EL.cons (.inr rfl) (EL.cons (.inr rfl) (EL.cons (.inr rfl) (EL.cons (.inr rfl) (EL.refl _))))))))))
  refine snd_cond _ rfl (fun hc35 => ?_) (fun hc35 => ?_)
  · skip
    exact absurd hc35 (by simp)
  · skip
    refine snd_skip ?_
    apply sr tokTB (by kernel_rfl)
    · intro RR hRR
      refine w_assign (by constructor) ?_
      exact hRR
    apply sr tokTB (by kernel_rfl)
    · intro RR hRR
      refine w_move (by constructor) ?_
      refine w_move (by constructor) ?_
      refine y_call rfl (ec (ec exn)) (c_markNilVectorS (k := 1)) ?_
      refine w_assign (by constructor) ?_
      exact hRR
    apply sr tokTB (by kernel_rfl)
    · intro RR hRR
      refine w_assign (by constructor) ?_
      exact hRR
    apply sr tokTB (by kernel_rfl)
    · intro RR hRR
      refine w_move (by constructor) ?_
      refine w_move (by constructor) ?_
      refine y_call rfl rfl ((c_heldVectorS (N := 0) (R := (fun _ _ => 0)) (k := 1) (by omega) (by omega) (fun i h => absurd h (by omega))).mt ⟨mt_nil0, mt_int0, trivial⟩) ?_
      refine w_assign (by constructor) ?_
      exact hRR
    refine snd_seq ?_
    apply sr tokTB (by kernel_rfl)
    · intro RR hRR
      refine w_move (by constructor) ?_
      refine w_lss rfl rfl ?_
      exact hRR
    refine snd_cond_false (by exact congrArg AV.bool (decide_eq_false (by omega))) ?_
    refine snd_skip ?_
    refine snd_seq ?_
    apply sr tokTB (by kernel_rfl)
    · intro RR hRR
      refine w_move (by constructor) ?_
      refine w_move (by constructor) ?_
      refine w_neq rfl rfl ?_
      exact hRR
    refine snd_cond_false (by exact congrArg AV.bool (decide_eq_false (by simp))) ?_
    refine snd_skip ?_
    apply sr tokTB (by kernel_rfl)
    · intro RR hRR
      refine w_move (by constructor) ?_
      refine w_ldc rfl kn34 (by constructor) (by exact sz34.symm) (by exact ag34.symm) ?_
      refine w_call0 rfl (exc exp_grp exn) (c_toGroup) nr_grp (fun _ => shift_grp) ?_
      refine y_call rfl (ec (exc exp_grp exn)) (c_iInverseStar_pr hG h hp) ?_
      refine w_move (by constructor) ?_
      refine w_ext rfl (by decide) (by constructor) ?_
      refine w_ext rfl (by decide) (by constructor) ?_
      refine w_assign (by constructor) ?_
      refine w_assign (by constructor) ?_
      exact hRR
    refine snd_seq ?_
    apply srG (env' := (62, .bool (!true || decide ((2 : Int) ≠ 2))) :: (61, .any) :: (60, .any) :: (59, .any) :: (58, _) :: (57, _) :: (56, _) :: (55, _) :: (54, _) :: _) tokTB (by kernel_rfl)
    · intro RR hRR
      refine w_move (by constructor) ?_
      refine w_move (by constructor) ?_
      refine y_call rfl rfl ((c_eqVectorS (N := 0) (R := (fun _ _ => 0)) (S := (fun _ _ => 0)) (by omega) (fun i h => absurd h (by omega))).mt ⟨mt_nil0, mt_nil0, trivial⟩) ?_
      refine w_not rfl ?_
      refine w_move (by constructor) ?_
      refine w_g rfl rfl (fun hg4 => ?_) (fun hg4 => ?_)
      · skip
        refine w_move (by constructor) ?_
        refine w_g_on rfl rfl hg4 ?_
        refine w_move (by constructor) ?_
        refine w_g_on rfl rfl hg4 ?_
        refine w_neq rfl rfl ?_
        refine w_pick_0 rfl hg4 (by constructor) ?_
        try simp only [Int.toNat_natCast] at hg4
        exact hRR _ (EL.cons (.inr (by first | rfl | (simp only [hg4, els]; done) | (simp only [hg4, els]; rfl) | (simp [hg4]; done) | (clear hRR; simp_all; done))) (EL.cons (.inl rfl) (EL.cons (.inl rfl) (EL.cons (.inl rfl) (EL.cons (.inr rfl) (EL.cons (.inr rfl) (EL.cons (.inr rfl) (EL.cons (.inr rfl) (EL.cons (.inr rfl) (EL.refl _))))))))))
      · have hg4 := eq_true_of_ne_false hg4
        refine w_g_off rfl rfl (by rw [hg4]; decide) ?_
        refine w_g_off rfl rfl (by rw [hg4]; decide) ?_
        refine w_pick_1 rfl hg4 (by constructor) ?_
        try simp only [Int.toNat_natCast] at hg4
        exact hRR _ (EL.cons (.inr (by first | rfl | (simp only [hg4, els]; done) | (simp only [hg4, els]; rfl) | (simp [hg4]; done) | (clear hRR; simp_all; done))) (EL.cons (.inl rfl) (EL.cons (.inl rfl) (EL.cons (.inl rfl) (EL.cons (.inr rfl) (EL.cons (.inr rfl) (EL.cons (.inr rfl) (EL.cons (.inr rfl) (EL.cons (.inr rfl) (EL.refl _))))))))))
    refine snd_cond _ rfl (fun hc62 => ?_) (fun hc62 => ?_)
    · skip
      exact absurd hc62 (by simp)
    · skip
      refine snd_skip ?_
      apply sr tokTB (by kernel_rfl)
      · intro RR hRR
        refine w_assign (by constructor) ?_
        exact hRR
      apply sr tokTB (by kernel_rfl)
      · intro RR hRR
        refine w_move (by constructor) ?_
        refine w_move (by constructor) ?_
        refine y_call rfl rfl ((c_heldVectorS (N := 0) (R := (fun _ _ => 0)) (k := 1) (by omega) (by omega) (fun i h => absurd h (by omega))).mt ⟨mt_nil0, mt_int0, trivial⟩) ?_
        refine w_assign (by constructor) ?_
        exact hRR
      refine snd_seq ?_
      apply sr tokTB (by kernel_rfl)
      · intro RR hRR
        refine w_move (by constructor) ?_
        refine w_lss rfl rfl ?_
        exact hRR
      refine snd_cond_false (by exact congrArg AV.bool (decide_eq_false (by omega))) ?_
      refine snd_skip ?_
      refine snd_seq ?_
      apply sr tokTB (by kernel_rfl)
      · intro RR hRR
        refine w_move (by constructor) ?_
        refine w_move (by constructor) ?_
        refine w_neq rfl rfl ?_
        exact hRR
      refine snd_cond_false (by exact congrArg AV.bool (decide_eq_false (by simp))) ?_
      refine snd_skip ?_
      apply sr tokTB (by kernel_rfl)
      · intro RR hRR
        refine w_assign (by constructor) ?_
        exact hRR
      refine snd_ret ?_
      exact rt (T := TB) (fun V => rfl)
theorem lInverseStar_no {n : Int} {G : Nat → Nat → Nat} (hG : RG G) {p : Int} (h : ¬ GZ n G) : ACalls Try.prog TB 6 [.int .i64 p, grpA n G] (.bool true) [] := by
  refine acalls_of tokTB Try.func6 rfl rfl (Nat.le_of_ble_eq_true rfl) ?_
  apply sr tokTB (by kernel_rfl)
  · intro RR hRR
    refine w_boxc (HV.eq (by constructor)) (by exact trivial) ?_
    refine w_assign (by constructor) ?_
    exact hRR
  apply sr tokTB (by kernel_rfl)
  · intro RR hRR
    refine w_move (by constructor) ?_
    refine w_ldc rfl kn34 (by constructor) (by exact sz34.symm) (by exact ag34.symm) ?_
    refine w_call0 rfl (exc exp_grp exn) (c_toGroup) nr_grp (fun _ => shift_grp) ?_
    refine y_call rfl (ec (exc exp_grp exn)) (c_sInverseStar_no hG h) ?_
    refine w_move (by constructor) ?_
    refine w_ext rfl (by decide) (by constructor) ?_
    refine w_ext rfl (by decide) (by constructor) ?_
    refine w_assign (by constructor) ?_
    refine w_assign (by constructor) ?_
    exact hRR
  apply sr tokTB (by kernel_rfl)
  · intro RR hRR
    refine w_move (by constructor) ?_
    refine w_ldc rfl kn34 (by constructor) (by exact sz34.symm) (by exact ag34.symm) ?_
    refine w_call0 rfl (exc exp_grp exn) (c_toGroup) nr_grp (fun _ => shift_grp) ?_
    refine y_call rfl (ec (exc exp_grp exn)) (c_iInverseStar_no hG h) ?_
    refine w_move (by constructor) ?_
    refine w_ext rfl (by decide) (by constructor) ?_
    refine w_ext rfl (by decide) (by constructor) ?_
    refine w_assign (by constructor) ?_
    refine w_assign (by constructor) ?_
    exact hRR
  refine snd_seq ?_
  apply srG (env' := (35, .bool (!true || decide ((1 : Int) ≠ 1))) :: (34, .any) :: (33, .any) :: (32, .any) :: (31, _) :: (30, _) :: (29, _) :: (28, _) :: (27, _) :: _) tokTB (by kernel_rfl)
  · intro RR hRR
    refine w_move (by constructor) ?_
    refine w_move (by constructor) ?_
    refine y_call rfl rfl ((c_eqVectorS (N := 0) (R := (fun _ _ => 0)) (S := (fun _ _ => 0)) (by omega) (fun i h => absurd h (by omega))).mt ⟨mt_nil0, mt_nil0, trivial⟩) ?_
    refine w_not rfl ?_
    refine w_move (by constructor) ?_
    refine w_g rfl rfl (fun hg4 => ?_) (fun hg4 => ?_)
    · skip
      refine w_move (by constructor) ?_
      refine w_g_on rfl rfl hg4 ?_
      refine w_move (by constructor) ?_
      refine w_g_on rfl rfl hg4 ?_
      refine w_neq rfl rfl ?_
      refine w_pick_0 rfl hg4 (by constructor) ?_
      try simp only [Int.toNat_natCast] at hg4
      exact hRR _ (EL.cons (.inr (by first | rfl | (simp only [hg4, els]; done) | (simp only [hg4, els]; rfl) | (simp [hg4]; done) | (clear hRR; simp_all; done))) (EL.cons (.inl rfl) (EL.cons (.inl rfl) (EL.cons (.inl rfl) (EL.cons (.inr rfl) (EL.cons (.inr rfl) (EL.cons (.inr rfl) (EL.cons (.inr rfl) (EL.cons (.inr rfl) (EL.refl _))))))))))
    · have hg4 := eq_true_of_ne_false hg4
      refine w_g_off rfl rfl (by rw [hg4]; decide) ?_
      refine w_g_off rfl rfl (by rw [hg4]; decide) ?_
      refine w_pick_1 rfl hg4 (by constructor) ?_
      try simp only [Int.toNat_natCast] at hg4
      exact hRR _ (EL.cons (.inr (by first | rfl | (simp only [hg4, els]; done) | (simp only [hg4, els]; rfl) | (simp [hg4]; done) | (clear hRR; simp_all; done))) (EL.cons (.inl rfl) (EL.cons (.inl rfl) (EL.cons (.inl rfl) (EL.cons (.inr rfl) (EL.cons (.inr rfl) (EL.cons (.inr rfl) (EL.cons (.inr rfl) (EL.cons (.inr rfl) (EL.refl _))))))))))
  refine snd_cond _ rfl (fun hc35 => ?_) (fun hc35 => ?_)
  · skip
    exact absurd hc35 (by simp)
  · skip
    refine snd_skip ?_
    apply sr tokTB (by kernel_rfl)
    · intro RR hRR
      refine w_assign (by constructor) ?_
      exact hRR
    apply sr tokTB (by kernel_rfl)
    · intro RR hRR
      refine w_move (by constructor) ?_
      refine w_move (by constructor) ?_
      refine y_call rfl (ec (ec exn)) (c_markNilVectorS (k := 1)) ?_
      refine w_assign (by constructor) ?_
      exact hRR
    apply sr tokTB (by kernel_rfl)
    · intro RR hRR
      refine w_assign (by constructor) ?_
      exact hRR
    apply sr tokTB (by kernel_rfl)
    · intro RR hRR
      refine w_move (by constructor) ?_
      refine w_move (by constructor) ?_
      refine y_call rfl rfl ((c_heldVectorS (N := 0) (R := (fun _ _ => 0)) (k := 1) (by omega) (by omega) (fun i h => absurd h (by omega))).mt ⟨mt_nil0, mt_int0, trivial⟩) ?_
      refine w_assign (by constructor) ?_
      exact hRR
    refine snd_seq ?_
    apply sr tokTB (by kernel_rfl)
    · intro RR hRR
      refine w_move (by constructor) ?_
      refine w_lss rfl rfl ?_
      exact hRR
    refine snd_cond_false (by exact congrArg AV.bool (decide_eq_false (by omega))) ?_
    refine snd_skip ?_
    refine snd_seq ?_
    apply sr tokTB (by kernel_rfl)
    · intro RR hRR
      refine w_move (by constructor) ?_
      refine w_move (by constructor) ?_
      refine w_neq rfl rfl ?_
      exact hRR
    refine snd_cond_false (by exact congrArg AV.bool (decide_eq_false (by simp))) ?_
    refine snd_skip ?_
    apply sr tokTB (by kernel_rfl)
    · intro RR hRR
      refine w_move (by constructor) ?_
      refine w_ldc rfl kn34 (by constructor) (by exact sz34.symm) (by exact ag34.symm) ?_
      refine w_call0 rfl (exc exp_grp exn) (c_toGroup) nr_grp (fun _ => shift_grp) ?_
      refine y_call rfl (ec (exc exp_grp exn)) (c_iInverseStar_no hG h) ?_
      refine w_move (by constructor) ?_
      refine w_ext rfl (by decide) (by constructor) ?_
      refine w_ext rfl (by decide) (by constructor) ?_
      refine w_assign (by constructor) ?_
      refine w_assign (by constructor) ?_
      exact hRR
    refine snd_seq ?_
    apply srG (env' := (62, .bool (!true || decide ((1 : Int) ≠ 1))) :: (61, .any) :: (60, .any) :: (59, .any) :: (58, _) :: (57, _) :: (56, _) :: (55, _) :: (54, _) :: _) tokTB (by kernel_rfl)
    · intro RR hRR
      refine w_move (by constructor) ?_
      refine w_move (by constructor) ?_
      refine y_call rfl rfl ((c_eqVectorS (N := 0) (R := (fun _ _ => 0)) (S := (fun _ _ => 0)) (by omega) (fun i h => absurd h (by omega))).mt ⟨mt_nil0, mt_nil0, trivial⟩) ?_
      refine w_not rfl ?_
      refine w_move (by constructor) ?_
      refine w_g rfl rfl (fun hg4 => ?_) (fun hg4 => ?_)
      · skip
        refine w_move (by constructor) ?_
        refine w_g_on rfl rfl hg4 ?_
        refine w_move (by constructor) ?_
        refine w_g_on rfl rfl hg4 ?_
        refine w_neq rfl rfl ?_
        refine w_pick_0 rfl hg4 (by constructor) ?_
        try simp only [Int.toNat_natCast] at hg4
        exact hRR _ (EL.cons (.inr (by first | rfl | (simp only [hg4, els]; done) | (simp only [hg4, els]; rfl) | (simp [hg4]; done) | (clear hRR; simp_all; done))) (EL.cons (.inl rfl) (EL.cons (.inl rfl) (EL.cons (.inl rfl) (EL.cons (.inr rfl) (EL.cons (.inr rfl) (EL.cons (.inr rfl) (EL.cons (.inr rfl) (EL.cons (.inr rfl) (EL.refl _))))))))))
      · have hg4 := eq_true_of_ne_false hg4
        refine w_g_off rfl rfl (by rw [hg4]; decide) ?_
        refine w_g_off rfl rfl (by rw [hg4]; decide) ?_
        refine w_pick_1 rfl hg4 (by constructor) ?_
        try simp only [Int.toNat_natCast] at hg4
        exact hRR _ (EL.cons (.inr (by first | rfl | (simp only [hg4, els]; done) | (simp only [hg4, els]; rfl) | (simp [hg4]; done) | (clear hRR; simp_all; done))) (EL.cons (.inl rfl) (EL.cons (.inl rfl) (EL.cons (.inl rfl) (EL.cons (.inr rfl) (EL.cons (.inr rfl) (EL.cons (.inr rfl) (EL.cons (.inr rfl) (EL.cons (.inr rfl) (EL.refl _))))))))))
    refine snd_cond _ rfl (fun hc62 => ?_) (fun hc62 => ?_)
    · skip
      exact absurd hc62 (by simp)
    · skip
      refine snd_skip ?_
      apply sr tokTB (by kernel_rfl)
      · intro RR hRR
        refine w_assign (by constructor) ?_
        exact hRR
      apply sr tokTB (by kernel_rfl)
      · intro RR hRR
        refine w_move (by constructor) ?_
        refine w_move (by constructor) ?_
        refine y_call rfl rfl ((c_heldVectorS (N := 0) (R := (fun _ _ => 0)) (k := 1) (by omega) (by omega) (fun i h => absurd h (by omega))).mt ⟨mt_nil0, mt_int0, trivial⟩) ?_
        refine w_assign (by constructor) ?_
        exact hRR
      refine snd_seq ?_
      apply sr tokTB (by kernel_rfl)
      · intro RR hRR
        refine w_move (by constructor) ?_
        refine w_lss rfl rfl ?_
        exact hRR
      refine snd_cond_false (by exact congrArg AV.bool (decide_eq_false (by omega))) ?_
      refine snd_skip ?_
      refine snd_seq ?_
      apply sr tokTB (by kernel_rfl)
      · intro RR hRR
        refine w_move (by constructor) ?_
        refine w_move (by constructor) ?_
        refine w_neq rfl rfl ?_
        exact hRR
      refine snd_cond_false (by exact congrArg AV.bool (decide_eq_false (by simp))) ?_
      refine snd_skip ?_
      apply sr tokTB (by kernel_rfl)
      · intro RR hRR
        refine w_assign (by constructor) ?_
        exact hRR
      refine snd_ret ?_
      exact rt (T := TB) (fun V => rfl)
theorem law_InverseStar (p : Int) {n : Int} {G : Nat → Nat → Nat} (hG : RG G) : ACalls Try.prog TB 6 [.int .i64 p, grpA n G] (.bool true) [] := by
  by_cases h : GZ n G
  · obtain ⟨m, rfl, hm⟩ := GZ_of h
    cases hp : primeB p with
    | true => exact lInverseStar_ok hG hm hp
    | false => exact lInverseStar_pr hG hm hp
  · exact lInverseStar_no hG h
end Go.Am

