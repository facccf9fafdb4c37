/- Part 5 of what the law stands on: abstract values, their walk, contracts of functions. My own work. Conditions: none. -/
import Derived.Test.YtpaiipbomihocaaPart4
set_option linter.unusedVariables false
set_option linter.unusedSimpArgs false
set_option maxRecDepth 4000
namespace Go.Am
attribute [local irreducible] retQ retQp
open Go.Proofs
theorem c_table {p : Int} {n : Nat} {T : Nat → Nat → Nat → Int} {fo : Nat → Int} (hv0 : VN p n T fo) : ACalls Try.prog TB 144 [.cptr (algA p (n : Int) T fo)] (.own 0 0 n 27) [(0, .one (ZR n) (CO 1 n (fun _ => n) 2)), (1, .many (famF n (fun _ => n) (formT p T fo)))] := by
  have hp8 := hv0.p0
  have hn6 := hv0.n6
  have hn0 := hv0.n0
  refine acalls_of tokTB Try.func144 rfl rfl (Nat.le_of_ble_eq_true rfl) ?_
  apply sr tokTB (by kernel_rfl)
  · intro RR hRR
    refine w_assign (by constructor) ?_
    exact hRR
  apply sr tokTB (by kernel_rfl)
  · intro RR hRR
    refine w_bsl und78 kn27 (by rw [sz27]; rfl) rfl trivial trivial rfl ?_
    refine w_assign (by constructor) ?_
    exact hRR
  refine snd_seq ?_
  apply sr tokTB (by kernel_rfl)
  · intro RR hRR
    refine w_move (by constructor) ?_
    refine y_call rfl (ec exn) (c_n) ?_
    refine w_move (by constructor) ?_
    exact hRR
  refine snd_block ?_
  refine snd_loop (S := Nat) (fun i => ([(0, .cptr (algA p (n : Int) T fo)), (3, .own 905 0 i 27), (9, .int .i64 (n : Int)), (10, .int .i64 (i : Int))], [(905, .one (ZR (i)) (CO 1 (i) ((fun _ => n)) 2)), (1, .many (famF (i) ((fun _ => n)) (formT p T fo)))])) (fun i => i ≤ n) (fun i => n - i) (0) (ρP 905 1 7 912 0) ?_ ?_ ?_
  · exact emb_fam (by decide) (by decide) (by decide) (by decide) rfl (fun j hj => absurd hj (by omega)) (fun h => absurd h (by omega)) (fun h => absurd h (by omega)) (fun r hr => absurd hr (by omega)) ⟨m_calg, (by first | exact ⟨rfl, rfl, rfl, rfl⟩ | exact ⟨rfl, by omega, rfl, rfl⟩), (mi), (mi), trivial⟩
  · exact Nat.zero_le _
  intro i hi0
  refine sq (env2 := [(0, .cptr (algA p (n : Int) T fo)), (3, .own 905 0 i 27), (9, .int .i64 (n : Int)), (10, .int .i64 (i : Int))]) (ol2 := [(905, .one (ZR (i)) (CO 1 (i) ((fun _ => n)) 2)), (1, .many (famF (i) ((fun _ => n)) (formT p T fo)))]) rfl rfl ?_
  apply sr tokTB (by kernel_rfl)
  · intro RR hRR
    refine w_lss rfl rfl ?_
    exact hRR
  refine snd_seq ?_
  refine snd_cond _ rfl (fun hc11 => ?_) (fun hc11 => ?_)
  · try simp only [hcs] at hc11
    have lt_i : i < n := by omega
    refine snd_skip ?_
    refine snd_seq ?_
    refine snd_block ?_
    apply sr tokTB (by kernel_rfl)
    · intro RR hRR
      refine w_move (by constructor) ?_
      refine w_assign (by constructor) ?_
      exact hRR
    apply sr tokTB (by kernel_rfl)
    · intro RR hRR
      refine w_bsl und27 kn2 (by rw [sz2]; rfl) rfl trivial trivial rfl ?_
      refine w_assign (by constructor) ?_
      exact hRR
    refine snd_seq ?_
    apply sr tokTB (by kernel_rfl)
    · intro RR hRR
      refine w_move (by constructor) ?_
      refine y_call rfl (ec exn) (c_n) ?_
      refine w_move (by constructor) ?_
      exact hRR
    refine snd_block ?_
    refine snd_loop (S := Nat) (fun j => ([(0, .cptr (algA p (n : Int) T fo)), (3, .own 905 0 i 27), (4, .int .i64 (i : Int)), (5, .own 909 0 j 2), (9, .int .i64 (n : Int)), (10, .int .i64 (i : Int)), (15, .int .i64 (n : Int)), (16, .int .i64 (j : Int))], [(905, .one (ZR (i)) (CO 1 (i) ((fun _ => n)) 2)), (1, .many (famF (i) ((fun _ => n)) (formT p T fo))), (909, .one (Z64 j) (C64 j (formT p T fo i)))])) (fun j => j ≤ n) (fun j => n - j) (0) (ρQ 905 1 905 912 i 909 13) ?_ ?_ ?_
    · exact emb_fam1 (by decide) (by decide) (by decide) (by decide) (by decide) (by decide) (by decide) (by decide) (by decide) rfl (fun j hj hne => rfl) (fun h => absurd h (by omega)) (fun h => absurd h (by omega)) (fun r hr hne => famF_at (c := i) (w := (fun _ => n)) (F := formT p T fo) (by omega)) ⟨_, rfl, ⟨rfl, fun _ => trivial⟩, fun V => mt_arr0⟩ ⟨m_calg, (by first | exact ⟨rfl, rfl, rfl, rfl⟩ | exact ⟨rfl, by omega, rfl, rfl⟩), (mi), (by first | exact ⟨rfl, rfl, rfl, rfl⟩ | exact ⟨rfl, by omega, rfl, rfl⟩), (mi), (mi), (mi), (mi), trivial⟩
    · exact Nat.zero_le _
    intro j hi2
    refine sq (env2 := [(0, .cptr (algA p (n : Int) T fo)), (3, .own 905 0 i 27), (4, .int .i64 (i : Int)), (5, .own 909 0 j 2), (9, .int .i64 (n : Int)), (10, .int .i64 (i : Int)), (15, .int .i64 (n : Int)), (16, .int .i64 (j : Int))]) (ol2 := [(905, .one (ZR (i)) (CO 1 (i) ((fun _ => n)) 2)), (1, .many (famF (i) ((fun _ => n)) (formT p T fo))), (909, .one (Z64 j) (C64 j (formT p T fo i)))]) rfl rfl ?_
    apply sr tokTB (by kernel_rfl)
    · intro RR hRR
      refine w_lss rfl rfl ?_
      exact hRR
    refine snd_seq ?_
    refine snd_cond _ rfl (fun hc17 => ?_) (fun hc17 => ?_)
    · try simp only [hcs] at hc17
      have lt_j : j < n := by omega
      refine snd_skip ?_
      refine snd_seq ?_
      refine snd_block ?_
      apply sr tokTB (by kernel_rfl)
      · intro RR hRR
        refine w_move (by constructor) ?_
        refine w_assign (by constructor) ?_
        exact hRR
      apply lr tokTB (by kernel_rfl)
      · intro RR hRR
        refine w_move (by constructor) ?_
        refine w_move (by constructor) ?_
        refine w_move (by constructor) ?_
        refine w_move (by constructor) ?_
        refine w_move (by constructor) ?_
        refine w_nilc rfl ?_
        refine w_fac rfl und34 rfl kn24 nz24 (by decide) rfl (by constructor) ?_
        refine w_iac rfl rfl und24 kn23 (by exact sz23.symm) ?_ rfl ?_
        · exact ⟨by omega, by omega⟩
        refine w_iac rfl rfl und23 kn22 (by exact sz22.symm) ?_ rfl ?_
        · exact ⟨by omega, by omega⟩
        refine w_ldc rfl kn22 (by constructor) (by exact sz22.symm) (by exact ag22.symm) ?_
        refine y_call rfl (ec (ec exn)) (c_form (v := T i j) (by omega) hv0.f8 (hv0.T8 i j)) ?_
        refine w_bsl1 und27 kn2 (by rw [sz2]; rfl) rfl (by constructor) (by first | exact trivial | exact cel_cap2) (by exact sz2.symm) (by first | exact trivial | exact ssh_vec | exact ⟨rfl, fun _ => trivial⟩) ?_
        refine w_app_o und27 rfl rfl kn2 rfl rfl (fun C h => ⟨rfl, rfl, rfl, h⟩) (by rw [by2]; omega) (by omega) rfl ?_
        refine w_assign (by constructor) ?_
        exact hRR
      apply lr tokTB (by kernel_rfl)
      · intro RR hRR
        refine y_add rfl rfl ?_
        refine w_move (by constructor) ?_
        exact hRR
      refine ⟨j + 1, (ρQ 905 1 905 912 i 909 31), ?_, (by omega), (by dsimp only; omega)⟩
      exact emb_fam1 (by decide) (by decide) (by decide) (by decide) (by decide) (by decide) (by decide) (by decide) (by decide) rfl (fun j hj hne => rfl) (fun h => absurd h (by omega)) (fun h => absurd h (by omega)) (fun r hr hne => famF_at (c := i) (w := (fun _ => n)) (F := formT p T fo) (by omega)) ⟨_, rfl, ⟨rfl, fun _ => trivial⟩, fun V => mt_app (fun _ _ => rfl) rfl⟩ ⟨m_calg, (by first | exact ⟨rfl, rfl, rfl, rfl⟩ | exact ⟨rfl, by omega, rfl, rfl⟩), (mi), (by first | exact ⟨rfl, rfl, rfl, rfl⟩ | exact ⟨rfl, by omega, rfl, rfl⟩), (mi), (mi), (mi), (mi), trivial⟩
    · try simp only [hcs] at hc17
      have ge_j : n = j := by omega
      subst ge_j
      refine snd_exit ?_
      apply lr tokTB (by kernel_rfl)
      · intro RR hRR
        refine w_move (by constructor) ?_
        refine w_move (by constructor) ?_
        refine w_bsl1 und78 kn27 (by rw [sz27]; rfl) rfl (by constructor) (by first | exact trivial | exact cel_cap2) (by exact sz27.symm) (by first | exact trivial | exact ssh_vec | exact ⟨rfl, fun _ => trivial⟩) ?_
        refine w_app_o und78 rfl rfl kn27 rfl rfl (fun C h => ⟨rfl, rfl, rfl, h⟩) (by rw [by27]; omega) (by omega) rfl ?_
        refine w_assign (by constructor) ?_
        exact hRR
      apply lr tokTB (by kernel_rfl)
      · intro RR hRR
        refine y_add rfl rfl ?_
        refine w_move (by constructor) ?_
        exact hRR
      refine ⟨i + 1, (ρP 905 1 36 909 i), ?_, (by omega), (by dsimp only; omega)⟩
      exact emb_fam (by decide) (by decide) (by decide) (by decide) rfl (fun j hj hne => appF_lt (by omega)) (fun h => (appF_ge (Nat.le_refl _) (by omega)).trans (by rw [Nat.sub_self]; rfl)) (fun h => ⟨_, rfl, fun V => mt_vec (fun j hj => rfl)⟩) (fun r hr hne => famF_at (c := i) (w := (fun _ => n)) (F := formT p T fo) (by omega)) ⟨m_calg, (by first | exact ⟨rfl, rfl, rfl, rfl⟩ | exact ⟨rfl, by omega, rfl, rfl⟩), (mi), (mi), trivial⟩
  · try simp only [hcs] at hc11
    have ge_i : n = i := by omega
    subst ge_i
    refine snd_exit ?_
    apply sr tokTB (by kernel_rfl)
    · intro RR hRR
      refine w_move (by constructor) ?_
      refine w_assign (by constructor) ?_
      exact hRR
    refine snd_ret ?_
    show retQ TB _ _ _ _ _ _
    exact rt_fam (T := TB) (a := 905) rfl (by decide) rfl rfl (fun r hr => famF_at (c := n) (w := fun _ => n) (F := formT p T fo) hr)
theorem c_frobenius {p : Int} {n : Nat} {T : Nat → Nat → Nat → Int} {fo : Nat → Int} (hv0 : VN p n T fo) : ACalls Try.prog TB 106 [.cptr (algA p (n : Int) T fo)] (.bool (decide (rankT p n T fo = n))) [] := by
  have hp8 := hv0.p0
  have hn6 := hv0.n6
  have hn0 := hv0.n0
  refine acalls_of tokTB Try.func106 rfl rfl (Nat.le_of_ble_eq_true rfl) ?_
  apply sr tokTB (by kernel_rfl)
  · intro RR hRR
    refine w_assign (by constructor) ?_
    exact hRR
  apply sd tokTB mixed (by kernel_rfl) (by kernel_rfl)
  · intro RR hRR
    refine w_move (by constructor) ?_
    refine w_call rfl (ec exn) (c_table hv0) (.inl ⟨trivial, ⟨fun _ => trivial, fun i sh c h => (by obtain ⟨_, _, rfl⟩ := famF_some h; exact fun _ => trivial), trivial⟩⟩) rfl (by constructor) rfl ?_
    refine w_move (by constructor) ?_
    refine w_nilc rfl ?_
    refine w_fac rfl und34 rfl kn2 nz2 (by decide) rfl (by constructor) ?_
    refine w_ldc rfl kn2 (by constructor) (by exact sz2.symm) (by exact ag2.symm) ?_
    refine w_call rfl rfl ((rows_len (c_reduce (n := n) (m := n) (R := formT p T fo) hv0.hp (by omega) (by omega) (fun i => B8_of (by omega) (formT_Bp (by omega) i)))).mt ⟨mt_fam0 rfl (fun r hr => by show (match famF n (fun _ => n) (formT p T fo) r with | some (sh, c) => some (sh, Am.shift 5000 c) | none => none) = _; rw [famF_at hr]; rfl) (fun _ _ => rfl) (fun _ _ _ _ => rfl), rfl, trivial⟩) (.inl ⟨trivial, ⟨fun _ => trivial, trivial⟩⟩) rfl (by constructor) rfl ?_
    refine w_len_o rfl rfl und78 ?_
    refine w_move (by constructor) ?_
    refine y_call rfl (ec exn) (c_n) ?_
    refine w_eql rfl rfl ?_
    refine w_assign (by constructor) ?_
    exact hRR
  refine snd_ret ?_
  exact rt (T := TB) (fun V => m_bool (decide_eq_decide.2 (by unfold rankT; omega)))
theorem c_l01Frobenius {p : Int} {n : Nat} {T : Nat → Nat → Nat → Int} {fo : Nat → Int} (hv0 : VN p n T fo) : ACalls Try.prog TB 60 [algA p (n : Int) T fo] (.bool (decide (rankT p n T fo = n))) [] := by
  have hp8 := hv0.p0
  have hn6 := hv0.n6
  have hn0 := hv0.n0
  refine acalls_of tokTB Try.func60 rfl rfl (Nat.le_of_ble_eq_true rfl) ?_
  apply sr tokTB (by kernel_rfl)
  · intro RR hRR
    refine w_boxc (HV.eq (by constructor)) (by exact trivial) ?_
    refine w_assign (by constructor) ?_
    exact hRR
  apply sr tokTB (by kernel_rfl)
  · intro RR hRR
    refine w_bsl und78 kn27 (by rw [sz27]; rfl) rfl trivial trivial rfl ?_
    refine w_assign (by constructor) ?_
    exact hRR
  refine snd_seq ?_
  apply sr tokTB (by kernel_rfl)
  · intro RR hRR
    refine w_assign (by constructor) ?_
    exact hRR
  refine snd_block ?_
  refine snd_loop (S := Nat) (fun i => ([(1, .cptr (algA p (n : Int) T fo)), (3, .own 905 0 i 27), (4, .int .i64 (i : Int))], [(905, .one (ZR (i)) (CO 1 (i) ((fun _ => n)) 2)), (1, .many (famF (i) ((fun _ => n)) (formT p T fo)))])) (fun i => i ≤ n) (fun i => n - i) (0) (ρP 905 1 7 912 0) ?_ ?_ ?_
  · exact emb_fam (by decide) (by decide) (by decide) (by decide) rfl (fun j hj => absurd hj (by omega)) (fun h => absurd h (by omega)) (fun h => absurd h (by omega)) (fun r hr => absurd hr (by omega)) ⟨m_calg, (by first | exact ⟨rfl, rfl, rfl, rfl⟩ | exact ⟨rfl, by omega, rfl, rfl⟩), (mi), trivial⟩
  · exact Nat.zero_le _
  intro i hi0
  refine sq (env2 := [(1, .cptr (algA p (n : Int) T fo)), (3, .own 905 0 i 27), (4, .int .i64 (i : Int))]) (ol2 := [(905, .one (ZR (i)) (CO 1 (i) ((fun _ => n)) 2)), (1, .many (famF (i) ((fun _ => n)) (formT p T fo)))]) rfl rfl ?_
  refine snd_seq ?_
  apply sr tokTB (by kernel_rfl)
  · intro RR hRR
    refine w_move (by constructor) ?_
    refine w_fac rfl und34 rfl kn2 nz2 (by decide) rfl (by constructor) ?_
    refine w_ldc rfl kn2 (by constructor) (by exact sz2.symm) (by exact ag2.symm) ?_
    refine w_lss rfl rfl ?_
    exact hRR
  refine snd_cond _ rfl (fun hc11 => ?_) (fun hc11 => ?_)
  · try simp only [hcs] at hc11
    have lt_i : i < n := by omega
    refine snd_skip ?_
    refine snd_seq ?_
    refine snd_block ?_
    apply sr tokTB (by kernel_rfl)
    · intro RR hRR
      refine w_bsl und27 kn2 (by rw [sz2]; rfl) rfl trivial trivial rfl ?_
      refine w_assign (by constructor) ?_
      exact hRR
    refine snd_seq ?_
    apply sr tokTB (by kernel_rfl)
    · intro RR hRR
      refine w_assign (by constructor) ?_
      exact hRR
    refine snd_block ?_
    refine snd_loop (S := Nat) (fun j => ([(1, .cptr (algA p (n : Int) T fo)), (3, .own 905 0 i 27), (4, .int .i64 (i : Int)), (5, .own 909 0 j 2), (6, .int .i64 (j : Int))], [(905, .one (ZR (i)) (CO 1 (i) ((fun _ => n)) 2)), (1, .many (famF (i) ((fun _ => n)) (formT p T fo))), (909, .one (Z64 j) (C64 j (formT p T fo i)))])) (fun j => j ≤ n) (fun j => n - j) (0) (ρQ 905 1 905 912 i 909 14) ?_ ?_ ?_
    · exact emb_fam1 (by decide) (by decide) (by decide) (by decide) (by decide) (by decide) (by decide) (by decide) (by decide) rfl (fun j hj hne => rfl) (fun h => absurd h (by omega)) (fun h => absurd h (by omega)) (fun r hr hne => famF_at (c := i) (w := (fun _ => n)) (F := formT p T fo) (by omega)) ⟨_, rfl, ⟨rfl, fun _ => trivial⟩, fun V => mt_arr0⟩ ⟨m_calg, (by first | exact ⟨rfl, rfl, rfl, rfl⟩ | exact ⟨rfl, by omega, rfl, rfl⟩), (mi), (by first | exact ⟨rfl, rfl, rfl, rfl⟩ | exact ⟨rfl, by omega, rfl, rfl⟩), (mi), trivial⟩
    · exact Nat.zero_le _
    intro j hi2
    refine sq (env2 := [(1, .cptr (algA p (n : Int) T fo)), (3, .own 905 0 i 27), (4, .int .i64 (i : Int)), (5, .own 909 0 j 2), (6, .int .i64 (j : Int))]) (ol2 := [(905, .one (ZR (i)) (CO 1 (i) ((fun _ => n)) 2)), (1, .many (famF (i) ((fun _ => n)) (formT p T fo))), (909, .one (Z64 j) (C64 j (formT p T fo i)))]) rfl rfl ?_
    refine snd_seq ?_
    apply sr tokTB (by kernel_rfl)
    · intro RR hRR
      refine w_move (by constructor) ?_
      refine w_fac rfl und34 rfl kn2 nz2 (by decide) rfl (by constructor) ?_
      refine w_ldc rfl kn2 (by constructor) (by exact sz2.symm) (by exact ag2.symm) ?_
      refine w_lss rfl rfl ?_
      exact hRR
    refine snd_cond _ rfl (fun hc18 => ?_) (fun hc18 => ?_)
    · try simp only [hcs] at hc18
      have lt_j : j < n := by omega
      refine snd_skip ?_
      refine snd_seq ?_
      refine snd_block ?_
      apply ld tokTB mixed (by kernel_rfl) (by kernel_rfl)
      · intro RR hRR
        refine w_move (by constructor) ?_
        refine w_ldc rfl kn34 (by constructor) (by exact sz34.symm) (by exact ag34.symm) ?_
        refine w_move (by constructor) ?_
        refine w_move (by constructor) ?_
        refine w_fac rfl und34 rfl kn24 nz24 (by decide) rfl (by constructor) ?_
        refine w_iac rfl rfl und24 kn23 (by exact sz23.symm) ?_ rfl ?_
        · exact ⟨by omega, by omega⟩
        refine w_iac rfl rfl und23 kn22 (by exact sz22.symm) ?_ rfl ?_
        · exact ⟨by omega, by omega⟩
        refine w_ldc rfl kn22 (by constructor) (by exact sz22.symm) (by exact ag22.symm) ?_
        refine y_call rfl (ec (ec exn)) (c_l01Form (v := T i j) (by omega) hv0.f8 (hv0.T8 i j)) ?_
        refine w_bsl1 und27 kn2 (by rw [sz2]; rfl) rfl (by constructor) (by first | exact trivial | exact cel_cap2) (by exact sz2.symm) (by first | exact trivial | exact ssh_vec | exact ⟨rfl, fun _ => trivial⟩) ?_
        refine w_app_o und27 rfl rfl kn2 rfl rfl (fun C h => ⟨rfl, rfl, rfl, h⟩) (by rw [by2]; omega) (by omega) rfl ?_
        refine w_assign (by constructor) ?_
        exact hRR
      apply lr tokTB (by kernel_rfl)
      · intro RR hRR
        refine w_move (by constructor) ?_
        refine y_add rfl rfl ?_
        refine w_assign (by constructor) ?_
        exact hRR
      refine ⟨j + 1, (ρQ 905 1 905 912 i 909 31), ?_, (by omega), (by dsimp only; omega)⟩
      exact emb_fam1 (by decide) (by decide) (by decide) (by decide) (by decide) (by decide) (by decide) (by decide) (by decide) rfl (fun j hj hne => rfl) (fun h => absurd h (by omega)) (fun h => absurd h (by omega)) (fun r hr hne => famF_at (c := i) (w := (fun _ => n)) (F := formT p T fo) (by omega)) ⟨_, rfl, ⟨rfl, fun _ => trivial⟩, fun V => mt_app (fun _ _ => rfl) rfl⟩ ⟨m_calg, (by first | exact ⟨rfl, rfl, rfl, rfl⟩ | exact ⟨rfl, by omega, rfl, rfl⟩), (mi), (by first | exact ⟨rfl, rfl, rfl, rfl⟩ | exact ⟨rfl, by omega, rfl, rfl⟩), (mi), trivial⟩
    · try simp only [hcs] at hc18
      have ge_j : n = j := by omega
      subst ge_j
      refine snd_exit ?_
      apply lr tokTB (by kernel_rfl)
      · intro RR hRR
        refine w_move (by constructor) ?_
        refine w_move (by constructor) ?_
        refine w_bsl1 und78 kn27 (by rw [sz27]; rfl) rfl (by constructor) (by first | exact trivial | exact cel_cap2) (by exact sz27.symm) (by first | exact trivial | exact ssh_vec | exact ⟨rfl, fun _ => trivial⟩) ?_
        refine w_app_o und78 rfl rfl kn27 rfl rfl (fun C h => ⟨rfl, rfl, rfl, h⟩) (by rw [by27]; omega) (by omega) rfl ?_
        refine w_assign (by constructor) ?_
        exact hRR
      apply lr tokTB (by kernel_rfl)
      · intro RR hRR
        refine w_move (by constructor) ?_
        refine y_add rfl rfl ?_
        refine w_assign (by constructor) ?_
        exact hRR
      refine ⟨i + 1, (ρP 905 1 35 909 i), ?_, (by omega), (by dsimp only; omega)⟩
      exact emb_fam (by decide) (by decide) (by decide) (by decide) rfl (fun j hj hne => appF_lt (by omega)) (fun h => (appF_ge (Nat.le_refl _) (by omega)).trans (by rw [Nat.sub_self]; rfl)) (fun h => ⟨_, rfl, fun V => mt_vec (fun j hj => rfl)⟩) (fun r hr hne => famF_at (c := i) (w := (fun _ => n)) (F := formT p T fo) (by omega)) ⟨m_calg, (by first | exact ⟨rfl, rfl, rfl, rfl⟩ | exact ⟨rfl, by omega, rfl, rfl⟩), (mi), trivial⟩
  · try simp only [hcs] at hc11
    have ge_i : n = i := by omega
    subst ge_i
    refine snd_exit ?_
    apply sd tokTB mixed (by kernel_rfl) (by kernel_rfl)
    · intro RR hRR
      refine w_fac rfl und34 rfl kn2 nz2 (by decide) rfl (by constructor) ?_
      refine w_ldc rfl kn2 (by constructor) (by exact sz2.symm) (by exact ag2.symm) ?_
      refine w_move (by constructor) ?_
      refine w_call rfl rfl ((rows_len (c_l01Echelon (n := n) (m := n) (R := formT p T fo) hv0.hp (by omega) (by omega) hn0 (fun i => formT_Bp (by omega) i))).mt ⟨rfl, mt_fam0 rfl (fun r hr => famF_at (w := fun _ => n) (F := formT p T fo) hr) (fun _ _ => rfl) (fun _ _ _ _ => rfl), trivial⟩) (.inl ⟨trivial, ⟨fun _ => trivial, trivial⟩⟩) rfl (by constructor) rfl ?_
      refine w_len_o rfl rfl und78 ?_
      refine w_fac rfl und34 rfl kn2 nz2 (by decide) rfl (by constructor) ?_
      refine w_ldc rfl kn2 (by constructor) (by exact sz2.symm) (by exact ag2.symm) ?_
      refine w_eql rfl rfl ?_
      refine w_assign (by constructor) ?_
      exact hRR
    refine snd_ret ?_
    exact rt (T := TB) (fun V => m_bool (decide_eq_decide.2 (by rw [rank_ech hv0.hp]; omega)))
end Go.Am

set_option linter.unusedVariables false
set_option linter.unusedSimpArgs false
set_option maxRecDepth 4000
namespace Go.Am
attribute [local irreducible] retQ retQp
open Go.Proofs
theorem c_l01Add {p k : Int} {u v : Nat → Int} (hp : 2 ≤ p ∧ p ≤ 13) (hu : B8 u) (hv : B8 v) (hk : -1000000000000 ≤ k ∧ k ≤ 1000000000000) : ACalls Try.prog TB 120 [.int .i64 p, vecA u, vecA v, .int .i64 k] (vecA (addF p u v k)) [] := by
  refine acalls_of tokTB Try.func120 rfl rfl (Nat.le_of_ble_eq_true rfl) ?_
  apply sr tokTB (by kernel_rfl)
  · intro RR hRR
    refine w_boxp (HV.eq (by constructor)) (by exact trivial) rfl (sx) ?_
    refine w_boxc (HV.eq (by constructor)) (by exact trivial) ?_
    refine w_alloc kn32 rfl zr32 ?_
    exact hRR
  refine snd_seq ?_
  apply sr tokTB (by kernel_rfl)
  · intro RR hRR
    refine w_assign (by constructor) ?_
    exact hRR
  refine snd_block ?_
  refine snd_loop (S := Nat) (fun i => ([(0, .int .i64 p), (3, .int .i64 k), (5, .ptr 5 0 [] 0 (vecA u)), (6, .cptr (vecA v)), (8, .ptr 8 0 [] 0 (vecA (fun _ => 0))), (9, .int .i64 (i : Int))], [(5, .one (vecA u) (vecA (mixF (addF p u v k) u i))), (8, .one (vecA (fun _ => 0)) (vecA (fun _ => 0)))])) (fun i => i ≤ 6) (fun i => 6 - i) (0) ρ0 ?_ ?_ ?_
  · exact ⟨⟨(mi), (mi), ⟨rfl, rfl, rfl, rfl, rfl⟩, (m_cvec (fun _ _ => rfl)), ⟨rfl, rfl, rfl, rfl, rfl⟩, (mi), trivial⟩, ⟨⟨rfl, (sx), (by exact mt_vec (fun z _ => by simp [mixF]))⟩, ⟨rfl, (sx), (by first | exact mt_vec (fun _ _ => rfl) | exact mt_mat (fun _ _ _ _ => rfl) | exact mt_tab (fun _ _ _ _ _ _ => rfl) | exact mt_arr0 | exact mt_app (fun _ _ => rfl) rfl | exact ⟨rfl, fun _ _ => mt_row (fun _ _ => rfl)⟩ | exact Mt_closed (V := _) closed_alg (fun _ _ _ => trivial) (by simp))⟩, trivial⟩, ⟨⟨(fun h => by first | exact ⟨rfl, rfl⟩ | exact absurd h (by decide)), (fun h => by first | exact ⟨rfl, rfl⟩ | exact absurd h (by decide)), trivial⟩, ⟨(fun h => by first | exact ⟨rfl, rfl⟩ | exact absurd h (by decide)), (fun h => by first | exact ⟨rfl, rfl⟩ | exact absurd h (by decide)), trivial⟩, trivial⟩⟩
  · exact Nat.zero_le _
  intro i hi0
  refine sq (env2 := [(0, .int .i64 p), (3, .int .i64 k), (5, .ptr 5 0 [] 0 (vecA u)), (6, .cptr (vecA v)), (8, .ptr 8 0 [] 0 (vecA (fun _ => 0))), (9, .int .i64 (i : Int))]) (ol2 := [(5, .one (vecA u) (vecA (mixF (addF p u v k) u i))), (8, .one (vecA (fun _ => 0)) (vecA (fun _ => 0)))]) rfl rfl ?_
  have hkv := kv_bd hv hk i
  have hui := hu i
  refine snd_seq ?_
  apply sr tokTB (by kernel_rfl)
  · intro RR hRR
    refine w_move (by constructor) ?_
    refine w_lss rfl rfl ?_
    exact hRR
  refine snd_cond _ rfl (fun hc11 => ?_) (fun hc11 => ?_)
  · try simp only [hcs] at hc11
    have lt_i : i < 6 := by omega
    refine snd_skip ?_
    refine snd_seq ?_
    refine snd_block ?_
    apply ld tokTB mixed (by kernel_rfl) (by kernel_rfl)
    · intro RR hRR
      refine w_move (by constructor) ?_
      refine w_move (by constructor) ?_
      refine w_move (by constructor) ?_
      refine w_iap rfl rfl und32 kn5 rfl (by exact sz5.symm) rfl ?_ ?_
      · exact ⟨by omega, by omega⟩
      first | refine w_ldc rfl kn5 (by constructor) (by exact sz5.symm) (by exact ag5.symm) ?_ | refine w_ldp rfl kn5 rfl (by constructor) (by exact sz5.symm) (by exact ag5.symm) ?_
      refine w_conv rfl und5 und2 (by exact w_mixc hu i) ?_
      refine w_move (by constructor) ?_
      refine w_move (by constructor) ?_
      refine w_iac rfl rfl und32 kn5 (by exact sz5.symm) ?_ rfl ?_
      · exact ⟨by omega, by omega⟩
      first | refine w_ldc rfl kn5 (by constructor) (by exact sz5.symm) (by exact ag5.symm) ?_ | refine w_ldp rfl kn5 rfl (by constructor) (by exact sz5.symm) (by exact ag5.symm) ?_
      refine w_conv rfl und5 und2 (by exact w64b hv _) ?_
      refine w_mul rfl rfl (by exact w64 (n := k * v i) (by omega) (by omega)) ?_
      refine w_add rfl rfl (by exact w64 (n := u i + k * v i) (by omega) (by omega)) ?_
      refine y_call rfl (ec (ec exn)) (c_l01Mod (p := p) (x := u i + k * v i) (by omega) (by omega)) ?_
      refine w_conv rfl und2 und5 (by exact w_addF hp u v k i) ?_
      refine w_iap rfl rfl und32 kn5 rfl (by exact sz5.symm) rfl ?_ ?_
      · exact ⟨by omega, by omega⟩
      first | refine w_stw rfl (by constructor) kn5 rfl (by exact trivial) (sx) (by exact sz5.symm) ?_ | refine w_sti rfl rfl kn5 rfl (by exact trivial) (by exact sz5.symm) ?_ | refine w_store rfl (HV.eq (by constructor)) kn5 rfl (by exact trivial) (sx) (by exact sz5.symm) (put_in (by first | exact put_mat | exact put_tab | exact put_alg0 | exact put_pr0 | exact put_pr1 | exact put_pr2 | exact put_alg1 | exact put_alg2 | exact put_alg3 | exact put_alg3i | exact put_alg2ij | exact put_alg2ijk | exact put_mat2 | exact put_tab2 | exact put_tab3)) ?_ | refine w_store rfl (HV.eq (by constructor)) kn5 rfl (by exact trivial) (by exact trivial) (by exact sz5.symm) rfl ?_
      exact hRR
    apply lr tokTB (by kernel_rfl)
    · intro RR hRR
      refine w_move (by constructor) ?_
      refine y_add rfl rfl ?_
      refine w_assign (by constructor) ?_
      exact hRR
    refine ⟨i + 1, ρ0, ?_, (by omega), (by dsimp only; omega)⟩
    exact ⟨⟨(mi), (mi), ⟨rfl, rfl, rfl, rfl, rfl⟩, (m_cvec (fun _ _ => rfl)), ⟨rfl, rfl, rfl, rfl, rfl⟩, (mi), trivial⟩, ⟨⟨rfl, (sx), (by exact mt_vec (fun z _ => upd_mix _ _ i z))⟩, ⟨rfl, (sx), (by first | exact mt_vec (fun _ _ => rfl) | exact mt_mat (fun _ _ _ _ => rfl) | exact mt_tab (fun _ _ _ _ _ _ => rfl) | exact mt_arr0 | exact mt_app (fun _ _ => rfl) rfl | exact ⟨rfl, fun _ _ => mt_row (fun _ _ => rfl)⟩ | exact Mt_closed (V := _) closed_alg (fun _ _ _ => trivial) (by simp))⟩, trivial⟩, ⟨⟨(fun h => by first | exact ⟨rfl, rfl⟩ | exact absurd h (by decide)), (fun h => by first | exact ⟨rfl, rfl⟩ | exact absurd h (by decide)), trivial⟩, ⟨(fun h => by first | exact ⟨rfl, rfl⟩ | exact absurd h (by decide)), (fun h => by first | exact ⟨rfl, rfl⟩ | exact absurd h (by decide)), trivial⟩, trivial⟩⟩
  · try simp only [hcs] at hc11
    have ge_i : 6 = i := by omega
    subst ge_i
    refine snd_exit ?_
    apply sr tokTB (by kernel_rfl)
    · intro RR hRR
      refine w_ldp rfl kn32 rfl (by constructor) (by exact sz32.symm) (by exact ag32.symm) ?_
      refine w_stw rfl (by constructor) kn32 rfl (by exact trivial) (sx) (by exact sz32.symm) ?_
      exact hRR
    refine snd_ret ?_
    exact rt_c (T := TB) rfl kn32 rfl sz32.symm ag32.symm (fun V => m_vec (fun j hj => by simp [mixF, hj]))
theorem c_add {p n k : Int} {T : Nat → Nat → Nat → Int} {fo u v : Nat → Int} (hp : 2 ≤ p ∧ p ≤ 13) (hu : B8 u) (hv : B8 v) (hk : 0 ≤ k ∧ k ≤ 1000000000000) : ACalls Try.prog TB 122 [.cptr (algA p n T fo), vecA u, vecA v, .int .i64 k] (vecA (addF p u v k)) [] := by
  refine acalls_of tokTB Try.func122 rfl rfl (Nat.le_of_ble_eq_true rfl) ?_
  apply sr tokTB (by kernel_rfl)
  · intro RR hRR
    refine w_boxp (HV.eq (by constructor)) (by exact trivial) rfl (sx) ?_
    refine w_boxc (HV.eq (by constructor)) (by exact trivial) ?_
    refine w_alloc kn32 rfl zr32 ?_
    exact hRR
  refine snd_seq ?_
  apply sr tokTB (by kernel_rfl)
  · intro RR hRR
    refine w_move (by constructor) ?_
    exact hRR
  refine snd_block ?_
  refine snd_loop (S := Nat) (fun i => ([(0, .cptr (algA p n T fo)), (3, .int .i64 k), (5, .ptr 5 0 [] 0 (vecA u)), (6, .cptr (vecA v)), (8, .ptr 8 0 [] 0 (vecA (fun _ => 0))), (10, .int .i64 (i : Int))], [(5, .one (vecA u) (vecA (mixF (addF p u v k) u i))), (8, .one (vecA (fun _ => 0)) (vecA (fun _ => 0)))])) (fun i => i ≤ 6) (fun i => 6 - i) (0) ρ0 ?_ ?_ ?_
  · exact ⟨⟨m_calg, (mi), ⟨rfl, rfl, rfl, rfl, rfl⟩, (m_cvec (fun _ _ => rfl)), ⟨rfl, rfl, rfl, rfl, rfl⟩, (mi), trivial⟩, ⟨⟨rfl, (sx), (by exact mt_vec (fun z _ => by simp [mixF]))⟩, ⟨rfl, (sx), (by first | exact mt_vec (fun _ _ => rfl) | exact mt_mat (fun _ _ _ _ => rfl) | exact mt_tab (fun _ _ _ _ _ _ => rfl) | exact mt_arr0 | exact mt_app (fun _ _ => rfl) rfl | exact ⟨rfl, fun _ _ => mt_row (fun _ _ => rfl)⟩ | exact Mt_closed (V := _) closed_alg (fun _ _ _ => trivial) (by simp))⟩, trivial⟩, ⟨⟨(fun h => by first | exact ⟨rfl, rfl⟩ | exact absurd h (by decide)), (fun h => by first | exact ⟨rfl, rfl⟩ | exact absurd h (by decide)), trivial⟩, ⟨(fun h => by first | exact ⟨rfl, rfl⟩ | exact absurd h (by decide)), (fun h => by first | exact ⟨rfl, rfl⟩ | exact absurd h (by decide)), trivial⟩, trivial⟩⟩
  · exact Nat.zero_le _
  intro i hi0
  refine sq (env2 := [(0, .cptr (algA p n T fo)), (3, .int .i64 k), (5, .ptr 5 0 [] 0 (vecA u)), (6, .cptr (vecA v)), (8, .ptr 8 0 [] 0 (vecA (fun _ => 0))), (10, .int .i64 (i : Int))]) (ol2 := [(5, .one (vecA u) (vecA (mixF (addF p u v k) u i))), (8, .one (vecA (fun _ => 0)) (vecA (fun _ => 0)))]) rfl rfl ?_
  have hkv := kv_bd hv (k := k) (by omega) i
  have hui := hu i
  apply sr tokTB (by kernel_rfl)
  · intro RR hRR
    refine w_lss rfl rfl ?_
    exact hRR
  refine snd_seq ?_
  refine snd_cond _ rfl (fun hc11 => ?_) (fun hc11 => ?_)
  · try simp only [hcs] at hc11
    have lt_i : i < 6 := by omega
    refine snd_skip ?_
    refine snd_seq ?_
    refine snd_block ?_
    apply sr tokTB (by kernel_rfl)
    · intro RR hRR
      refine w_move (by constructor) ?_
      refine w_assign (by constructor) ?_
      exact hRR
    apply ld tokTB mixed (by kernel_rfl) (by kernel_rfl)
    · intro RR hRR
      refine w_move (by constructor) ?_
      refine w_move (by constructor) ?_
      refine w_iap rfl rfl und32 kn5 rfl (by exact sz5.symm) rfl ?_ ?_
      · exact ⟨by omega, by omega⟩
      first | refine w_ldc rfl kn5 (by constructor) (by exact sz5.symm) (by exact ag5.symm) ?_ | refine w_ldp rfl kn5 rfl (by constructor) (by exact sz5.symm) (by exact ag5.symm) ?_
      refine w_conv rfl und5 und2 (by exact w_mixc hu i) ?_
      refine w_move (by constructor) ?_
      refine w_move (by constructor) ?_
      refine w_iac rfl rfl und32 kn5 (by exact sz5.symm) ?_ rfl ?_
      · exact ⟨by omega, by omega⟩
      first | refine w_ldc rfl kn5 (by constructor) (by exact sz5.symm) (by exact ag5.symm) ?_ | refine w_ldp rfl kn5 rfl (by constructor) (by exact sz5.symm) (by exact ag5.symm) ?_
      refine w_conv rfl und5 und2 (by exact w64b hv _) ?_
      refine w_mul rfl rfl (by exact w64 (n := k * v i) (by omega) (by omega)) ?_
      refine w_add rfl rfl (by exact w64 (n := u i + k * v i) (by omega) (by omega)) ?_
      refine w_move (by constructor) ?_
      refine w_nilc rfl ?_
      refine w_fac rfl und34 rfl kn2 nz2 (by decide) rfl (by constructor) ?_
      refine w_ldc rfl kn2 (by constructor) (by exact sz2.symm) (by exact ag2.symm) ?_
      refine w_rem rfl rfl (by first | assumption | omega) ?_
      refine w_conv rfl und2 und5 (by exact (congrArg IntKind.u8.wrap (add_tmod hu hv hk.1 i)).trans (w_addF hp u v k i)) ?_
      refine w_iap rfl rfl und32 kn5 rfl (by exact sz5.symm) rfl ?_ ?_
      · exact ⟨by omega, by omega⟩
      first | refine w_stw rfl (by constructor) kn5 rfl (by exact trivial) (sx) (by exact sz5.symm) ?_ | refine w_sti rfl rfl kn5 rfl (by exact trivial) (by exact sz5.symm) ?_ | refine w_store rfl (HV.eq (by constructor)) kn5 rfl (by exact trivial) (sx) (by exact sz5.symm) (put_in (by first | exact put_mat | exact put_tab | exact put_alg0 | exact put_pr0 | exact put_pr1 | exact put_pr2 | exact put_alg1 | exact put_alg2 | exact put_alg3 | exact put_alg3i | exact put_alg2ij | exact put_alg2ijk | exact put_mat2 | exact put_tab2 | exact put_tab3)) ?_ | refine w_store rfl (HV.eq (by constructor)) kn5 rfl (by exact trivial) (by exact trivial) (by exact sz5.symm) rfl ?_
      exact hRR
    apply lr tokTB (by kernel_rfl)
    · intro RR hRR
      refine y_add rfl rfl ?_
      refine w_move (by constructor) ?_
      exact hRR
    refine ⟨i + 1, ρ0, ?_, (by omega), (by dsimp only; omega)⟩
    exact ⟨⟨m_calg, (mi), ⟨rfl, rfl, rfl, rfl, rfl⟩, (m_cvec (fun _ _ => rfl)), ⟨rfl, rfl, rfl, rfl, rfl⟩, (mi), trivial⟩, ⟨⟨rfl, (sx), (by exact mt_vec (fun z _ => upd_mix _ _ i z))⟩, ⟨rfl, (sx), (by first | exact mt_vec (fun _ _ => rfl) | exact mt_mat (fun _ _ _ _ => rfl) | exact mt_tab (fun _ _ _ _ _ _ => rfl) | exact mt_arr0 | exact mt_app (fun _ _ => rfl) rfl | exact ⟨rfl, fun _ _ => mt_row (fun _ _ => rfl)⟩ | exact Mt_closed (V := _) closed_alg (fun _ _ _ => trivial) (by simp))⟩, trivial⟩, ⟨⟨(fun h => by first | exact ⟨rfl, rfl⟩ | exact absurd h (by decide)), (fun h => by first | exact ⟨rfl, rfl⟩ | exact absurd h (by decide)), trivial⟩, ⟨(fun h => by first | exact ⟨rfl, rfl⟩ | exact absurd h (by decide)), (fun h => by first | exact ⟨rfl, rfl⟩ | exact absurd h (by decide)), trivial⟩, trivial⟩⟩
  · try simp only [hcs] at hc11
    have ge_i : 6 = i := by omega
    subst ge_i
    refine snd_exit ?_
    apply sr tokTB (by kernel_rfl)
    · intro RR hRR
      refine w_ldp rfl kn32 rfl (by constructor) (by exact sz32.symm) (by exact ag32.symm) ?_
      refine w_stw rfl (by constructor) kn32 rfl (by exact trivial) (sx) (by exact sz32.symm) ?_
      exact hRR
    refine snd_ret ?_
    exact rt_c (T := TB) rfl kn32 rfl sz32.symm ag32.symm (fun V => m_vec (fun j hj => by simp [mixF, hj]))
end Go.Am

set_option linter.unusedVariables false
set_option linter.unusedSimpArgs false
set_option maxRecDepth 4000
namespace Go.Am
attribute [local irreducible] retQ retQp
open Go.Proofs
theorem c_l02Table {p : Int} {n : Nat} {T : Nat → Nat → Nat → Int} {fo : Nat → Int} (hv0 : VN p n T fo) : ACalls Try.prog TB 142 [algA p (n : Int) T fo] (.own 0 0 n 27) [(0, .one (ZR n) (CO 1 n (fun _ => n) 2)), (1, .many (famF n (fun _ => n) (formT p T fo)))] := by
  have hp8 := hv0.p0
  have hn6 := hv0.n6
  have hn0 := hv0.n0
  refine acalls_of tokTB Try.func142 rfl rfl (Nat.le_of_ble_eq_true rfl) ?_
  apply sr tokTB (by kernel_rfl)
  · intro RR hRR
    refine w_boxc (HV.eq (by constructor)) (by exact trivial) ?_
    refine w_assign (by constructor) ?_
    exact hRR
  apply sr tokTB (by kernel_rfl)
  · intro RR hRR
    refine w_bsl und78 kn27 (by rw [sz27]; rfl) rfl trivial trivial rfl ?_
    refine w_assign (by constructor) ?_
    exact hRR
  refine snd_seq ?_
  apply sr tokTB (by kernel_rfl)
  · intro RR hRR
    refine w_assign (by constructor) ?_
    exact hRR
  refine snd_block ?_
  refine snd_loop (S := Nat) (fun i => ([(1, .cptr (algA p (n : Int) T fo)), (3, .own 905 0 i 27), (4, .int .i64 (i : Int))], [(905, .one (ZR (i)) (CO 1 (i) ((fun _ => n)) 2)), (1, .many (famF (i) ((fun _ => n)) (formT p T fo)))])) (fun i => i ≤ n) (fun i => n - i) (0) (ρP 905 1 7 912 0) ?_ ?_ ?_
  · exact emb_fam (by decide) (by decide) (by decide) (by decide) rfl (fun j hj => absurd hj (by omega)) (fun h => absurd h (by omega)) (fun h => absurd h (by omega)) (fun r hr => absurd hr (by omega)) ⟨m_calg, (by first | exact ⟨rfl, rfl, rfl, rfl⟩ | exact ⟨rfl, by omega, rfl, rfl⟩), (mi), trivial⟩
  · exact Nat.zero_le _
  intro i hi0
  refine sq (env2 := [(1, .cptr (algA p (n : Int) T fo)), (3, .own 905 0 i 27), (4, .int .i64 (i : Int))]) (ol2 := [(905, .one (ZR (i)) (CO 1 (i) ((fun _ => n)) 2)), (1, .many (famF (i) ((fun _ => n)) (formT p T fo)))]) rfl rfl ?_
  refine snd_seq ?_
  apply sr tokTB (by kernel_rfl)
  · intro RR hRR
    refine w_move (by constructor) ?_
    refine w_fac rfl und34 rfl kn2 nz2 (by decide) rfl (by constructor) ?_
    refine w_ldc rfl kn2 (by constructor) (by exact sz2.symm) (by exact ag2.symm) ?_
    refine w_lss rfl rfl ?_
    exact hRR
  refine snd_cond _ rfl (fun hc11 => ?_) (fun hc11 => ?_)
  · try simp only [hcs] at hc11
    have lt_i : i < n := by omega
    refine snd_skip ?_
    refine snd_seq ?_
    refine snd_block ?_
    apply sr tokTB (by kernel_rfl)
    · intro RR hRR
      refine w_bsl und27 kn2 (by rw [sz2]; rfl) rfl trivial trivial rfl ?_
      refine w_assign (by constructor) ?_
      exact hRR
    refine snd_seq ?_
    apply sr tokTB (by kernel_rfl)
    · intro RR hRR
      refine w_assign (by constructor) ?_
      exact hRR
    refine snd_block ?_
    refine snd_loop (S := Nat) (fun j => ([(1, .cptr (algA p (n : Int) T fo)), (3, .own 905 0 i 27), (4, .int .i64 (i : Int)), (5, .own 909 0 j 2), (6, .int .i64 (j : Int))], [(905, .one (ZR (i)) (CO 1 (i) ((fun _ => n)) 2)), (1, .many (famF (i) ((fun _ => n)) (formT p T fo))), (909, .one (Z64 j) (C64 j (formT p T fo i)))])) (fun j => j ≤ n) (fun j => n - j) (0) (ρQ 905 1 905 912 i 909 14) ?_ ?_ ?_
    · exact emb_fam1 (by decide) (by decide) (by decide) (by decide) (by decide) (by decide) (by decide) (by decide) (by decide) rfl (fun j hj hne => rfl) (fun h => absurd h (by omega)) (fun h => absurd h (by omega)) (fun r hr hne => famF_at (c := i) (w := (fun _ => n)) (F := formT p T fo) (by omega)) ⟨_, rfl, ⟨rfl, fun _ => trivial⟩, fun V => mt_arr0⟩ ⟨m_calg, (by first | exact ⟨rfl, rfl, rfl, rfl⟩ | exact ⟨rfl, by omega, rfl, rfl⟩), (mi), (by first | exact ⟨rfl, rfl, rfl, rfl⟩ | exact ⟨rfl, by omega, rfl, rfl⟩), (mi), trivial⟩
    · exact Nat.zero_le _
    intro j hi2
    refine sq (env2 := [(1, .cptr (algA p (n : Int) T fo)), (3, .own 905 0 i 27), (4, .int .i64 (i : Int)), (5, .own 909 0 j 2), (6, .int .i64 (j : Int))]) (ol2 := [(905, .one (ZR (i)) (CO 1 (i) ((fun _ => n)) 2)), (1, .many (famF (i) ((fun _ => n)) (formT p T fo))), (909, .one (Z64 j) (C64 j (formT p T fo i)))]) rfl rfl ?_
    refine snd_seq ?_
    apply sr tokTB (by kernel_rfl)
    · intro RR hRR
      refine w_move (by constructor) ?_
      refine w_fac rfl und34 rfl kn2 nz2 (by decide) rfl (by constructor) ?_
      refine w_ldc rfl kn2 (by constructor) (by exact sz2.symm) (by exact ag2.symm) ?_
      refine w_lss rfl rfl ?_
      exact hRR
    refine snd_cond _ rfl (fun hc18 => ?_) (fun hc18 => ?_)
    · try simp only [hcs] at hc18
      have lt_j : j < n := by omega
      refine snd_skip ?_
      refine snd_seq ?_
      refine snd_block ?_
      apply ld tokTB mixed (by kernel_rfl) (by kernel_rfl)
      · intro RR hRR
        refine w_move (by constructor) ?_
        refine w_ldc rfl kn34 (by constructor) (by exact sz34.symm) (by exact ag34.symm) ?_
        refine w_ldc rfl kn34 (by constructor) (by exact sz34.symm) (by exact ag34.symm) ?_
        refine w_move (by constructor) ?_
        refine y_call rfl (ec exn) (c_l01Basis (i := i) (by omega)) ?_
        refine w_move (by constructor) ?_
        refine y_call rfl (ec exn) (c_l01Basis (i := j) (by omega)) ?_
        refine y_call rfl (ec (ec (ec exn))) ((hv0.ee (i := i) (j := j) (by omega) (by omega)) ▸ (c_l01Times (u := eF i) (v := eF j) (by omega) (by omega) hv0.n6 hv0.T8 (eF_B8 i) (eF_B8 j))) ?_
        refine y_call rfl (ec (ec exn)) (c_l01Form (v := T i j) (by omega) hv0.f8 (hv0.T8 i j)) ?_
        refine w_bsl1 und27 kn2 (by rw [sz2]; rfl) rfl (by constructor) (by first | exact trivial | exact cel_cap2) (by exact sz2.symm) (by first | exact trivial | exact ssh_vec | exact ⟨rfl, fun _ => trivial⟩) ?_
        refine w_app_o und27 rfl rfl kn2 rfl rfl (fun C h => ⟨rfl, rfl, rfl, h⟩) (by rw [by2]; omega) (by omega) rfl ?_
        refine w_assign (by constructor) ?_
        exact hRR
      apply lr tokTB (by kernel_rfl)
      · intro RR hRR
        refine w_move (by constructor) ?_
        refine y_add rfl rfl ?_
        refine w_assign (by constructor) ?_
        exact hRR
      refine ⟨j + 1, (ρQ 905 1 905 912 i 909 31), ?_, (by omega), (by dsimp only; omega)⟩
      exact emb_fam1 (by decide) (by decide) (by decide) (by decide) (by decide) (by decide) (by decide) (by decide) (by decide) rfl (fun j hj hne => rfl) (fun h => absurd h (by omega)) (fun h => absurd h (by omega)) (fun r hr hne => famF_at (c := i) (w := (fun _ => n)) (F := formT p T fo) (by omega)) ⟨_, rfl, ⟨rfl, fun _ => trivial⟩, fun V => mt_app (fun _ _ => rfl) rfl⟩ ⟨m_calg, (by first | exact ⟨rfl, rfl, rfl, rfl⟩ | exact ⟨rfl, by omega, rfl, rfl⟩), (mi), (by first | exact ⟨rfl, rfl, rfl, rfl⟩ | exact ⟨rfl, by omega, rfl, rfl⟩), (mi), trivial⟩
    · try simp only [hcs] at hc18
      have ge_j : n = j := by omega
      subst ge_j
      refine snd_exit ?_
      apply lr tokTB (by kernel_rfl)
      · intro RR hRR
        refine w_move (by constructor) ?_
        refine w_move (by constructor) ?_
        refine w_bsl1 und78 kn27 (by rw [sz27]; rfl) rfl (by constructor) (by first | exact trivial | exact cel_cap2) (by exact sz27.symm) (by first | exact trivial | exact ssh_vec | exact ⟨rfl, fun _ => trivial⟩) ?_
        refine w_app_o und78 rfl rfl kn27 rfl rfl (fun C h => ⟨rfl, rfl, rfl, h⟩) (by rw [by27]; omega) (by omega) rfl ?_
        refine w_assign (by constructor) ?_
        exact hRR
      apply lr tokTB (by kernel_rfl)
      · intro RR hRR
        refine w_move (by constructor) ?_
        refine y_add rfl rfl ?_
        refine w_assign (by constructor) ?_
        exact hRR
      refine ⟨i + 1, (ρP 905 1 35 909 i), ?_, (by omega), (by dsimp only; omega)⟩
      exact emb_fam (by decide) (by decide) (by decide) (by decide) rfl (fun j hj hne => appF_lt (by omega)) (fun h => (appF_ge (Nat.le_refl _) (by omega)).trans (by rw [Nat.sub_self]; rfl)) (fun h => ⟨_, rfl, fun V => mt_vec (fun j hj => rfl)⟩) (fun r hr hne => famF_at (c := i) (w := (fun _ => n)) (F := formT p T fo) (by omega)) ⟨m_calg, (by first | exact ⟨rfl, rfl, rfl, rfl⟩ | exact ⟨rfl, by omega, rfl, rfl⟩), (mi), trivial⟩
  · try simp only [hcs] at hc11
    have ge_i : n = i := by omega
    subst ge_i
    refine snd_exit ?_
    apply sr tokTB (by kernel_rfl)
    · intro RR hRR
      refine w_move (by constructor) ?_
      refine w_assign (by constructor) ?_
      exact hRR
    refine snd_ret ?_
    show retQ TB _ _ _ _ _ _
    exact rt_fam (T := TB) (a := 905) rfl (by decide) rfl rfl (fun r hr => famF_at (c := n) (w := fun _ => n) (F := formT p T fo) hr)
end Go.Am

set_option linter.unusedVariables false
set_option linter.unusedSimpArgs false
set_option maxRecDepth 4000
namespace Go.Am
attribute [local irreducible] retQ retQp
open Go.Proofs
theorem c_unitNumber {i j : Nat} : ACalls Try.prog TB 145 [.int .i64 (i : Int), .int .i64 (j : Int)] (.int .i64 (dl i j)) [] := by
  refine acalls_of tokTB Try.func145 rfl rfl (Nat.le_of_ble_eq_true rfl) ?_
  apply sr tokTB (by kernel_rfl)
  · intro RR hRR
    refine w_assign (by constructor) ?_
    exact hRR
  refine snd_seq ?_
  apply sr tokTB (by kernel_rfl)
  · intro RR hRR
    refine w_move (by constructor) ?_
    refine w_move (by constructor) ?_
    refine w_eql rfl rfl ?_
    exact hRR
  refine snd_cond _ rfl (fun hc7 => ?_) (fun hc7 => ?_)
  · try simp only [hcs] at hc7
    apply sr tokTB (by kernel_rfl)
    · intro RR hRR
      refine w_assign (by constructor) ?_
      exact hRR
    refine snd_ret ?_
    exact rt (T := TB) (fun V => m_int (by unfold dl; rw [if_pos (by omega)]))
  · try simp only [hcs] at hc7
    refine snd_skip ?_
    apply sr tokTB (by kernel_rfl)
    · intro RR hRR
      refine w_assign (by constructor) ?_
      exact hRR
    refine snd_ret ?_
    exact rt (T := TB) (fun V => m_int (by unfold dl; rw [if_neg (by omega)]))
theorem c_copairing {p : Int} {n : Nat} {T : Nat → Nat → Nat → Int} {fo : Nat → Int} (hv0 : VN p n T fo) (hr : rankT p n T fo = n) : ACalls Try.prog TB 107 [.cptr (algA p (n : Int) T fo)] (rowsA n n (cpM p n (formT p T fo))) [] := by
  have hp8 := hv0.p0
  have hn6 := hv0.n6
  have hn0 := hv0.n0
  have hFB : ∀ i, Bp p ((formT p T fo) i) := fun i => formT_Bp (by omega) i
  obtain ⟨hno, hO⟩ := au_red hv0.hp hFB hr
  refine acalls_of tokTB Try.func107 rfl rfl (Nat.le_of_ble_eq_true rfl) ?_
  apply sr tokTB (by kernel_rfl)
  · intro RR hRR
    refine w_assign (by constructor) ?_
    exact hRR
  apply sr tokTB (by kernel_rfl)
  · intro RR hRR
    refine w_move (by constructor) ?_
    refine w_call rfl (ec exn) (c_table hv0) (.inl ⟨trivial, ⟨fun _ => trivial, fun i sh c h => (by obtain ⟨_, _, rfl⟩ := famF_some h; exact fun _ => trivial), trivial⟩⟩) rfl (by constructor) rfl ?_
    refine w_assign (by constructor) ?_
    exact hRR
  refine snd_seq ?_
  apply sr tokTB (by kernel_rfl)
  · intro RR hRR
    refine w_move (by constructor) ?_
    refine w_len_o rfl rfl und78 ?_
    refine w_move (by constructor) ?_
    exact hRR
  refine snd_block ?_
  refine snd_loop (S := Nat) (fun i => ([(0, .cptr (algA p (n : Int) T fo)), (3, .own 905 0 n 27), (12, .int .i64 (n : Int)), (13, .int .i64 (i : Int))], [(905, .one (ZR n) (CO 11001 n (fun r => if r < i then n + n else n) 2)), (11001, .many (famF n (fun r => if r < i then n + n else n) (mixG (auS n (formT p T fo)) (formT p T fo) i)))])) (fun i => i ≤ n) (fun i => n - i) (0) (ρ2x 905 11000) ?_ ?_ ?_
  · exact emb_famR (ρ := ρ2x 905 11000) (ko' := 11000) (kf' := 11001) (fun _ => rfl) (fun _ => rfl) (by decide) (by decide) rfl (fun j hj => by show AV.own (11000 + 1) j n _ = _; simp) (fun r hr => ⟨C64 n (formT p T fo r), (fam_sh (w := fun _ => n) (F := formT p T fo) (e := 2) (b := 11000) (ol := []) hr).trans (by simp), fun V => mt_vec (fun z _ => by simp [mixG])⟩) ⟨m_calg, (by first | exact ⟨rfl, rfl, rfl, rfl⟩ | exact ⟨rfl, by omega, rfl, rfl⟩), (mi), (mi), trivial⟩
  · exact Nat.zero_le _
  intro i hi0
  refine sq (env2 := [(0, .cptr (algA p (n : Int) T fo)), (3, .own 905 0 n 27), (12, .int .i64 (n : Int)), (13, .int .i64 (i : Int))]) (ol2 := [(905, .one (ZR n) (CO 11001 n (fun r => if r < i then n + n else n) 2)), (11001, .many (famF n (fun r => if r < i then n + n else n) (mixG (auS n (formT p T fo)) (formT p T fo) i)))]) rfl rfl ?_
  apply sr tokTB (by kernel_rfl)
  · intro RR hRR
    refine w_lss rfl rfl ?_
    exact hRR
  refine snd_seq ?_
  refine snd_cond _ rfl (fun hc14 => ?_) (fun hc14 => ?_)
  · try simp only [hcs] at hc14
    have lt_i : i < n := by omega
    refine snd_skip ?_
    refine snd_seq ?_
    refine snd_block ?_
    apply sr tokTB (by kernel_rfl)
    · intro RR hRR
      refine w_move (by constructor) ?_
      refine w_assign (by constructor) ?_
      exact hRR
    apply sr tokTB (by kernel_rfl)
    · intro RR hRR
      refine w_move (by constructor) ?_
      refine w_len_o rfl rfl und78 ?_
      refine w_move (by constructor) ?_
      exact hRR
    refine snd_block ?_
    refine snd_loop (S := Nat) (fun j => ([(0, .cptr (algA p (n : Int) T fo)), (3, .own 905 0 n 27), (4, .int .i64 (i : Int)), (12, .int .i64 (n : Int)), (13, .int .i64 (i : Int)), (17, .int .i64 (n : Int)), (18, .int .i64 (j : Int))], [(905, .one (ZR n) (CO 11001 n (fun r => if r < i then n + n else if r = i then n + j else n) 2)), (11001, .many (famF n (fun r => if r < i then n + n else if r = i then n + j else n) (mixG (auS n (formT p T fo)) (formT p T fo) (i + 1))))])) (fun j => j ≤ n) (fun j => n - j) (0) ρ0 ?_ ?_ ?_
    · exact emb_famR (ρ := ρ0) (fun _ => rfl) (fun _ => rfl) (by decide) (by decide) rfl (fun r hr => by show AV.own 11001 r (if r < i then n + n else n) _ = _; rw [w02]) (fun r hr => ⟨_, by show famF n (fun r => if r < i then n + n else n) _ r = _; rw [famF_at hr, w02], fun V => mt_vec (fun z hz => f02 (by rw [w02]; exact hz))⟩) ⟨m_calg, (by first | exact ⟨rfl, rfl, rfl, rfl⟩ | exact ⟨rfl, by omega, rfl, rfl⟩), (mi), (mi), (mi), (mi), (mi), trivial⟩
    · exact Nat.zero_le _
    intro j hi2
    refine sq (env2 := [(0, .cptr (algA p (n : Int) T fo)), (3, .own 905 0 n 27), (4, .int .i64 (i : Int)), (12, .int .i64 (n : Int)), (13, .int .i64 (i : Int)), (17, .int .i64 (n : Int)), (18, .int .i64 (j : Int))]) (ol2 := [(905, .one (ZR n) (CO 11001 n (fun r => if r < i then n + n else if r = i then n + j else n) 2)), (11001, .many (famF n (fun r => if r < i then n + n else if r = i then n + j else n) (mixG (auS n (formT p T fo)) (formT p T fo) (i + 1))))]) rfl rfl ?_
    apply sr tokTB (by kernel_rfl)
    · intro RR hRR
      refine w_lss rfl rfl ?_
      exact hRR
    refine snd_seq ?_
    refine snd_cond _ rfl (fun hc19 => ?_) (fun hc19 => ?_)
    · try simp only [hcs] at hc19
      have lt_j : j < n := by omega
      refine snd_skip ?_
      refine snd_seq ?_
      refine snd_block ?_
      apply sr tokTB (by kernel_rfl)
      · intro RR hRR
        refine w_move (by constructor) ?_
        refine w_assign (by constructor) ?_
        exact hRR
      apply ld tokTB mixed (by kernel_rfl) (by kernel_rfl)
      · intro RR hRR
        refine w_move (by constructor) ?_
        refine w_move (by constructor) ?_
        refine w_move (by constructor) ?_
        refine w_move (by constructor) ?_
        refine w_iao rfl rfl und78 kn27 ?_ ?_
        · exact ⟨by omega, by omega⟩
        first | refine w_ldc rfl kn27 (by constructor) (by exact sz27.symm) (by exact ag27.symm) ?_ | refine w_ldp rfl kn27 rfl (by constructor) (by exact sz27.symm) (by exact ag27.symm) ?_
        refine w_move (by constructor) ?_
        refine w_move (by constructor) ?_
        refine y_call rfl (ec (ec exn)) (c_unitNumber (i := i) (j := j)) ?_
        refine w_bsl1 und27 kn2 (by rw [sz2]; rfl) rfl (by constructor) (by first | exact trivial | exact cel_cap2) (by exact sz2.symm) (by first | exact trivial | exact ssh_vec | exact ⟨rfl, fun _ => trivial⟩) ?_
        refine w_app_o (k := 11001) (i := i) (n := n + j) (m := 1) (f := fun z => .int .i64 ((mixG (auS n (formT p T fo)) (formT p T fo) (i + 1)) i z)) und27 (by show AV.own 11001 i (if i < i then n + n else if i = i then n + j else n) _ = _; rw [w2j]) rfl kn2 rfl (by show famF n (fun r => if r < i then n + n else if r = i then n + j else n) (mixG (auS n (formT p T fo)) (formT p T fo) (i + 1)) i = _; rw [famF_at (by omega), w2j]; rfl) (fun C h => ⟨rfl, rfl, rfl, h⟩) (by rw [by2]; omega) (by omega) rfl ?_
        refine w_iao rfl rfl und78 kn27 ?_ ?_
        · exact ⟨by omega, by omega⟩
        first | refine w_stw rfl (by constructor) kn27 rfl (by exact trivial) (sx) (by exact sz27.symm) ?_ | refine w_sti rfl rfl kn27 rfl (by exact trivial) (by exact sz27.symm) ?_ | refine w_store rfl (HV.eq (by constructor)) kn27 rfl (by exact trivial) (sx) (by exact sz27.symm) (put_in (by first | exact put_mat | exact put_tab | exact put_alg0 | exact put_pr0 | exact put_pr1 | exact put_pr2 | exact put_alg1 | exact put_alg2 | exact put_alg3 | exact put_alg3i | exact put_alg2ij | exact put_alg2ijk | exact put_mat2 | exact put_tab2 | exact put_tab3)) ?_ | refine w_store rfl (HV.eq (by constructor)) kn27 rfl (by exact trivial) (by exact trivial) (by exact sz27.symm) rfl ?_
        exact hRR
      apply lr tokTB (by kernel_rfl)
      · intro RR hRR
        refine y_add rfl rfl ?_
        refine w_move (by constructor) ?_
        exact hRR
      refine ⟨j + 1, (ρP 905 11001 905 31 i), ?_, (by omega), (by dsimp only; omega)⟩
      exact emb_fam (by decide) (by decide) (by decide) (by decide) rfl (fun r hr hne => by show (bif Nat.beq r i then _ else AV.own 11001 r (if r < i then n + n else if r = i then n + j else n) _) = _; rw [beq_ff hne]; simp only [cond_false]; rw [w2s hne]) (fun h => by show (bif Nat.beq i i then _ else _) = _; rw [Nat.beq_refl]; simp [put]; omega) (fun h => by refine ⟨_, (by show _ = some (Z64 (if i < i then n + n else if i = i then n + (j + 1) else n), _); rw [w2i]; exact rfl), fun V => ?_⟩; show Mt V (C64 (if i < i then n + n else if i = i then n + (j + 1) else n) _) _; rw [w2i]; exact mt_app (fun z hz => rfl) (congrArg (AV.int .i64) (by rw [mixG_lt _ _ (Nat.lt_succ_self i)]; exact auS_at))) (fun r hr hne => by show (bif Nat.beq r i then none else famF n (fun r => if r < i then n + n else if r = i then n + j else n) _ r) = _; rw [beq_ff hne]; simp only [cond_false]; rw [famF_at hr, w2s hne]) ⟨m_calg, (by first | exact ⟨rfl, rfl, rfl, rfl⟩ | exact ⟨rfl, by omega, rfl, rfl⟩), (mi), (mi), (mi), (mi), (mi), trivial⟩
    · try simp only [hcs] at hc19
      have ge_j : n = j := by omega
      subst ge_j
      refine snd_exit ?_
      apply lr tokTB (by kernel_rfl)
      · intro RR hRR
        refine y_add rfl rfl ?_
        refine w_move (by constructor) ?_
        exact hRR
      refine ⟨i + 1, ρ0, ?_, (by omega), (by dsimp only; omega)⟩
      exact emb_famR (ρ := ρ0) (fun _ => rfl) (fun _ => rfl) (by decide) (by decide) rfl (fun r hr => by show AV.own 11001 r (if r < i then n + n else if r = i then n + n else n) _ = _; rw [w20]) (fun r hr => ⟨_, by show famF n (fun r => if r < i then n + n else if r = i then n + n else n) _ r = _; rw [famF_at hr, w20], fun V => mt_vec (fun z hz => rfl)⟩) ⟨m_calg, (by first | exact ⟨rfl, rfl, rfl, rfl⟩ | exact ⟨rfl, by omega, rfl, rfl⟩), (mi), (mi), trivial⟩
  · try simp only [hcs] at hc14
    have ge_i : n = i := by omega
    subst ge_i
    refine snd_exit ?_
    refine snd_emb (ρ := ρ0) (env2 := [(0, .cptr (algA p (n : Int) T fo)), (3, rowsA n (n + n) (auS n (formT p T fo)))]) (ol2 := []) ?_ ?_
    · exact ⟨⟨m_calg, mt_fam_fz (w := fun r => if r < n then n + n else n) (F := mixG (auS n (formT p T fo)) (formT p T fo) n) trivial (fun _ => trivial) rfl (fun r hr => famF_at (w := fun r => if r < n then n + n else n) (F := mixG (auS n (formT p T fo)) (formT p T fo) n) hr) (fun r hr => if_pos hr) (fun r hr z hz => by rw [mixG_lt _ _ hr]), trivial⟩, trivial, trivial⟩
    apply sr tokTB (by kernel_rfl)
    · intro RR hRR
      refine w_bsl und78 kn27 (by rw [sz27]; rfl) rfl trivial trivial rfl ?_
      refine w_assign (by constructor) ?_
      exact hRR
    refine snd_seq ?_
    apply sr tokTB (by kernel_rfl)
    · intro RR hRR
      refine w_move (by constructor) ?_
      refine w_move (by constructor) ?_
      refine w_nilc rfl ?_
      refine w_fac rfl und34 rfl kn2 nz2 (by decide) rfl (by constructor) ?_
      refine w_ldc rfl kn2 (by constructor) (by exact sz2.symm) (by exact ag2.symm) ?_
      refine w_call rfl (ec (ec exn)) (c_reduce (n := n) (m := n + n) (R := (auS n (formT p T fo))) hv0.hp (by omega) (by omega) (fun i => B8_of (by omega) (auS_Bp (by omega) hFB i))) (.inr ⟨closed_rows, trivial, trivial⟩) rfl (by constructor) rfl ?_
      refine w_len_o rfl rfl und78 ?_
      refine w_move (by constructor) ?_
      exact hRR
    refine snd_block ?_
    refine snd_loop (S := Nat) (fun k => ([(0, .cptr (algA p (n : Int) T fo)), (6, .own 906 0 k 27), (41, .own 42000 0 (redGo p n (auS n (formT p T fo)) (n + n)).no 27), (42, .int .i64 ((redGo p n (auS n (formT p T fo)) (n + n)).no : Int)), (43, .int .i64 (k : Int))], [(906, .one (ZR k) (.arr k (fun r => .ro n (fun z => .int .i64 ((redGo p n (auS n (formT p T fo)) (n + n)).O r (n + z)))))), (42000, .one (ZR (redGo p n (auS n (formT p T fo)) (n + n)).no) (CR (redGo p n (auS n (formT p T fo)) (n + n)).no (n + n) (redGo p n (auS n (formT p T fo)) (n + n)).O))])) (fun k => k ≤ (redGo p n (auS n (formT p T fo)) (n + n)).no) (fun k => (redGo p n (auS n (formT p T fo)) (n + n)).no - k) (0) (fun k i => bif Nat.beq k 906 then (35, i) else (k, i)) ?_ ?_ ?_
    · exact ⟨⟨m_calg, (by first | exact ⟨rfl, rfl, rfl, rfl⟩ | exact ⟨rfl, by omega, rfl, rfl⟩), (by first | exact ⟨rfl, rfl, rfl, rfl⟩ | exact ⟨rfl, by omega, rfl, rfl⟩), (mi), (mi), trivial⟩, ⟨⟨rfl, (sx), (by exact ⟨rfl, fun r h => absurd h (by omega)⟩)⟩, ⟨rfl, (sx), (by exact ⟨rfl, fun _ _ => mt_row (fun _ _ => rfl)⟩)⟩, trivial⟩, ⟨⟨(fun h => by first | exact ⟨rfl, rfl⟩ | exact absurd h (by decide)), (fun h => by first | exact ⟨rfl, rfl⟩ | exact absurd h (by decide)), trivial⟩, ⟨(fun h => by first | exact ⟨rfl, rfl⟩ | exact absurd h (by decide)), (fun h => by first | exact ⟨rfl, rfl⟩ | exact absurd h (by decide)), trivial⟩, trivial⟩⟩
    · exact Nat.zero_le _
    intro k hi4
    refine sq (env2 := [(0, .cptr (algA p (n : Int) T fo)), (6, .own 906 0 k 27), (41, .own 42000 0 (redGo p n (auS n (formT p T fo)) (n + n)).no 27), (42, .int .i64 ((redGo p n (auS n (formT p T fo)) (n + n)).no : Int)), (43, .int .i64 (k : Int))]) (ol2 := [(906, .one (ZR k) (.arr k (fun r => .ro n (fun z => .int .i64 ((redGo p n (auS n (formT p T fo)) (n + n)).O r (n + z)))))), (42000, .one (ZR (redGo p n (auS n (formT p T fo)) (n + n)).no) (CR (redGo p n (auS n (formT p T fo)) (n + n)).no (n + n) (redGo p n (auS n (formT p T fo)) (n + n)).O))]) rfl rfl ?_
    apply sr tokTB (by kernel_rfl)
    · intro RR hRR
      refine w_lss rfl rfl ?_
      exact hRR
    refine snd_seq ?_
    refine snd_cond _ rfl (fun hc44 => ?_) (fun hc44 => ?_)
    · try simp only [hcs] at hc44
      have lt_k : k < (redGo p n (auS n (formT p T fo)) (n + n)).no := by omega
      refine snd_skip ?_
      refine snd_seq ?_
      refine snd_block ?_
      apply sr tokTB (by kernel_rfl)
      · intro RR hRR
        refine w_iao rfl rfl und78 kn27 ?_ ?_
        · exact ⟨by omega, by omega⟩
        first | refine w_ldc rfl kn27 (by constructor) (by exact sz27.symm) (by exact ag27.symm) ?_ | refine w_ldp rfl kn27 rfl (by constructor) (by exact sz27.symm) (by exact ag27.symm) ?_
        refine w_assign (by constructor) ?_
        exact hRR
      apply lr tokTB (by kernel_rfl)
      · intro RR hRR
        refine w_move (by constructor) ?_
        refine w_move (by constructor) ?_
        refine w_move (by constructor) ?_
        refine y_call rfl (ec exn) (c_n) ?_
        refine w_sl_rl rfl rfl und27 kn2 (by exact sz2.symm) rfl (by omega) ?_
        refine w_bsl1 und78 kn27 (by rw [sz27]; rfl) rfl (by constructor) (by first | exact trivial | exact cel_cap2) (by exact sz27.symm) (by first | exact trivial | exact ssh_vec | exact ⟨rfl, fun _ => trivial⟩) ?_
        refine w_app_o und78 rfl rfl kn27 rfl rfl (fun C h => ⟨rfl, rfl, rfl, h⟩) (by rw [by27]; omega) (by omega) rfl ?_
        refine w_assign (by constructor) ?_
        exact hRR
      apply lr tokTB (by kernel_rfl)
      · intro RR hRR
        refine y_add rfl rfl ?_
        refine w_move (by constructor) ?_
        exact hRR
      refine ⟨k + 1, (fun k i => bif Nat.beq k 906 then (53, i) else (k, i)), ?_, (by omega), (by dsimp only; omega)⟩
      exact ⟨⟨m_calg, (by first | exact ⟨rfl, rfl, rfl, rfl⟩ | exact ⟨rfl, by omega, rfl, rfl⟩), (by first | exact ⟨rfl, rfl, rfl, rfl⟩ | exact ⟨rfl, by omega, rfl, rfl⟩), (mi), (mi), trivial⟩, ⟨⟨rfl, (sx), (by exact mt_app (fun r hr => ⟨rfl, fun _ _ => rfl⟩) ⟨by omega, fun z hz => rfl⟩)⟩, ⟨rfl, (sx), (by exact ⟨rfl, fun _ _ => mt_row (fun _ _ => rfl)⟩)⟩, trivial⟩, ⟨⟨(fun h => by first | exact ⟨rfl, rfl⟩ | exact absurd h (by decide)), (fun h => by first | exact ⟨rfl, rfl⟩ | exact absurd h (by decide)), trivial⟩, ⟨(fun h => by first | exact ⟨rfl, rfl⟩ | exact absurd h (by decide)), (fun h => by first | exact ⟨rfl, rfl⟩ | exact absurd h (by decide)), trivial⟩, trivial⟩⟩
    · try simp only [hcs] at hc44
      have ge_k : (redGo p n (auS n (formT p T fo)) (n + n)).no = k := by omega
      subst ge_k
      refine snd_exit ?_
      refine snd_emb (ρ := ρ0) (env2 := [(6, rowsA n n (cpM p n (formT p T fo)))]) (ol2 := []) ?_ ?_
      · exact ⟨⟨⟨hno, trivial, hno, fun r hr => ⟨rfl, fun z hz => congrArg (AV.int .i64) (by rw [hO r hr (n + z) (by omega)]; unfold auO; rw [if_neg (by omega), Nat.add_sub_cancel_left])⟩⟩, trivial⟩, trivial, trivial⟩
      apply sr tokTB (by kernel_rfl)
      · intro RR hRR
        refine w_move (by constructor) ?_
        refine w_assign (by constructor) ?_
        exact hRR
      refine snd_ret ?_
      exact rt (T := TB) (fun V => mt_rows (fun _ _ _ _ => rfl))
end Go.Am

set_option linter.unusedVariables false
set_option linter.unusedSimpArgs false
set_option maxRecDepth 4000
namespace Go.Am
attribute [local irreducible] retQ retQp
open Go.Proofs
theorem c_l02Copairing {p : Int} {n : Nat} {T : Nat → Nat → Nat → Int} {fo : Nat → Int} (hv0 : VN p n T fo) (hr : rankT p n T fo = n) : ACalls Try.prog TB 105 [algA p (n : Int) T fo] (rowsA n n (cpM p n (formT p T fo))) [] := by
  have hp8 := hv0.p0
  have hn6 := hv0.n6
  have hn0 := hv0.n0
  have hFB : ∀ i, Bp p ((formT p T fo) i) := fun i => formT_Bp (by omega) i
  refine acalls_of tokTB Try.func105 rfl rfl (Nat.le_of_ble_eq_true rfl) ?_
  apply sr tokTB (by kernel_rfl)
  · intro RR hRR
    refine w_boxc (HV.eq (by constructor)) (by exact trivial) ?_
    refine w_assign (by constructor) ?_
    exact hRR
  apply sr tokTB (by kernel_rfl)
  · intro RR hRR
    refine w_fac rfl und34 rfl kn2 nz2 (by decide) rfl (by constructor) ?_
    refine w_ldc rfl kn2 (by constructor) (by exact sz2.symm) (by exact ag2.symm) ?_
    refine w_assign (by constructor) ?_
    exact hRR
  apply sr tokTB (by kernel_rfl)
  · intro RR hRR
    refine w_bsl und78 kn27 (by rw [sz27]; rfl) rfl trivial trivial rfl ?_
    refine w_assign (by constructor) ?_
    exact hRR
  refine snd_seq ?_
  apply sr tokTB (by kernel_rfl)
  · intro RR hRR
    refine w_assign (by constructor) ?_
    exact hRR
  refine snd_block ?_
  refine snd_loop (S := Nat) (fun i => ([(1, .cptr (algA p (n : Int) T fo)), (3, .int .i64 (n : Int)), (4, .own 905 0 i 27), (5, .int .i64 (i : Int))], [(905, .one (ZR (i)) (CO 1 (i) ((fun _ => n)) 2)), (1, .many (famF (i) ((fun _ => n)) ((fun _ _ => 0))))])) (fun i => i ≤ n) (fun i => n - i) (0) (ρP 905 1 16 912 0) ?_ ?_ ?_
  · exact emb_fam (by decide) (by decide) (by decide) (by decide) rfl (fun j hj => absurd hj (by omega)) (fun h => absurd h (by omega)) (fun h => absurd h (by omega)) (fun r hr => absurd hr (by omega)) ⟨m_calg, (mi), (by first | exact ⟨rfl, rfl, rfl, rfl⟩ | exact ⟨rfl, by omega, rfl, rfl⟩), (mi), trivial⟩
  · exact Nat.zero_le _
  intro i hi0
  refine sq (env2 := [(1, .cptr (algA p (n : Int) T fo)), (3, .int .i64 (n : Int)), (4, .own 905 0 i 27), (5, .int .i64 (i : Int))]) (ol2 := [(905, .one (ZR (i)) (CO 1 (i) ((fun _ => n)) 2)), (1, .many (famF (i) ((fun _ => n)) ((fun _ _ => 0))))]) rfl rfl ?_
  refine snd_seq ?_
  apply sr tokTB (by kernel_rfl)
  · intro RR hRR
    refine w_move (by constructor) ?_
    refine w_move (by constructor) ?_
    refine w_lss rfl rfl ?_
    exact hRR
  refine snd_cond _ rfl (fun hc19 => ?_) (fun hc19 => ?_)
  · try simp only [hcs] at hc19
    have lt_i : i < n := by omega
    refine snd_skip ?_
    refine snd_seq ?_
    refine snd_block ?_
    apply lr tokTB (by kernel_rfl)
    · intro RR hRR
      refine w_move (by constructor) ?_
      refine w_move (by constructor) ?_
      refine w_mks und27 rfl rfl kn2 rfl (by omega) (by rw [by2]; omega) (by omega) rfl ?_
      refine w_bsl1 und78 kn27 (by rw [sz27]; rfl) rfl (by constructor) (by first | exact trivial | exact cel_cap2) (by exact sz27.symm) (by first | exact trivial | exact ssh_vec | exact ⟨rfl, fun _ => trivial⟩) ?_
      refine w_app_o und78 rfl rfl kn27 rfl rfl (fun C h => ⟨rfl, rfl, rfl, h⟩) (by rw [by27]; omega) (by omega) rfl ?_
      refine w_assign (by constructor) ?_
      exact hRR
    apply lr tokTB (by kernel_rfl)
    · intro RR hRR
      refine w_move (by constructor) ?_
      refine y_add rfl rfl ?_
      refine w_assign (by constructor) ?_
      exact hRR
    refine ⟨i + 1, (ρP 905 1 26 24 i), ?_, (by omega), (by dsimp only; omega)⟩
    exact emb_fam (by decide) (by decide) (by decide) (by decide) rfl (fun j hj hne => appF_lt (by omega)) (fun h => (appF_ge (Nat.le_refl _) (by omega)).trans (by rw [Nat.sub_self]; rfl)) (fun h => ⟨C64 n (fun _ => 0), (by show some (AV.arr n (fun _ => TB.zero 2), AV.arr n (fun _ => TB.zero 2)) = _; rw [zr2]), fun V => mt_vec (fun j hj => rfl)⟩) (fun r hr hne => famF_at (c := i) (w := fun _ => n) (F := fun _ _ => 0) (by omega)) ⟨m_calg, (mi), (by first | exact ⟨rfl, rfl, rfl, rfl⟩ | exact ⟨rfl, by omega, rfl, rfl⟩), (mi), trivial⟩
  · try simp only [hcs] at hc19
    have ge_i : n = i := by omega
    subst ge_i
    refine snd_exit ?_
    refine snd_seq ?_
    apply sr tokTB (by kernel_rfl)
    · intro RR hRR
      refine w_assign (by constructor) ?_
      exact hRR
    refine snd_block ?_
    refine snd_loop (S := Nat) (fun i => ([(1, .cptr (algA p (n : Int) T fo)), (3, .int .i64 (n : Int)), (4, .own 905 0 n 27), (6, .int .i64 (i : Int))], [(905, .one (ZR n) (CO 1 n (fun _ => n) 2)), (1, .many (famF n (fun _ => n) (colF (cpM p n (formT p T fo)) i)))])) (fun i => i ≤ n) (fun i => n - i) (0) ρ0 ?_ ?_ ?_
    · exact emb_famR (ρ := ρ0) (fun _ => rfl) (fun _ => rfl) (by decide) (by decide) rfl (fun j hj => rfl) (fun r hr => ⟨_, famF_at (w := fun _ => n) (F := fun _ _ => 0) hr, fun V => mt_vec (fun z hz => by unfold colF; rw [if_neg (Nat.not_lt_zero _)])⟩) ⟨m_calg, (mi), (by first | exact ⟨rfl, rfl, rfl, rfl⟩ | exact ⟨rfl, by omega, rfl, rfl⟩), (mi), trivial⟩
    · exact Nat.zero_le _
    intro i hi2
    refine sq (env2 := [(1, .cptr (algA p (n : Int) T fo)), (3, .int .i64 (n : Int)), (4, .own 905 0 n 27), (6, .int .i64 (i : Int))]) (ol2 := [(905, .one (ZR n) (CO 1 n (fun _ => n) 2)), (1, .many (famF n (fun _ => n) (colF (cpM p n (formT p T fo)) i)))]) rfl rfl ?_
    refine snd_seq ?_
    apply sr tokTB (by kernel_rfl)
    · intro RR hRR
      refine w_move (by constructor) ?_
      refine w_move (by constructor) ?_
      refine w_lss rfl rfl ?_
      exact hRR
    refine snd_cond _ rfl (fun hc29 => ?_) (fun hc29 => ?_)
    · try simp only [hcs] at hc29
      have lt_i : i < n := by omega
      refine snd_skip ?_
      refine snd_seq ?_
      refine snd_block ?_
      apply sr tokTB (by kernel_rfl)
      · intro RR hRR
        refine w_ldc rfl kn34 (by constructor) (by exact sz34.symm) (by exact ag34.symm) ?_
        refine w_call rfl (ec exn) (c_l02Table hv0) (.inl ⟨trivial, ⟨fun _ => trivial, fun i sh c h => (by obtain ⟨_, _, rfl⟩ := famF_some h; exact fun _ => trivial), trivial⟩⟩) rfl (by constructor) rfl ?_
        refine w_assign (by constructor) ?_
        exact hRR
      refine snd_seq ?_
      apply sr tokTB (by kernel_rfl)
      · intro RR hRR
        refine w_assign (by constructor) ?_
        exact hRR
      refine snd_block ?_
      refine snd_loop (S := Nat) (fun j => ([(1, .cptr (algA p (n : Int) T fo)), (3, .int .i64 (n : Int)), (4, .own 905 0 n 27), (6, .int .i64 (i : Int)), (7, .own 907 0 n 27), (8, .int .i64 (j : Int))], [(905, .one (ZR n) (CO 1 n (fun _ => n) 2)), (1, .many (famF n (fun _ => n) (colF (cpM p n (formT p T fo)) i))), (907, .one (ZR n) (CO 2 n (fun r => if r < j then n + 1 else n) 2)), (2, .many (famF n (fun r => if r < j then n + 1 else n) (mixG (gS n (formT p T fo) i) (formT p T fo) j)))])) (fun j => j ≤ n) (fun j => n - j) (0) (ρL [(907, 34000), (2, 34001)] 2 n 50) ?_ ?_ ?_
      · exact emb_two ⟨by decide, by decide, by decide⟩ (by decide) rfl (fun j hj => rfl) (fun r hr => ⟨_, (by show famF n (fun _ => n) (colF (cpM p n (formT p T fo)) i) r = _; exact famF_at (w := fun _ => n) hr), fun V => mt_vec (fun _ _ => rfl)⟩) rfl (fun r hr _ => by show AV.own (34000 + 1) r n _ = AV.own 34001 r (if r < 0 then n + 1 else n) _; simp) (fun h => absurd h (Nat.lt_irrefl n)) (fun h => absurd h (Nat.lt_irrefl n)) (fun r hr _ => ⟨C64 n (formT p T fo r), (fam_sh (w := fun _ => n) (F := formT p T fo) (e := 2) (b := 34000) hr).trans (by simp), fun V => mt_vec (fun z _ => by simp [mixG])⟩) ⟨m_calg, (mi), (by first | exact ⟨rfl, rfl, rfl, rfl⟩ | exact ⟨rfl, by omega, rfl, rfl⟩), (mi), (by first | exact ⟨rfl, rfl, rfl, rfl⟩ | exact ⟨rfl, by omega, rfl, rfl⟩), (mi), trivial⟩
      · exact Nat.zero_le _
      intro j hi4
      refine sq (env2 := [(1, .cptr (algA p (n : Int) T fo)), (3, .int .i64 (n : Int)), (4, .own 905 0 n 27), (6, .int .i64 (i : Int)), (7, .own 907 0 n 27), (8, .int .i64 (j : Int))]) (ol2 := [(905, .one (ZR n) (CO 1 n (fun _ => n) 2)), (1, .many (famF n (fun _ => n) (colF (cpM p n (formT p T fo)) i))), (907, .one (ZR n) (CO 2 n (fun r => if r < j then n + 1 else n) 2)), (2, .many (famF n (fun r => if r < j then n + 1 else n) (mixG (gS n (formT p T fo) i) (formT p T fo) j)))]) rfl rfl ?_
      refine snd_seq ?_
      apply sr tokTB (by kernel_rfl)
      · intro RR hRR
        refine w_move (by constructor) ?_
        refine w_move (by constructor) ?_
        refine w_lss rfl rfl ?_
        exact hRR
      refine snd_cond _ rfl (fun hc36 => ?_) (fun hc36 => ?_)
      · try simp only [hcs] at hc36
        have lt_j : j < n := by omega
        refine snd_skip ?_
        refine snd_seq ?_
        refine snd_block ?_
        apply sr tokTB (by kernel_rfl)
        · intro RR hRR
          refine w_assign (by constructor) ?_
          exact hRR
        refine snd_seq ?_
        apply sr tokTB (by kernel_rfl)
        · intro RR hRR
          refine w_move (by constructor) ?_
          refine w_move (by constructor) ?_
          refine w_eql rfl rfl ?_
          exact hRR
        refine snd_cond _ rfl (fun hc41 => ?_) (fun hc41 => ?_)
        · try simp only [hcs] at hc41
          apply lr tokTB (by kernel_rfl)
          · intro RR hRR
            refine w_assign (by constructor) ?_
            exact hRR
          apply lr tokTB (by kernel_rfl)
          · intro RR hRR
            refine w_move (by constructor) ?_
            refine w_move (by constructor) ?_
            refine w_move (by constructor) ?_
            refine w_move (by constructor) ?_
            refine w_iao rfl rfl und78 kn27 ?_ ?_
            · exact ⟨by omega, by omega⟩
            first | refine w_ldc rfl kn27 (by constructor) (by exact sz27.symm) (by exact ag27.symm) ?_ | refine w_ldp rfl kn27 rfl (by constructor) (by exact sz27.symm) (by exact ag27.symm) ?_
            refine w_move (by constructor) ?_
            refine w_bsl1 und27 kn2 (by rw [sz2]; rfl) rfl (by constructor) (by first | exact trivial | exact cel_cap2) (by exact sz2.symm) (by first | exact trivial | exact ssh_vec | exact ⟨rfl, fun _ => trivial⟩) ?_
            refine w_app_o (k := 2) (i := j) (n := n) (m := 1) (f := fun z => .int .i64 ((mixG (gS n (formT p T fo) i) (formT p T fo) j) j z)) und27 (by show AV.own 2 j (if j < j then n + 1 else n) _ = _; rw [if_neg (Nat.lt_irrefl j)]) rfl kn2 rfl (by show famF n (fun r => if r < j then n + 1 else n) (mixG (gS n (formT p T fo) i) (formT p T fo) j) j = _; rw [famF_at (by omega), if_neg (Nat.lt_irrefl j)]; rfl) (fun C h => ⟨rfl, rfl, rfl, h⟩) (by rw [by2]; omega) (by omega) rfl ?_
            refine w_iao rfl rfl und78 kn27 ?_ ?_
            · exact ⟨by omega, by omega⟩
            first | refine w_stw rfl (by constructor) kn27 rfl (by exact trivial) (sx) (by exact sz27.symm) ?_ | refine w_sti rfl rfl kn27 rfl (by exact trivial) (by exact sz27.symm) ?_ | refine w_store rfl (HV.eq (by constructor)) kn27 rfl (by exact trivial) (sx) (by exact sz27.symm) (put_in (by first | exact put_mat | exact put_tab | exact put_alg0 | exact put_pr0 | exact put_pr1 | exact put_pr2 | exact put_alg1 | exact put_alg2 | exact put_alg3 | exact put_alg3i | exact put_alg2ij | exact put_alg2ijk | exact put_mat2 | exact put_tab2 | exact put_tab3)) ?_ | refine w_store rfl (HV.eq (by constructor)) kn27 rfl (by exact trivial) (by exact trivial) (by exact sz27.symm) rfl ?_
            exact hRR
          apply lr tokTB (by kernel_rfl)
          · intro RR hRR
            refine w_move (by constructor) ?_
            refine y_add rfl rfl ?_
            refine w_assign (by constructor) ?_
            exact hRR
          refine ⟨j + 1, (ρL [] 2 j 50), ?_, (by omega), (by dsimp only; omega)⟩
          exact emb_two ⟨by decide, by decide, by decide⟩ (by decide) rfl (fun j hj => rfl) (fun r hr => ⟨_, (by show famF n (fun _ => n) (colF (cpM p n (formT p T fo)) i) r = _; exact famF_at (w := fun _ => n) hr), fun V => mt_vec (fun _ _ => rfl)⟩) rfl (fun r hr hne => by show (bif Nat.beq r j then _ else AV.own 2 r (if r < j then n + 1 else n) _) = _; rw [beq_ff hne]; simp only [cond_false]; rw [w1s hne]; rfl) (fun h => by show (bif Nat.beq j j then _ else _) = _; rw [Nat.beq_refl]; simp [put]) (fun h => by refine ⟨_, (by show _ = some (Z64 (if j < j + 1 then n + 1 else n), _); rw [if_pos (Nat.lt_succ_self j)]; exact rfl), fun V => ?_⟩; show Mt V (C64 (if j < j + 1 then n + 1 else n) _) _; rw [if_pos (Nat.lt_succ_self j)]; exact mt_app (fun z hz => congrArg (AV.int .i64) (by rw [mixG_self, mixG_lt _ _ (Nat.lt_succ_self j)]; unfold gS; rw [if_pos hz])) (congrArg (AV.int .i64) (by rw [mixG_lt _ _ (Nat.lt_succ_self j), gS_n]; unfold dl; first | rw [if_pos (by omega)] | rw [if_neg (by omega)]))) (fun r hr hne => ⟨C64 (if r < j then n + 1 else n) (mixG (gS n (formT p T fo) i) (formT p T fo) j r), (by show (bif Nat.beq r j then none else famF n (fun r => if r < j then n + 1 else n) _ r) = _; rw [beq_ff hne]; simp only [cond_false]; rw [famF_at hr, w1s hne]), fun V => by rw [w1s hne]; exact mt_vec (fun z _ => by rw [mix1s hne])⟩) ⟨m_calg, (mi), (by first | exact ⟨rfl, rfl, rfl, rfl⟩ | exact ⟨rfl, by omega, rfl, rfl⟩), (mi), (by first | exact ⟨rfl, rfl, rfl, rfl⟩ | exact ⟨rfl, by omega, rfl, rfl⟩), (mi), trivial⟩
        · try simp only [hcs] at hc41
          refine snd_skip ?_
          apply lr tokTB (by kernel_rfl)
          · intro RR hRR
            refine w_move (by constructor) ?_
            refine w_move (by constructor) ?_
            refine w_move (by constructor) ?_
            refine w_move (by constructor) ?_
            refine w_iao rfl rfl und78 kn27 ?_ ?_
            · exact ⟨by omega, by omega⟩
            first | refine w_ldc rfl kn27 (by constructor) (by exact sz27.symm) (by exact ag27.symm) ?_ | refine w_ldp rfl kn27 rfl (by constructor) (by exact sz27.symm) (by exact ag27.symm) ?_
            refine w_move (by constructor) ?_
            refine w_bsl1 und27 kn2 (by rw [sz2]; rfl) rfl (by constructor) (by first | exact trivial | exact cel_cap2) (by exact sz2.symm) (by first | exact trivial | exact ssh_vec | exact ⟨rfl, fun _ => trivial⟩) ?_
            refine w_app_o (k := 2) (i := j) (n := n) (m := 1) (f := fun z => .int .i64 ((mixG (gS n (formT p T fo) i) (formT p T fo) j) j z)) und27 (by show AV.own 2 j (if j < j then n + 1 else n) _ = _; rw [if_neg (Nat.lt_irrefl j)]) rfl kn2 rfl (by show famF n (fun r => if r < j then n + 1 else n) (mixG (gS n (formT p T fo) i) (formT p T fo) j) j = _; rw [famF_at (by omega), if_neg (Nat.lt_irrefl j)]; rfl) (fun C h => ⟨rfl, rfl, rfl, h⟩) (by rw [by2]; omega) (by omega) rfl ?_
            refine w_iao rfl rfl und78 kn27 ?_ ?_
            · exact ⟨by omega, by omega⟩
            first | refine w_stw rfl (by constructor) kn27 rfl (by exact trivial) (sx) (by exact sz27.symm) ?_ | refine w_sti rfl rfl kn27 rfl (by exact trivial) (by exact sz27.symm) ?_ | refine w_store rfl (HV.eq (by constructor)) kn27 rfl (by exact trivial) (sx) (by exact sz27.symm) (put_in (by first | exact put_mat | exact put_tab | exact put_alg0 | exact put_pr0 | exact put_pr1 | exact put_pr2 | exact put_alg1 | exact put_alg2 | exact put_alg3 | exact put_alg3i | exact put_alg2ij | exact put_alg2ijk | exact put_mat2 | exact put_tab2 | exact put_tab3)) ?_ | refine w_store rfl (HV.eq (by constructor)) kn27 rfl (by exact trivial) (by exact trivial) (by exact sz27.symm) rfl ?_
            exact hRR
          apply lr tokTB (by kernel_rfl)
          · intro RR hRR
            refine w_move (by constructor) ?_
            refine y_add rfl rfl ?_
            refine w_assign (by constructor) ?_
            exact hRR
          refine ⟨j + 1, (ρL [] 2 j 50), ?_, (by omega), (by dsimp only; omega)⟩
          exact emb_two ⟨by decide, by decide, by decide⟩ (by decide) rfl (fun j hj => rfl) (fun r hr => ⟨_, (by show famF n (fun _ => n) (colF (cpM p n (formT p T fo)) i) r = _; exact famF_at (w := fun _ => n) hr), fun V => mt_vec (fun _ _ => rfl)⟩) rfl (fun r hr hne => by show (bif Nat.beq r j then _ else AV.own 2 r (if r < j then n + 1 else n) _) = _; rw [beq_ff hne]; simp only [cond_false]; rw [w1s hne]; rfl) (fun h => by show (bif Nat.beq j j then _ else _) = _; rw [Nat.beq_refl]; simp [put]) (fun h => by refine ⟨_, (by show _ = some (Z64 (if j < j + 1 then n + 1 else n), _); rw [if_pos (Nat.lt_succ_self j)]; exact rfl), fun V => ?_⟩; show Mt V (C64 (if j < j + 1 then n + 1 else n) _) _; rw [if_pos (Nat.lt_succ_self j)]; exact mt_app (fun z hz => congrArg (AV.int .i64) (by rw [mixG_self, mixG_lt _ _ (Nat.lt_succ_self j)]; unfold gS; rw [if_pos hz])) (congrArg (AV.int .i64) (by rw [mixG_lt _ _ (Nat.lt_succ_self j), gS_n]; unfold dl; first | rw [if_pos (by omega)] | rw [if_neg (by omega)]))) (fun r hr hne => ⟨C64 (if r < j then n + 1 else n) (mixG (gS n (formT p T fo) i) (formT p T fo) j r), (by show (bif Nat.beq r j then none else famF n (fun r => if r < j then n + 1 else n) _ r) = _; rw [beq_ff hne]; simp only [cond_false]; rw [famF_at hr, w1s hne]), fun V => by rw [w1s hne]; exact mt_vec (fun z _ => by rw [mix1s hne])⟩) ⟨m_calg, (mi), (by first | exact ⟨rfl, rfl, rfl, rfl⟩ | exact ⟨rfl, by omega, rfl, rfl⟩), (mi), (by first | exact ⟨rfl, rfl, rfl, rfl⟩ | exact ⟨rfl, by omega, rfl, rfl⟩), (mi), trivial⟩
      · try simp only [hcs] at hc36
        have ge_j : n = j := by omega
        subst ge_j
        refine snd_exit ?_
        apply sr tokTB (by kernel_rfl)
        · intro RR hRR
          refine w_fac rfl und34 rfl kn2 nz2 (by decide) rfl (by constructor) ?_
          refine w_ldc rfl kn2 (by constructor) (by exact sz2.symm) (by exact ag2.symm) ?_
          refine w_move (by constructor) ?_
          refine w_call rfl rfl ((c_l01Solve_ok (N := n) (n := n) (S := (gS n (formT p T fo) i)) hv0.hp (by omega) (by omega) (by omega) (gS_Bp (by omega) hFB i) (gS_one hv0.hp hFB hr i)).mt ⟨rfl, mt_fam0 (w := fun r => if r < n then n + 1 else n) (F := mixG (gS n (formT p T fo) i) (formT p T fo) n) rfl (fun r hr => famF_at (w := fun r => if r < n then n + 1 else n) (F := mixG (gS n (formT p T fo) i) (formT p T fo) n) hr) (fun r hr => if_pos hr) (fun r hr z hz => by rw [mixG_lt _ _ hr]), trivial⟩) (.inl ⟨nr_pair trivial trivial, ⟨fun _ => trivial, trivial⟩⟩) rfl (by constructor) rfl ?_
          refine w_move (by constructor) ?_
          refine w_ext rfl (by decide) (by constructor) ?_
          refine w_ext rfl (by decide) (by constructor) ?_
          refine w_assign (by constructor) ?_
          refine w_assign (by constructor) ?_
          exact hRR
        apply sr tokTB (by kernel_rfl)
        · intro RR hRR
          refine w_assign (by constructor) ?_
          exact hRR
        refine snd_block ?_
        refine snd_loop (S := Nat) (fun k => ([(1, .cptr (algA p (n : Int) T fo)), (3, .int .i64 (n : Int)), (4, .own 905 0 n 27), (6, .int .i64 (i : Int)), (10, .own 57000 0 n 2), (12, .int .i64 (k : Int))], [(905, .one (ZR n) (CO 1 n (fun _ => n) 2)), (1, .many (famF n (fun _ => n) (colG (cpM p n (formT p T fo)) i k))), (57000, .one (Z64 n) (C64 n (fun a => (echGo p (n + 1) (gS n (formT p T fo) i) n).O a n)))])) (fun k => k ≤ n) (fun k => n - k) (0) (ρL [] 77 77 77) ?_ ?_ ?_
        · exact emb_three ⟨by decide, by decide, by decide⟩ (by decide) rfl (fun j hj => rfl) (fun r hr => ⟨_, (by show famF n (fun _ => n) (colF (cpM p n (formT p T fo)) i) r = _; exact famF_at (w := fun _ => n) hr), fun V => mt_vec (fun _ _ => colG_0)⟩) ⟨_, rfl, ⟨rfl, fun _ => trivial⟩, fun V => mt_vec (fun _ _ => rfl)⟩ ⟨m_calg, (mi), (by first | exact ⟨rfl, rfl, rfl, rfl⟩ | exact ⟨rfl, by omega, rfl, rfl⟩), (mi), (by first | exact ⟨rfl, rfl, rfl, rfl⟩ | exact ⟨rfl, by omega, rfl, rfl⟩), (mi), trivial⟩
        · exact Nat.zero_le _
        intro k hi6
        refine sq (env2 := [(1, .cptr (algA p (n : Int) T fo)), (3, .int .i64 (n : Int)), (4, .own 905 0 n 27), (6, .int .i64 (i : Int)), (10, .own 57000 0 n 2), (12, .int .i64 (k : Int))]) (ol2 := [(905, .one (ZR n) (CO 1 n (fun _ => n) 2)), (1, .many (famF n (fun _ => n) (colG (cpM p n (formT p T fo)) i k))), (57000, .one (Z64 n) (C64 n (fun a => (echGo p (n + 1) (gS n (formT p T fo) i) n).O a n)))]) rfl rfl ?_
        refine snd_seq ?_
        apply sr tokTB (by kernel_rfl)
        · intro RR hRR
          refine w_move (by constructor) ?_
          refine w_move (by constructor) ?_
          refine w_lss rfl rfl ?_
          exact hRR
        refine snd_cond _ rfl (fun hc61 => ?_) (fun hc61 => ?_)
        · try simp only [hcs] at hc61
          have lt_k : k < n := by omega
          refine snd_skip ?_
          refine snd_seq ?_
          refine snd_block ?_
          apply sr tokTB (by kernel_rfl)
          · intro RR hRR
            refine w_move (by constructor) ?_
            refine w_move (by constructor) ?_
            refine w_iao rfl rfl und78 kn27 ?_ ?_
            · exact ⟨by omega, by omega⟩
            first | refine w_ldc rfl kn27 (by constructor) (by exact sz27.symm) (by exact ag27.symm) ?_ | refine w_ldp rfl kn27 rfl (by constructor) (by exact sz27.symm) (by exact ag27.symm) ?_
            refine w_assign (by constructor) ?_
            exact hRR
          apply lr tokTB (by kernel_rfl)
          · intro RR hRR
            refine w_move (by constructor) ?_
            refine w_move (by constructor) ?_
            refine w_move (by constructor) ?_
            refine w_move (by constructor) ?_
            refine w_iao rfl rfl und27 kn2 ?_ ?_
            · exact ⟨by omega, by omega⟩
            first | refine w_ldc rfl kn2 (by constructor) (by exact sz2.symm) (by exact ag2.symm) ?_ | refine w_ldp rfl kn2 rfl (by constructor) (by exact sz2.symm) (by exact ag2.symm) ?_
            first | refine w_iar rfl rfl und27 kn2 (by exact sz2.symm) ?_ rfl ?_ | refine w_iao rfl rfl und27 kn2 ?_ ?_
            · exact ⟨by omega, by omega⟩
            refine w_sti (i := k) (f := colG (cpM p n (formT p T fo)) i k k) rfl rfl kn2 (by show famF n (fun _ => n) (colG (cpM p n (formT p T fo)) i k) k = _; exact famF_at (w := fun _ => n) lt_k) (by exact trivial) (by exact sz2.symm) ?_
            exact hRR
          apply lr tokTB (by kernel_rfl)
          · intro RR hRR
            refine w_move (by constructor) ?_
            refine y_add rfl rfl ?_
            refine w_assign (by constructor) ?_
            exact hRR
          refine ⟨k + 1, (ρL [] 77 77 77), ?_, (by omega), (by dsimp only; omega)⟩
          exact emb_three ⟨by decide, by decide, by decide⟩ (by decide) rfl (fun j hj => rfl) (fun r hr => fam_cset hr (by show _ = cpM p n (formT p T fo) k i; unfold cpM sS cutF; rw [if_pos lt_k]; rfl)) ⟨_, rfl, ⟨rfl, fun _ => trivial⟩, fun V => mt_vec (fun _ _ => rfl)⟩ ⟨m_calg, (mi), (by first | exact ⟨rfl, rfl, rfl, rfl⟩ | exact ⟨rfl, by omega, rfl, rfl⟩), (mi), (by first | exact ⟨rfl, rfl, rfl, rfl⟩ | exact ⟨rfl, by omega, rfl, rfl⟩), (mi), trivial⟩
        · try simp only [hcs] at hc61
          have ge_k : n = k := by omega
          subst ge_k
          refine snd_exit ?_
          apply lr tokTB (by kernel_rfl)
          · intro RR hRR
            refine w_move (by constructor) ?_
            refine y_add rfl rfl ?_
            refine w_assign (by constructor) ?_
            exact hRR
          refine ⟨i + 1, ρ0, ?_, (by omega), (by dsimp only; omega)⟩
          exact emb_famR (ρ := ρ0) (fun _ => rfl) (fun _ => rfl) (by decide) (by decide) rfl (fun j hj => rfl) (fun r hr => ⟨_, (by show famF n (fun _ => n) (colG (cpM p n (formT p T fo)) i n) r = _; exact famF_at (w := fun _ => n) hr), fun V => mt_vec (fun z hz => colG_n hr)⟩) ⟨m_calg, (mi), (by first | exact ⟨rfl, rfl, rfl, rfl⟩ | exact ⟨rfl, by omega, rfl, rfl⟩), (mi), trivial⟩
    · try simp only [hcs] at hc29
      have ge_i : n = i := by omega
      subst ge_i
      refine snd_exit ?_
      refine snd_emb (ρ := ρ0) (env2 := [(4, rowsA n n (cpM p n (formT p T fo)))]) (ol2 := []) ?_ ?_
      · exact ⟨⟨mt_fam_fz (w := fun _ => n) (F := colF (cpM p n (formT p T fo)) n) trivial (fun _ => trivial) rfl (fun r hr => famF_at (w := fun _ => n) hr) (fun _ _ => rfl) (fun r hr z hz => by unfold colF; rw [if_pos hz]), trivial⟩, trivial, trivial⟩
      apply sr tokTB (by kernel_rfl)
      · intro RR hRR
        refine w_move (by constructor) ?_
        refine w_assign (by constructor) ?_
        exact hRR
      refine snd_ret ?_
      exact rt (T := TB) (fun V => mt_rows (fun _ _ _ _ => rfl))
end Go.Am

set_option linter.unusedVariables false
set_option linter.unusedSimpArgs false
set_option maxRecDepth 4000
namespace Go.Am
attribute [local irreducible] retQ retQp
open Go.Proofs
theorem zr54 : TB.zero 54 = prA 0 0 (fun _ _ _ => 0) (fun _ => 0) 0 0 (fun _ _ _ => 0) (fun _ => 0) (fun _ _ => 0) := by
  refine congrArg (AV.sct 3) (funext fun i => ?_)
  match i with
  | 0 =>
    refine congrArg (AV.sct 4) (funext fun j => ?_)
    match j with
    | 0 => rfl
    | 1 => rfl
    | 2 => rfl
    | 3 => rfl
    | j + 4 => rfl
  | 1 =>
    refine congrArg (AV.sct 4) (funext fun j => ?_)
    match j with
    | 0 => rfl
    | 1 => rfl
    | 2 => rfl
    | 3 => rfl
    | j + 4 => rfl
  | 2 => rfl
  | n + 3 => rfl
theorem c_symmetric {p : Int} {n : Nat} {T : Nat → Nat → Nat → Int} {fo : Nat → Int} (hv0 : VN p n T fo) : ACalls Try.prog TB 117 [.cptr (algA p (n : Int) T fo)] (.bool (decide (symA n (formT p T fo)))) [] := by
  have hp8 := hv0.p0
  have hn6 := hv0.n6
  refine acalls_of tokTB Try.func117 rfl rfl (Nat.le_of_ble_eq_true rfl) ?_
  apply sr tokTB (by kernel_rfl)
  · intro RR hRR
    refine w_assign (by constructor) ?_
    exact hRR
  apply sr tokTB (by kernel_rfl)
  · intro RR hRR
    refine w_move (by constructor) ?_
    refine w_call rfl (ec exn) (c_table hv0) (.inl ⟨trivial, ⟨fun _ => trivial, fun i sh c h => (by obtain ⟨_, _, rfl⟩ := famF_some h; exact fun _ => trivial), trivial⟩⟩) rfl (by constructor) rfl ?_
    refine w_assign (by constructor) ?_
    exact hRR
  refine snd_seq ?_
  refine snd_emb (ρ := ρ0) (env2 := [(0, .cptr (algA p (n : Int) T fo)), (3, rowsA n n (formT p T fo))]) (ol2 := []) ?_ ?_
  · exact ⟨⟨m_calg, mt_fam_fz (w := fun _ => n) (F := formT p T fo) trivial (fun _ => trivial) rfl (fun r hr => fam_sh (e := 2) (b := 10000) (ol := []) hr) (fun _ _ => rfl) (fun _ _ _ _ => rfl), trivial⟩, trivial, trivial⟩
  apply sr tokTB (by kernel_rfl)
  · intro RR hRR
    refine w_move (by constructor) ?_
    refine w_len_r rfl rfl und78 ?_
    refine w_move (by constructor) ?_
    exact hRR
  refine snd_block ?_
  refine snd_loop (S := Nat) (fun i => ([(3, rowsA n n (formT p T fo)), (10, rowsA n n (formT p T fo)), (11, .int .i64 (n : Int)), (12, .int .i64 (i : Int))], [])) (fun i => i ≤ n ∧ (∀ a, a < i → ∀ b, b < n → formT p T fo b a = formT p T fo a b)) (fun i => n - i) (0) ρ0 ?_ ?_ ?_
  · exact ⟨⟨(mt_rows (V := _) (fun _ _ _ _ => rfl)), (mt_rows (V := _) (fun _ _ _ _ => rfl)), (mi), (mi), trivial⟩, trivial, trivial⟩
  · exact ⟨Nat.zero_le _, fun j hj => absurd hj (Nat.not_lt_zero _)⟩
  intro i hi0
  refine sq (env2 := [(3, rowsA n n (formT p T fo)), (10, rowsA n n (formT p T fo)), (11, .int .i64 (n : Int)), (12, .int .i64 (i : Int))]) (ol2 := []) rfl rfl ?_
  obtain ⟨le_i, inv_i⟩ := hi0
  apply sr tokTB (by kernel_rfl)
  · intro RR hRR
    refine w_lss rfl rfl ?_
    exact hRR
  refine snd_seq ?_
  refine snd_cond _ rfl (fun hc13 => ?_) (fun hc13 => ?_)
  · try simp only [hcs] at hc13
    have lt_i : i < n := by omega
    refine snd_skip ?_
    refine snd_seq ?_
    refine snd_block ?_
    apply sr tokTB (by kernel_rfl)
    · intro RR hRR
      refine w_move (by constructor) ?_
      refine w_iar rfl rfl und78 kn27 (by exact sz27.symm) ?_ rfl ?_
      · exact ⟨by omega, by omega⟩
      first | refine w_ldc rfl kn27 (by constructor) (by exact sz27.symm) (by exact ag27.symm) ?_ | refine w_ldp rfl kn27 rfl (by constructor) (by exact sz27.symm) (by exact ag27.symm) ?_
      refine w_assign (by constructor) ?_
      refine w_assign (by constructor) ?_
      exact hRR
    apply sr tokTB (by kernel_rfl)
    · intro RR hRR
      refine w_move (by constructor) ?_
      refine w_len_r rfl rfl und27 ?_
      refine w_move (by constructor) ?_
      exact hRR
    refine snd_block ?_
    refine snd_loop (S := Nat) (fun j => ([(3, rowsA n n (formT p T fo)), (4, .int .i64 (i : Int)), (10, rowsA n n (formT p T fo)), (11, .int .i64 (n : Int)), (12, .int .i64 (i : Int)), (17, rowA n (formT p T fo i)), (18, .int .i64 (n : Int)), (19, .int .i64 (j : Int))], [])) (fun j => j ≤ n ∧ (∀ b, b < j → formT p T fo b i = formT p T fo i b)) (fun j => n - j) (0) ρ0 ?_ ?_ ?_
    · exact ⟨⟨(mt_rows (V := _) (fun _ _ _ _ => rfl)), (mi), (mt_rows (V := _) (fun _ _ _ _ => rfl)), (mi), (mi), (by first | exact mt_row (V := _) (fun _ _ => rfl) | exact mt_fz (by exact trivial) rfl (fun _ _ => rfl)), (mi), (mi), trivial⟩, trivial, trivial⟩
    · exact ⟨Nat.zero_le _, fun j hj => absurd hj (Nat.not_lt_zero _)⟩
    intro j hi2
    refine sq (env2 := [(3, rowsA n n (formT p T fo)), (4, .int .i64 (i : Int)), (10, rowsA n n (formT p T fo)), (11, .int .i64 (n : Int)), (12, .int .i64 (i : Int)), (17, rowA n (formT p T fo i)), (18, .int .i64 (n : Int)), (19, .int .i64 (j : Int))]) (ol2 := []) rfl rfl ?_
    obtain ⟨le_j, inv_j⟩ := hi2
    apply sr tokTB (by kernel_rfl)
    · intro RR hRR
      refine w_lss rfl rfl ?_
      exact hRR
    refine snd_seq ?_
    refine snd_cond _ rfl (fun hc20 => ?_) (fun hc20 => ?_)
    · try simp only [hcs] at hc20
      have lt_j : j < n := by omega
      refine snd_skip ?_
      refine snd_seq ?_
      refine snd_block ?_
      apply sr tokTB (by kernel_rfl)
      · intro RR hRR
        refine w_move (by constructor) ?_
        refine w_iar rfl rfl und27 kn2 (by exact sz2.symm) ?_ rfl ?_
        · exact ⟨by omega, by omega⟩
        first | refine w_ldc rfl kn2 (by constructor) (by exact sz2.symm) (by exact ag2.symm) ?_ | refine w_ldp rfl kn2 rfl (by constructor) (by exact sz2.symm) (by exact ag2.symm) ?_
        refine w_assign (by constructor) ?_
        refine w_assign (by constructor) ?_
        exact hRR
      apply sr tokTB (by kernel_rfl)
      · intro RR hRR
        refine w_move (by constructor) ?_
        refine w_move (by constructor) ?_
        refine w_iar rfl rfl und78 kn27 (by exact sz27.symm) ?_ rfl ?_
        · exact ⟨by omega, by omega⟩
        first | refine w_ldc rfl kn27 (by constructor) (by exact sz27.symm) (by exact ag27.symm) ?_ | refine w_ldp rfl kn27 rfl (by constructor) (by exact sz27.symm) (by exact ag27.symm) ?_
        refine w_move (by constructor) ?_
        refine w_iar rfl rfl und27 kn2 (by exact sz2.symm) ?_ rfl ?_
        · exact ⟨by omega, by omega⟩
        first | refine w_ldc rfl kn2 (by constructor) (by exact sz2.symm) (by exact ag2.symm) ?_ | refine w_ldp rfl kn2 rfl (by constructor) (by exact sz2.symm) (by exact ag2.symm) ?_
        refine w_move (by constructor) ?_
        refine w_neq rfl rfl ?_
        exact hRR
      refine snd_cond _ rfl (fun hc32 => ?_) (fun hc32 => ?_)
      · skip
        apply sr tokTB (by kernel_rfl)
        · intro RR hRR
          refine w_assign (by constructor) ?_
          exact hRR
        refine snd_ret ?_
        exact rt (T := TB) (fun V => m_bool (by symm; rw [decide_eq_false_iff_not]; intro h; exact of_decide_eq_true (p := ¬ _ = _) hc32 (h i (by omega) j (by omega))))
      · skip
        refine snd_skip ?_
        apply lr tokTB (by kernel_rfl)
        · intro RR hRR
          refine y_add rfl rfl ?_
          refine w_move (by constructor) ?_
          exact hRR
        refine ⟨j + 1, ρ0, ?_, ⟨by omega, all_step inv_j (Classical.not_not.1 (of_decide_eq_false (p := ¬ _ = _) hc32))⟩, (by dsimp only; omega)⟩
        exact ⟨⟨(mt_rows (V := _) (fun _ _ _ _ => rfl)), (mi), (mt_rows (V := _) (fun _ _ _ _ => rfl)), (mi), (mi), (by first | exact mt_row (V := _) (fun _ _ => rfl) | exact mt_fz (by exact trivial) rfl (fun _ _ => rfl)), (mi), (mi), trivial⟩, trivial, trivial⟩
    · try simp only [hcs] at hc20
      have ge_j : n = j := by omega
      subst ge_j
      refine snd_exit ?_
      apply lr tokTB (by kernel_rfl)
      · intro RR hRR
        refine y_add rfl rfl ?_
        refine w_move (by constructor) ?_
        exact hRR
      refine ⟨i + 1, ρ0, ?_, ⟨by omega, all_step inv_i inv_j⟩, (by dsimp only; omega)⟩
      exact ⟨⟨(mt_rows (V := _) (fun _ _ _ _ => rfl)), (mt_rows (V := _) (fun _ _ _ _ => rfl)), (mi), (mi), trivial⟩, trivial, trivial⟩
  · try simp only [hcs] at hc13
    have ge_i : n = i := by omega
    subst ge_i
    refine snd_exit ?_
    apply sr tokTB (by kernel_rfl)
    · intro RR hRR
      refine w_assign (by constructor) ?_
      exact hRR
    refine snd_ret ?_
    exact rt (T := TB) (fun V => m_bool (by symm; rw [decide_eq_true_eq]; exact inv_i))
theorem c_l10Symmetric {p : Int} {n : Nat} {T : Nat → Nat → Nat → Int} {fo : Nat → Int} (hv0 : VN p n T fo) : ACalls Try.prog TB 116 [algA p (n : Int) T fo] (.bool (decide (symA n (formT p T fo)))) [] := by
  have hp8 := hv0.p0
  have hn6 := hv0.n6
  have hsy := sym_iff (n := n) (F := formT p T fo)
  refine acalls_of tokTB Try.func116 rfl rfl (Nat.le_of_ble_eq_true rfl) ?_
  apply sr tokTB (by kernel_rfl)
  · intro RR hRR
    refine w_boxc (HV.eq (by constructor)) (by exact trivial) ?_
    refine w_assign (by constructor) ?_
    exact hRR
  apply sr tokTB (by kernel_rfl)
  · intro RR hRR
    refine w_ldc rfl kn34 (by constructor) (by exact sz34.symm) (by exact ag34.symm) ?_
    refine w_call rfl (ec exn) (c_l02Table hv0) (.inl ⟨trivial, ⟨fun _ => trivial, fun i sh c h => (by obtain ⟨_, _, rfl⟩ := famF_some h; exact fun _ => trivial), trivial⟩⟩) rfl (by constructor) rfl ?_
    refine w_assign (by constructor) ?_
    exact hRR
  refine snd_seq ?_
  refine snd_emb (ρ := ρ0) (env2 := [(3, rowsA n n (formT p T fo))]) (ol2 := []) ?_ ?_
  · exact ⟨⟨mt_fam_fz (w := fun _ => n) (F := formT p T fo) trivial (fun _ => trivial) rfl (fun r hr => fam_sh (e := 2) (b := 8000) (ol := []) hr) (fun _ _ => rfl) (fun _ _ _ _ => rfl), trivial⟩, trivial, trivial⟩
  apply sr tokTB (by kernel_rfl)
  · intro RR hRR
    refine w_assign (by constructor) ?_
    exact hRR
  refine snd_block ?_
  refine snd_loop (S := Nat) (fun i => ([(3, rowsA n n (formT p T fo)), (4, .int .i64 (i : Int))], [])) (fun i => i ≤ n ∧ (∀ a, a < i → ∀ b, b < a → formT p T fo a b = formT p T fo b a)) (fun i => n - i) (0) ρ0 ?_ ?_ ?_
  · exact ⟨⟨(mt_rows (V := _) (fun _ _ _ _ => rfl)), (mi), trivial⟩, trivial, trivial⟩
  · exact ⟨Nat.zero_le _, fun j hj => absurd hj (Nat.not_lt_zero _)⟩
  intro i hi0
  refine sq (env2 := [(3, rowsA n n (formT p T fo)), (4, .int .i64 (i : Int))]) (ol2 := []) rfl rfl ?_
  obtain ⟨le_i, inv_i⟩ := hi0
  refine snd_seq ?_
  apply sr tokTB (by kernel_rfl)
  · intro RR hRR
    refine w_move (by constructor) ?_
    refine w_move (by constructor) ?_
    refine w_len_r rfl rfl und78 ?_
    refine w_lss rfl rfl ?_
    exact hRR
  refine snd_cond _ rfl (fun hc11 => ?_) (fun hc11 => ?_)
  · try simp only [hcs] at hc11
    have lt_i : i < n := by omega
    refine snd_skip ?_
    refine snd_seq ?_
    refine snd_block ?_
    apply sr tokTB (by kernel_rfl)
    · intro RR hRR
      refine w_assign (by constructor) ?_
      exact hRR
    refine snd_block ?_
    refine snd_loop (S := Nat) (fun j => ([(3, rowsA n n (formT p T fo)), (4, .int .i64 (i : Int)), (5, .int .i64 (j : Int))], [])) (fun j => j ≤ i ∧ (∀ b, b < j → formT p T fo i b = formT p T fo b i)) (fun j => i - j) (0) ρ0 ?_ ?_ ?_
    · exact ⟨⟨(mt_rows (V := _) (fun _ _ _ _ => rfl)), (mi), (mi), trivial⟩, trivial, trivial⟩
    · exact ⟨Nat.zero_le _, fun j hj => absurd hj (Nat.not_lt_zero _)⟩
    intro j hi2
    refine sq (env2 := [(3, rowsA n n (formT p T fo)), (4, .int .i64 (i : Int)), (5, .int .i64 (j : Int))]) (ol2 := []) rfl rfl ?_
    obtain ⟨le_j, inv_j⟩ := hi2
    refine snd_seq ?_
    apply sr tokTB (by kernel_rfl)
    · intro RR hRR
      refine w_move (by constructor) ?_
      refine w_move (by constructor) ?_
      refine w_lss rfl rfl ?_
      exact hRR
    refine snd_cond _ rfl (fun hc16 => ?_) (fun hc16 => ?_)
    · try simp only [hcs] at hc16
      have lt_j : j < i := by omega
      refine snd_skip ?_
      refine snd_seq ?_
      refine snd_block ?_
      apply sd tokTB mixed (by kernel_rfl) (by kernel_rfl)
      · intro RR hRR
        refine w_move (by constructor) ?_
        refine w_move (by constructor) ?_
        refine w_iar rfl rfl und78 kn27 (by exact sz27.symm) ?_ rfl ?_
        · exact ⟨by omega, by omega⟩
        first | refine w_ldc rfl kn27 (by constructor) (by exact sz27.symm) (by exact ag27.symm) ?_ | refine w_ldp rfl kn27 rfl (by constructor) (by exact sz27.symm) (by exact ag27.symm) ?_
        refine w_move (by constructor) ?_
        refine w_iar rfl rfl und27 kn2 (by exact sz2.symm) ?_ rfl ?_
        · exact ⟨by omega, by omega⟩
        first | refine w_ldc rfl kn2 (by constructor) (by exact sz2.symm) (by exact ag2.symm) ?_ | refine w_ldp rfl kn2 rfl (by constructor) (by exact sz2.symm) (by exact ag2.symm) ?_
        refine w_move (by constructor) ?_
        refine w_move (by constructor) ?_
        refine w_iar rfl rfl und78 kn27 (by exact sz27.symm) ?_ rfl ?_
        · exact ⟨by omega, by omega⟩
        first | refine w_ldc rfl kn27 (by constructor) (by exact sz27.symm) (by exact ag27.symm) ?_ | refine w_ldp rfl kn27 rfl (by constructor) (by exact sz27.symm) (by exact ag27.symm) ?_
        refine w_move (by constructor) ?_
        refine w_iar rfl rfl und27 kn2 (by exact sz2.symm) ?_ rfl ?_
        · exact ⟨by omega, by omega⟩
        first | refine w_ldc rfl kn2 (by constructor) (by exact sz2.symm) (by exact ag2.symm) ?_ | refine w_ldp rfl kn2 rfl (by constructor) (by exact sz2.symm) (by exact ag2.symm) ?_
        refine w_neq rfl rfl ?_
        exact hRR
      refine snd_cond _ rfl (fun hc33 => ?_) (fun hc33 => ?_)
      · skip
        apply sr tokTB (by kernel_rfl)
        · intro RR hRR
          refine w_assign (by constructor) ?_
          exact hRR
        refine snd_ret ?_
        exact rt (T := TB) (fun V => m_bool (by symm; rw [decide_eq_false_iff_not]; intro h; exact of_decide_eq_true (p := ¬ _ = _) hc33 (hsy.2 h i (by omega) j (by omega))))
      · skip
        refine snd_skip ?_
        apply lr tokTB (by kernel_rfl)
        · intro RR hRR
          refine w_move (by constructor) ?_
          refine y_add rfl rfl ?_
          refine w_assign (by constructor) ?_
          exact hRR
        refine ⟨j + 1, ρ0, ?_, ⟨by omega, all_step inv_j (Classical.not_not.1 (of_decide_eq_false (p := ¬ _ = _) hc33))⟩, (by dsimp only; omega)⟩
        exact ⟨⟨(mt_rows (V := _) (fun _ _ _ _ => rfl)), (mi), (mi), trivial⟩, trivial, trivial⟩
    · try simp only [hcs] at hc16
      have ge_j : i = j := by omega
      subst ge_j
      refine snd_exit ?_
      apply lr tokTB (by kernel_rfl)
      · intro RR hRR
        refine w_move (by constructor) ?_
        refine y_add rfl rfl ?_
        refine w_assign (by constructor) ?_
        exact hRR
      refine ⟨i + 1, ρ0, ?_, ⟨by omega, all_step inv_i inv_j⟩, (by dsimp only; omega)⟩
      exact ⟨⟨(mt_rows (V := _) (fun _ _ _ _ => rfl)), (mi), trivial⟩, trivial, trivial⟩
  · try simp only [hcs] at hc11
    have ge_i : n = i := by omega
    subst ge_i
    refine snd_exit ?_
    apply sr tokTB (by kernel_rfl)
    · intro RR hRR
      refine w_assign (by constructor) ?_
      exact hRR
    refine snd_ret ?_
    exact rt (T := TB) (fun V => m_bool (by symm; rw [decide_eq_true_eq]; exact hsy.1 inv_i))
theorem c_starredN {p : Int} {n : Nat} {T : Nat → Nat → Nat → Int} {fo : Nat → Int} (hv0 : VN p n T fo) {N : Nat} (hN : N ≤ 6) {F : Nat → Nat → Int} {v : Nat → Int} (hF : ∀ i, B8 (F i)) (hv : B8 v) : ACalls Try.prog TB 118 [.cptr (algA p (n : Int) T fo), vlA N F, vecA v] (vecA (apF p F v (N))) [] := by
  have hp8 := hv0.p0
  have hn6 := hv0.n6
  refine acalls_of tokTB Try.func118 rfl rfl (Nat.le_of_ble_eq_true rfl) ?_
  apply sr tokTB (by kernel_rfl)
  · intro RR hRR
    refine w_boxc (HV.eq (by constructor)) (by exact trivial) ?_
    refine w_alloc kn32 rfl zr32 ?_
    exact hRR
  apply sr tokTB (by kernel_rfl)
  · intro RR hRR
    refine w_bld_a kn32 zr32 und32 kn5 (fun _ => (by exact sz5.symm)) trivial rfl (by exact sz5.symm) ?_
    refine w_alloc kn32 rfl zr32 ?_
    refine w_stw rfl (by constructor) kn32 rfl (by exact trivial) (sx) (by exact sz32.symm) ?_
    exact hRR
  refine snd_seq ?_
  apply sr tokTB (by kernel_rfl)
  · intro RR hRR
    refine w_move (by constructor) ?_
    refine w_len_r rfl rfl und45 ?_
    refine w_move (by constructor) ?_
    exact hRR
  refine snd_block ?_
  refine snd_loop (S := Nat) (fun i => ([(0, .cptr (algA p (n : Int) T fo)), (5, .cptr (vecA v)), (6, .ptr 6 0 [] 0 (vecA (fun _ => 0))), (7, .ptr 7 0 [] 0 (vecA (fun _ => 0))), (11, vlA N F), (12, .int .i64 (N : Int)), (13, .int .i64 (i : Int))], [(6, .one (vecA (fun _ => 0)) (vecA (fun _ => 0))), (7, .one (vecA (fun _ => 0)) (vecA (apF p F v (i))))])) (fun i => i ≤ N) (fun i => N - i) (0) ρ0 ?_ ?_ ?_
  · exact ⟨⟨m_calg, (m_cvec (fun _ _ => rfl)), ⟨rfl, rfl, rfl, rfl, rfl⟩, ⟨rfl, rfl, rfl, rfl, rfl⟩, (by first | exact m_vl | exact mt_fz (by exact ⟨(ne_fst rfl), (ne_fst rfl), trivial⟩) rfl (fun _ _ => mt_vec (fun _ _ => rfl))), (mi), (mi), trivial⟩, ⟨⟨rfl, (sx), (by first | exact mt_vec (fun _ _ => rfl) | exact mt_mat (fun _ _ _ _ => rfl) | exact mt_tab (fun _ _ _ _ _ _ => rfl) | exact mt_arr0 | exact mt_app (fun _ _ => rfl) rfl | exact ⟨rfl, fun _ _ => mt_row (fun _ _ => rfl)⟩ | exact Mt_closed (V := _) closed_alg (fun _ _ _ => trivial) (by simp))⟩, ⟨rfl, (sx), (by first | exact mt_vec (fun _ _ => rfl) | exact mt_mat (fun _ _ _ _ => rfl) | exact mt_tab (fun _ _ _ _ _ _ => rfl) | exact mt_arr0 | exact mt_app (fun _ _ => rfl) rfl | exact ⟨rfl, fun _ _ => mt_row (fun _ _ => rfl)⟩ | exact Mt_closed (V := _) closed_alg (fun _ _ _ => trivial) (by simp))⟩, trivial⟩, ⟨⟨(fun h => by first | exact ⟨rfl, rfl⟩ | exact absurd h (by decide)), (fun h => by first | exact ⟨rfl, rfl⟩ | exact absurd h (by decide)), trivial⟩, ⟨(fun h => by first | exact ⟨rfl, rfl⟩ | exact absurd h (by decide)), (fun h => by first | exact ⟨rfl, rfl⟩ | exact absurd h (by decide)), trivial⟩, trivial⟩⟩
  · exact Nat.zero_le _
  intro i hi0
  refine sq (env2 := [(0, .cptr (algA p (n : Int) T fo)), (5, .cptr (vecA v)), (6, .ptr 6 0 [] 0 (vecA (fun _ => 0))), (7, .ptr 7 0 [] 0 (vecA (fun _ => 0))), (11, vlA N F), (12, .int .i64 (N : Int)), (13, .int .i64 (i : Int))]) (ol2 := [(6, .one (vecA (fun _ => 0)) (vecA (fun _ => 0))), (7, .one (vecA (fun _ => 0)) (vecA (apF p F v (i))))]) rfl rfl ?_
  apply sr tokTB (by kernel_rfl)
  · intro RR hRR
    refine w_lss rfl rfl ?_
    exact hRR
  refine snd_seq ?_
  refine snd_cond _ rfl (fun hc14 => ?_) (fun hc14 => ?_)
  · try simp only [hcs] at hc14
    have lt_i : i < N := by omega
    refine snd_skip ?_
    refine snd_seq ?_
    refine snd_block ?_
    apply sr tokTB (by kernel_rfl)
    · intro RR hRR
      refine w_move (by constructor) ?_
      refine w_iar rfl rfl und45 kn32 (by exact sz32.symm) ?_ rfl ?_
      · exact ⟨by omega, by omega⟩
      first | refine w_ldc rfl kn32 (by constructor) (by exact sz32.symm) (by exact ag32.symm) ?_ | refine w_ldp rfl kn32 rfl (by constructor) (by exact sz32.symm) (by exact ag32.symm) ?_
      refine w_alloc kn32 rfl zr32 ?_
      refine w_assign (by constructor) ?_
      refine w_stw rfl (by constructor) kn32 rfl (by exact trivial) (sx) (by exact sz32.symm) ?_
      exact hRR
    apply ld tokTB mixed (by kernel_rfl) (by kernel_rfl)
    · intro RR hRR
      refine w_move (by constructor) ?_
      refine w_ldp rfl kn32 rfl (by constructor) (by exact sz32.symm) (by exact ag32.symm) ?_
      refine w_ldp rfl kn32 rfl (by constructor) (by exact sz32.symm) (by exact ag32.symm) ?_
      refine w_move (by constructor) ?_
      refine w_iac rfl rfl und32 kn5 (by exact sz5.symm) ?_ rfl ?_
      · exact ⟨by omega, by omega⟩
      first | refine w_ldc rfl kn5 (by constructor) (by exact sz5.symm) (by exact ag5.symm) ?_ | refine w_ldp rfl kn5 rfl (by constructor) (by exact sz5.symm) (by exact ag5.symm) ?_
      refine w_conv rfl und5 und2 (by exact w64b hv _) ?_
      refine y_call rfl (ec (ec (ec (ec exn)))) (c_add (u := apF p F v (i)) (v := F i) (k := v i) hp8 (B8_of (by omega) (apF_Bp (by omega) F v i)) (hF i) (by have := hv i; omega)) ?_
      refine w_stw rfl (by constructor) kn32 rfl (by exact trivial) (sx) (by exact sz32.symm) ?_
      exact hRR
    apply lr tokTB (by kernel_rfl)
    · intro RR hRR
      refine y_add rfl rfl ?_
      refine w_move (by constructor) ?_
      exact hRR
    refine ⟨i + 1, ρ0, ?_, (by omega), (by dsimp only; omega)⟩
    exact ⟨⟨m_calg, (m_cvec (fun _ _ => rfl)), ⟨rfl, rfl, rfl, rfl, rfl⟩, ⟨rfl, rfl, rfl, rfl, rfl⟩, (by first | exact m_vl | exact mt_fz (by exact ⟨(ne_fst rfl), (ne_fst rfl), trivial⟩) rfl (fun _ _ => mt_vec (fun _ _ => rfl))), (mi), (mi), trivial⟩, ⟨⟨rfl, (sx), (by first | exact mt_vec (fun _ _ => rfl) | exact mt_mat (fun _ _ _ _ => rfl) | exact mt_tab (fun _ _ _ _ _ _ => rfl) | exact mt_arr0 | exact mt_app (fun _ _ => rfl) rfl | exact ⟨rfl, fun _ _ => mt_row (fun _ _ => rfl)⟩ | exact Mt_closed (V := _) closed_alg (fun _ _ _ => trivial) (by simp))⟩, ⟨rfl, (sx), (by first | exact mt_vec (fun _ _ => rfl) | exact mt_mat (fun _ _ _ _ => rfl) | exact mt_tab (fun _ _ _ _ _ _ => rfl) | exact mt_arr0 | exact mt_app (fun _ _ => rfl) rfl | exact ⟨rfl, fun _ _ => mt_row (fun _ _ => rfl)⟩ | exact Mt_closed (V := _) closed_alg (fun _ _ _ => trivial) (by simp))⟩, trivial⟩, ⟨⟨(fun h => by first | exact ⟨rfl, rfl⟩ | exact absurd h (by decide)), (fun h => by first | exact ⟨rfl, rfl⟩ | exact absurd h (by decide)), trivial⟩, ⟨(fun h => by first | exact ⟨rfl, rfl⟩ | exact absurd h (by decide)), (fun h => by first | exact ⟨rfl, rfl⟩ | exact absurd h (by decide)), trivial⟩, trivial⟩⟩
  · try simp only [hcs] at hc14
    have ge_i : N = i := by omega
    subst ge_i
    refine snd_exit ?_
    apply sr tokTB (by kernel_rfl)
    · intro RR hRR
      refine w_ldp rfl kn32 rfl (by constructor) (by exact sz32.symm) (by exact ag32.symm) ?_
      refine w_stw rfl (by constructor) kn32 rfl (by exact trivial) (sx) (by exact sz32.symm) ?_
      exact hRR
    refine snd_ret ?_
    exact rt_c (T := TB) rfl kn32 rfl sz32.symm ag32.symm (fun V => m_vec (fun j hj => rfl))
theorem c_toVectorA6 {M : Nat → Nat → Int} : ACalls Try.prog TB 76 [matA M] (matA M) [] := by
  refine acalls_of tokTB Try.func76 rfl rfl (Nat.le_of_ble_eq_true rfl) ?_
  apply sr tokTB (by kernel_rfl)
  · intro RR hRR
    refine w_boxc (HV.eq (by constructor)) (by exact trivial) ?_
    refine w_alloc kn52 rfl zr52 ?_
    exact hRR
  apply sr tokTB (by kernel_rfl)
  · intro RR hRR
    refine w_alloc kn52 rfl zr52 ?_
    exact hRR
  refine snd_seq ?_
  apply sr tokTB (by kernel_rfl)
  · intro RR hRR
    refine w_assign (by constructor) ?_
    exact hRR
  refine snd_block ?_
  refine snd_loop (S := Nat) (fun i => ([(1, .cptr (matA M)), (2, .ptr 2 0 [] 0 (matA (fun _ _ => 0))), (3, .ptr 3 0 [] 0 (matA (fun _ _ => 0))), (4, .int .i64 (i : Int))], [(2, .one (matA (fun _ _ => 0)) (matA (fun _ _ => 0))), (3, .one (matA (fun _ _ => 0)) (matA (cutG (fun _ => 0) M i)))])) (fun i => i ≤ 6) (fun i => 6 - i) (0) ρ0 ?_ ?_ ?_
  · exact ⟨⟨(by exact mt_mat (V := _) (fun _ _ _ _ => rfl)), ⟨rfl, rfl, rfl, rfl, rfl⟩, ⟨rfl, rfl, rfl, rfl, rfl⟩, (mi), trivial⟩, ⟨⟨rfl, (sx), (by exact mt_mat (fun _ _ _ _ => rfl))⟩, ⟨rfl, (sx), (by exact mt_mat (fun _ _ _ _ => rfl))⟩, trivial⟩, ⟨⟨(fun h => by first | exact ⟨rfl, rfl⟩ | exact absurd h (by decide)), (fun h => by first | exact ⟨rfl, rfl⟩ | exact absurd h (by decide)), trivial⟩, ⟨(fun h => by first | exact ⟨rfl, rfl⟩ | exact absurd h (by decide)), (fun h => by first | exact ⟨rfl, rfl⟩ | exact absurd h (by decide)), trivial⟩, trivial⟩⟩
  · exact Nat.zero_le _
  intro i hi0
  refine sq (env2 := [(1, .cptr (matA M)), (2, .ptr 2 0 [] 0 (matA (fun _ _ => 0))), (3, .ptr 3 0 [] 0 (matA (fun _ _ => 0))), (4, .int .i64 (i : Int))]) (ol2 := [(2, .one (matA (fun _ _ => 0)) (matA (fun _ _ => 0))), (3, .one (matA (fun _ _ => 0)) (matA (cutG (fun _ => 0) M i)))]) rfl rfl ?_
  refine snd_seq ?_
  apply sr tokTB (by kernel_rfl)
  · intro RR hRR
    refine w_move (by constructor) ?_
    refine w_lss rfl rfl ?_
    exact hRR
  refine snd_cond _ rfl (fun hc6 => ?_) (fun hc6 => ?_)
  · try simp only [hcs] at hc6
    refine snd_skip ?_
    refine snd_seq ?_
    refine snd_block ?_
    apply lr tokTB (by kernel_rfl)
    · intro RR hRR
      refine w_move (by constructor) ?_
      refine w_move (by constructor) ?_
      refine w_iac rfl rfl und23 kn22 (by exact sz22.symm) ?_ rfl ?_
      · exact ⟨by omega, by omega⟩
      refine w_ldc rfl kn22 (by constructor) (by exact sz22.symm) (by exact ag22.symm) ?_
      refine y_call rfl (ec exn) (c_toVector (v := M i)) ?_
      refine w_iap rfl rfl und52 kn32 rfl (by exact sz32.symm) rfl ?_ ?_
      · exact ⟨by omega, by omega⟩
      first | refine w_stw rfl (by constructor) kn32 rfl (by exact trivial) (sx) (by exact sz32.symm) ?_ | refine w_sti rfl rfl kn32 rfl (by exact trivial) (by exact sz32.symm) ?_ | refine w_store rfl (HV.eq (by constructor)) kn32 rfl (by exact trivial) (sx) (by exact sz32.symm) (put_in (by first | exact put_mat | exact put_tab | exact put_alg0 | exact put_pr0 | exact put_pr1 | exact put_pr2 | exact put_alg1 | exact put_alg2 | exact put_alg3 | exact put_alg3i | exact put_alg2ij | exact put_alg2ijk | exact put_mat2 | exact put_tab2 | exact put_tab3)) ?_ | refine w_store rfl (HV.eq (by constructor)) kn32 rfl (by exact trivial) (by exact trivial) (by exact sz32.symm) rfl ?_
      exact hRR
    apply lr tokTB (by kernel_rfl)
    · intro RR hRR
      refine w_move (by constructor) ?_
      refine y_add rfl rfl ?_
      refine w_assign (by constructor) ?_
      exact hRR
    refine ⟨i + 1, ρ0, ?_, (by omega), (by dsimp only; omega)⟩
    exact ⟨⟨(by exact mt_mat (V := _) (fun _ _ _ _ => rfl)), ⟨rfl, rfl, rfl, rfl, rfl⟩, ⟨rfl, rfl, rfl, rfl, rfl⟩, (mi), trivial⟩, ⟨⟨rfl, (sx), (by exact mt_mat (fun _ _ _ _ => rfl))⟩, ⟨rfl, (sx), (by exact mt_mat (fun z w _ _ => congrFun (upd_cutG _ _ i z) w))⟩, trivial⟩, ⟨⟨(fun h => by first | exact ⟨rfl, rfl⟩ | exact absurd h (by decide)), (fun h => by first | exact ⟨rfl, rfl⟩ | exact absurd h (by decide)), trivial⟩, ⟨(fun h => by first | exact ⟨rfl, rfl⟩ | exact absurd h (by decide)), (fun h => by first | exact ⟨rfl, rfl⟩ | exact absurd h (by decide)), trivial⟩, trivial⟩⟩
  · try simp only [hcs] at hc6
    have hi6 : i = 6 := by omega
    subst hi6
    refine snd_exit ?_
    apply sr tokTB (by kernel_rfl)
    · intro RR hRR
      refine w_ldp rfl kn52 rfl (by constructor) (by exact sz52.symm) (by exact ag52.symm) ?_
      refine w_stw rfl (by constructor) kn52 rfl (by exact trivial) (sx) (by exact sz52.symm) ?_
      exact hRR
    refine snd_ret ?_
    exact rt_c (T := TB) rfl kn52 rfl sz52.symm ag52.symm (fun V => mt_mat (fun j k hj _ => by simp [cutG, hj]))
theorem c_toPair {p n q m : Int} {T S : Nat → Nat → Nat → Int} {fo go : Nat → Int} {Y : Nat → Nat → Int} : ACalls Try.prog TB 34 [prA p n T fo q m S go Y] (prA p n T fo q m S go Y) [] := by
  refine acalls_of tokTB Try.func34 rfl rfl (Nat.le_of_ble_eq_true rfl) ?_
  apply sr tokTB (by kernel_rfl)
  · intro RR hRR
    refine w_boxc (HV.eq (by constructor)) (by exact trivial) ?_
    refine w_alloc kn54 rfl zr54 ?_
    exact hRR
  apply sr tokTB (by kernel_rfl)
  · intro RR hRR
    refine w_alloc kn54 rfl zr54 ?_
    exact hRR
  apply sr tokTB (by kernel_rfl)
  · intro RR hRR
    refine w_fac rfl und50 rfl kn26 nz26 (by decide) rfl (by constructor) ?_
    refine w_ldc rfl kn26 (by constructor) (by exact sz26.symm) (by exact ag26.symm) ?_
    refine y_call rfl (ec exn) (c_toAlgebra (p := p) (n := n) (T := T) (fo := fo)) ?_
    refine w_fap rfl und54 rfl kn34 nz34 rfl (by decide) rfl ?_
    first | refine w_stw rfl (by constructor) kn34 rfl (by exact trivial) (sx) (by exact sz34.symm) ?_ | refine w_sti rfl rfl kn34 rfl (by exact trivial) (by exact sz34.symm) ?_ | refine w_store rfl (HV.eq (by constructor)) kn34 rfl (by exact trivial) (sx) (by exact sz34.symm) (put_in (by first | exact put_mat | exact put_tab | exact put_alg0 | exact put_pr0 | exact put_pr1 | exact put_pr2 | exact put_alg1 | exact put_alg2 | exact put_alg3 | exact put_alg3i | exact put_alg2ij | exact put_alg2ijk | exact put_mat2 | exact put_tab2 | exact put_tab3)) ?_ | refine w_store rfl (HV.eq (by constructor)) kn34 rfl (by exact trivial) (by exact trivial) (by exact sz34.symm) rfl ?_
    exact hRR
  apply sr tokTB (by kernel_rfl)
  · intro RR hRR
    refine w_fac rfl und50 rfl kn26 nz26 (by decide) rfl (by constructor) ?_
    refine w_ldc rfl kn26 (by constructor) (by exact sz26.symm) (by exact ag26.symm) ?_
    refine y_call rfl (ec exn) (c_toAlgebra (p := q) (n := m) (T := S) (fo := go)) ?_
    refine w_fap rfl und54 rfl kn34 nz34 rfl (by decide) rfl ?_
    first | refine w_stw rfl (by constructor) kn34 rfl (by exact trivial) (sx) (by exact sz34.symm) ?_ | refine w_sti rfl rfl kn34 rfl (by exact trivial) (by exact sz34.symm) ?_ | refine w_store rfl (HV.eq (by constructor)) kn34 rfl (by exact trivial) (sx) (by exact sz34.symm) (put_in (by first | exact put_mat | exact put_tab | exact put_alg0 | exact put_pr0 | exact put_pr1 | exact put_pr2 | exact put_alg1 | exact put_alg2 | exact put_alg3 | exact put_alg3i | exact put_alg2ij | exact put_alg2ijk | exact put_mat2 | exact put_tab2 | exact put_tab3)) ?_ | refine w_store rfl (HV.eq (by constructor)) kn34 rfl (by exact trivial) (by exact trivial) (by exact sz34.symm) rfl ?_
    exact hRR
  apply sr tokTB (by kernel_rfl)
  · intro RR hRR
    refine w_fac rfl und50 rfl kn23 nz23 (by decide) rfl (by constructor) ?_
    refine w_ldc rfl kn23 (by constructor) (by exact sz23.symm) (by exact ag23.symm) ?_
    refine w_call0 rfl (exc (by exact rfl) exn) (c_toVectorA6 (M := Y)) (by exact fun _ _ => trivial) (fun _ => by exact rfl) ?_
    refine w_fap rfl und54 rfl kn52 nz52 rfl (by decide) rfl ?_
    first | refine w_stw rfl (by constructor) kn52 rfl (by exact trivial) (sx) (by exact sz52.symm) ?_ | refine w_sti rfl rfl kn52 rfl (by exact trivial) (by exact sz52.symm) ?_ | refine w_store rfl (HV.eq (by constructor)) kn52 rfl (by exact trivial) (sx) (by exact sz52.symm) (put_in (by first | exact put_mat | exact put_tab | exact put_alg0 | exact put_pr0 | exact put_pr1 | exact put_pr2 | exact put_alg1 | exact put_alg2 | exact put_alg3 | exact put_alg3i | exact put_alg2ij | exact put_alg2ijk | exact put_mat2 | exact put_tab2 | exact put_tab3)) ?_ | refine w_store rfl (HV.eq (by constructor)) kn52 rfl (by exact trivial) (by exact trivial) (by exact sz52.symm) rfl ?_
    exact hRR
  apply sr tokTB (by kernel_rfl)
  · intro RR hRR
    refine w_ldp rfl kn54 rfl (by constructor) (by exact sz54.symm) (by exact ag54.symm) ?_
    refine w_stw rfl (by constructor) kn54 rfl (by exact trivial) (sx) (by exact sz54.symm) ?_
    exact hRR
  refine snd_ret ?_
  exact rt_c (T := TB) rfl kn54 rfl sz54.symm ag54.symm (fun V => m_pr)
theorem c_l10Zip {p : Int} {n m : Nat} {T S : Nat → Nat → Nat → Int} {fo go : Nat → Int} {Y : Nat → Nat → Int} (hv0 : VN p n T fo) (hw0 : VN p m S go) (hY : ∀ i, B8 (Y i)) {v : Nat → Int} (hv : B8 v) : ACalls Try.prog TB 81 [prA p (n : Int) T fo p (m : Int) S go Y, vecA v] (vecA (apF p Y v (n))) [] := by
  have hp8 := hv0.p0
  have hn6 := hv0.n6
  refine acalls_of tokTB Try.func81 rfl rfl (Nat.le_of_ble_eq_true rfl) ?_
  apply sr tokTB (by kernel_rfl)
  · intro RR hRR
    refine w_boxc (HV.eq (by constructor)) (by exact trivial) ?_
    refine w_boxc (HV.eq (by constructor)) (by exact trivial) ?_
    refine w_alloc kn32 rfl zr32 ?_
    exact hRR
  apply sr tokTB (by kernel_rfl)
  · intro RR hRR
    refine w_bld_a kn32 zr32 und32 kn5 (fun _ => (by exact sz5.symm)) trivial rfl (by exact sz5.symm) ?_
    refine w_alloc kn32 rfl zr32 ?_
    refine w_stw rfl (by constructor) kn32 rfl (by exact trivial) (sx) (by exact sz32.symm) ?_
    exact hRR
  refine snd_seq ?_
  apply sr tokTB (by kernel_rfl)
  · intro RR hRR
    refine w_assign (by constructor) ?_
    exact hRR
  refine snd_block ?_
  refine snd_loop (S := Nat) (fun i => ([(2, .cptr (prA p (n : Int) T fo p (m : Int) S go Y)), (3, .cptr (vecA v)), (4, .ptr 4 0 [] 0 (vecA (fun _ => 0))), (5, .ptr 5 0 [] 0 (vecA (fun _ => 0))), (6, .int .i64 (i : Int))], [(4, .one (vecA (fun _ => 0)) (vecA (fun _ => 0))), (5, .one (vecA (fun _ => 0)) (vecA (apF p Y v (i))))])) (fun i => i ≤ n) (fun i => n - i) (0) ρ0 ?_ ?_ ?_
  · exact ⟨⟨m_cpr, (m_cvec (fun _ _ => rfl)), ⟨rfl, rfl, rfl, rfl, rfl⟩, ⟨rfl, rfl, rfl, rfl, rfl⟩, (mi), trivial⟩, ⟨⟨rfl, (sx), (by first | exact mt_vec (fun _ _ => rfl) | exact mt_mat (fun _ _ _ _ => rfl) | exact mt_tab (fun _ _ _ _ _ _ => rfl) | exact mt_arr0 | exact mt_app (fun _ _ => rfl) rfl | exact ⟨rfl, fun _ _ => mt_row (fun _ _ => rfl)⟩ | exact Mt_closed (V := _) closed_alg (fun _ _ _ => trivial) (by simp))⟩, ⟨rfl, (sx), (by first | exact mt_vec (fun _ _ => rfl) | exact mt_mat (fun _ _ _ _ => rfl) | exact mt_tab (fun _ _ _ _ _ _ => rfl) | exact mt_arr0 | exact mt_app (fun _ _ => rfl) rfl | exact ⟨rfl, fun _ _ => mt_row (fun _ _ => rfl)⟩ | exact Mt_closed (V := _) closed_alg (fun _ _ _ => trivial) (by simp))⟩, trivial⟩, ⟨⟨(fun h => by first | exact ⟨rfl, rfl⟩ | exact absurd h (by decide)), (fun h => by first | exact ⟨rfl, rfl⟩ | exact absurd h (by decide)), trivial⟩, ⟨(fun h => by first | exact ⟨rfl, rfl⟩ | exact absurd h (by decide)), (fun h => by first | exact ⟨rfl, rfl⟩ | exact absurd h (by decide)), trivial⟩, trivial⟩⟩
  · exact Nat.zero_le _
  intro i hi0
  refine sq (env2 := [(2, .cptr (prA p (n : Int) T fo p (m : Int) S go Y)), (3, .cptr (vecA v)), (4, .ptr 4 0 [] 0 (vecA (fun _ => 0))), (5, .ptr 5 0 [] 0 (vecA (fun _ => 0))), (6, .int .i64 (i : Int))]) (ol2 := [(4, .one (vecA (fun _ => 0)) (vecA (fun _ => 0))), (5, .one (vecA (fun _ => 0)) (vecA (apF p Y v (i))))]) rfl rfl ?_
  refine snd_seq ?_
  apply sr tokTB (by kernel_rfl)
  · intro RR hRR
    refine w_move (by constructor) ?_
    refine w_fac rfl und54 rfl kn34 nz34 (by decide) rfl (by constructor) ?_
    refine w_fac rfl und34 rfl kn2 nz2 (by decide) rfl (by constructor) ?_
    refine w_ldc rfl kn2 (by constructor) (by exact sz2.symm) (by exact ag2.symm) ?_
    refine w_lss rfl rfl ?_
    exact hRR
  refine snd_cond _ rfl (fun hc12 => ?_) (fun hc12 => ?_)
  · try simp only [hcs] at hc12
    have lt_i : i < n := by omega
    refine snd_skip ?_
    refine snd_seq ?_
    refine snd_block ?_
    apply ld tokTB mixed (by kernel_rfl) (by kernel_rfl)
    · intro RR hRR
      refine w_fac rfl und54 rfl kn34 nz34 (by decide) rfl (by constructor) ?_
      refine w_fac rfl und34 rfl kn2 nz2 (by decide) rfl (by constructor) ?_
      refine w_ldc rfl kn2 (by constructor) (by exact sz2.symm) (by exact ag2.symm) ?_
      refine w_ldp rfl kn32 rfl (by constructor) (by exact sz32.symm) (by exact ag32.symm) ?_
      refine w_move (by constructor) ?_
      refine w_fac rfl und54 rfl kn52 nz52 (by decide) rfl (by constructor) ?_
      refine w_iac rfl rfl und52 kn32 (by exact sz32.symm) ?_ rfl ?_
      · exact ⟨by omega, by omega⟩
      refine w_ldc rfl kn32 (by constructor) (by exact sz32.symm) (by exact ag32.symm) ?_
      refine w_move (by constructor) ?_
      refine w_iac rfl rfl und32 kn5 (by exact sz5.symm) ?_ rfl ?_
      · exact ⟨by omega, by omega⟩
      first | refine w_ldc rfl kn5 (by constructor) (by exact sz5.symm) (by exact ag5.symm) ?_ | refine w_ldp rfl kn5 rfl (by constructor) (by exact sz5.symm) (by exact ag5.symm) ?_
      refine w_conv rfl und5 und2 (by exact w64b hv _) ?_
      refine y_call rfl (ec (ec (ec (ec exn)))) (c_l01Add (u := apF p Y v (i)) (v := Y i) (k := v i) hp8 (B8_of (by omega) (apF_Bp (by omega) Y v i)) (hY i) (by have := hv i; omega)) ?_
      refine w_stw rfl (by constructor) kn32 rfl (by exact trivial) (sx) (by exact sz32.symm) ?_
      exact hRR
    apply lr tokTB (by kernel_rfl)
    · intro RR hRR
      refine w_move (by constructor) ?_
      refine y_add rfl rfl ?_
      refine w_assign (by constructor) ?_
      exact hRR
    refine ⟨i + 1, ρ0, ?_, (by omega), (by dsimp only; omega)⟩
    exact ⟨⟨m_cpr, (m_cvec (fun _ _ => rfl)), ⟨rfl, rfl, rfl, rfl, rfl⟩, ⟨rfl, rfl, rfl, rfl, rfl⟩, (mi), trivial⟩, ⟨⟨rfl, (sx), (by first | exact mt_vec (fun _ _ => rfl) | exact mt_mat (fun _ _ _ _ => rfl) | exact mt_tab (fun _ _ _ _ _ _ => rfl) | exact mt_arr0 | exact mt_app (fun _ _ => rfl) rfl | exact ⟨rfl, fun _ _ => mt_row (fun _ _ => rfl)⟩ | exact Mt_closed (V := _) closed_alg (fun _ _ _ => trivial) (by simp))⟩, ⟨rfl, (sx), (by first | exact mt_vec (fun _ _ => rfl) | exact mt_mat (fun _ _ _ _ => rfl) | exact mt_tab (fun _ _ _ _ _ _ => rfl) | exact mt_arr0 | exact mt_app (fun _ _ => rfl) rfl | exact ⟨rfl, fun _ _ => mt_row (fun _ _ => rfl)⟩ | exact Mt_closed (V := _) closed_alg (fun _ _ _ => trivial) (by simp))⟩, trivial⟩, ⟨⟨(fun h => by first | exact ⟨rfl, rfl⟩ | exact absurd h (by decide)), (fun h => by first | exact ⟨rfl, rfl⟩ | exact absurd h (by decide)), trivial⟩, ⟨(fun h => by first | exact ⟨rfl, rfl⟩ | exact absurd h (by decide)), (fun h => by first | exact ⟨rfl, rfl⟩ | exact absurd h (by decide)), trivial⟩, trivial⟩⟩
  · try simp only [hcs] at hc12
    have ge_i : n = i := by omega
    subst ge_i
    refine snd_exit ?_
    apply sr tokTB (by kernel_rfl)
    · intro RR hRR
      refine w_ldp rfl kn32 rfl (by constructor) (by exact sz32.symm) (by exact ag32.symm) ?_
      refine w_stw rfl (by constructor) kn32 rfl (by exact trivial) (sx) (by exact sz32.symm) ?_
      exact hRR
    refine snd_ret ?_
    exact rt_c (T := TB) rfl kn32 rfl sz32.symm ag32.symm (fun V => m_vec (fun j hj => rfl))
theorem c_zip {p : Int} {n m : Nat} {T S : Nat → Nat → Nat → Int} {fo go : Nat → Int} {Y : Nat → Nat → Int} (hv0 : VN p n T fo) (hw0 : VN p m S go) (hY : ∀ i, B8 (Y i)) {v : Nat → Int} (hv : B8 v) : ACalls Try.prog TB 79 [.cptr (prA p (n : Int) T fo p (m : Int) S go Y), vecA v] (vecA (apF p Y v (6))) [] := by
  have hp8 := hv0.p0
  refine acalls_of tokTB Try.func79 rfl rfl (Nat.le_of_ble_eq_true rfl) ?_
  apply sr tokTB (by kernel_rfl)
  · intro RR hRR
    refine w_boxc (HV.eq (by constructor)) (by exact trivial) ?_
    refine w_alloc kn32 rfl zr32 ?_
    exact hRR
  apply sd tokTB mixed (by kernel_rfl) (by kernel_rfl)
  · intro RR hRR
    refine w_move (by constructor) ?_
    refine w_nilc rfl ?_
    refine w_fac rfl und54 rfl kn34 nz34 (by decide) rfl (by constructor) ?_
    refine w_move (by constructor) ?_
    refine w_nilc rfl ?_
    refine w_fac rfl und54 rfl kn52 nz52 (by decide) rfl (by constructor) ?_
    refine w_sl_aa rfl und52 kn32 (by exact sz32.symm) (by decide) ?_
    refine w_ldc rfl kn32 (by constructor) (by exact sz32.symm) (by exact ag32.symm) ?_
    refine y_call rfl (exc exp_calg (exc (by exact rfl) (exc (by exact rfl) exn))) (c_starredN (N := 6) hw0 (by omega) hY hv) ?_
    refine w_stw rfl (by constructor) kn32 rfl (by exact trivial) (sx) (by exact sz32.symm) ?_
    exact hRR
  refine snd_ret ?_
  exact rt_c (T := TB) rfl kn32 rfl sz32.symm ag32.symm (fun V => m_vec (fun j hj => rfl))
end Go.Am

