/- Part 5 of what the law stands on: abstract values, their walk, contracts of functions. My own work. Conditions: none. -/
import Derived.Test.YtpaiipbomihocaaPart4
set_option linter.unusedVariables false
set_option linter.unusedSimpArgs false
set_option maxRecDepth 4000
namespace Go.Am
attribute [local irreducible] retQ retQp
open Go.Proofs
theorem c_valid0_ok {p : Int} {n : Nat} {T : Nat → Nat → Nat → Int} {fo : Nat → Int} (hv0 : VN p n T fo) : ACalls Try.prog TB 49 [algA p (n : Int) T fo, .nilsl] (.int .i64 0) [] := by
  have hp : p ≤ 256 := by have := hv0.p0; omega
  have h := c_valid0 hv0.rb hv0.rv (p := p) (n := (n : Int)) (T := T) (fo := fo)
  rwa [cZ_ok (VZ_0.2 hv0.va)] at h
theorem c_valid0_no {p n : Int} {T : Nat → Nat → Nat → Int} {fo : Nat → Int} (hT : RB T) (hf : RV fo) (hz : ¬ VZ p n T fo 0 (fun _ _ => 0)) : ACalls Try.prog TB 49 [algA p n T fo, .nilsl] (.int .i64 1) [] := by
  have h := c_valid0 hT hf (p := p) (n := n) (T := T) (fo := fo)
  rwa [cZ_no hz] at h
theorem c_l01Code0_ok {p : Int} {n : Nat} {T : Nat → Nat → Nat → Int} {fo : Nat → Int} (hv0 : VN p n T fo) : ACalls Try.prog TB 46 [algA p (n : Int) T fo, .nilsl] (.int .i64 0) [] := by
  have hp : p ≤ 256 := by have := hv0.p0; omega
  have h := c_l01Code0 hv0.rb hv0.rv (p := p) (n := (n : Int)) (T := T) (fo := fo)
  rwa [cZ_ok (VZ_0.2 hv0.va)] at h
theorem c_l01Code0_no {p n : Int} {T : Nat → Nat → Nat → Int} {fo : Nat → Int} (hT : RB T) (hf : RV fo) (hz : ¬ VZ p n T fo 0 (fun _ _ => 0)) : ACalls Try.prog TB 46 [algA p n T fo, .nilsl] (.int .i64 1) [] := by
  have h := c_l01Code0 hT hf (p := p) (n := n) (T := T) (fo := fo)
  rwa [cZ_no hz] at h
end Go.Am

set_option linter.unusedVariables false
set_option linter.unusedSimpArgs false
set_option maxRecDepth 4000
namespace Go.Am
attribute [local irreducible] retQ retQp
open Go.Proofs
theorem c_table {p : Int} {n : Nat} {T : Nat → Nat → Nat → Int} {fo : Nat → Int} (hv0 : VN p n T fo) : ACalls Try.prog TB 144 [.cptr (algA p (n : Int) T fo)] (.own 0 0 n 27) [(0, .one (ZR n) (CO 1 n (fun _ => n) 2)), (1, .many (famF n (fun _ => n) (formT p T fo)))] := by
  have hp8 := hv0.p0
  have hn6 := hv0.n6
  have hn0 := hv0.n0
  refine acalls_of tokTB Try.func144 rfl rfl (Nat.le_of_ble_eq_true rfl) ?_
  apply sr tokTB (by kernel_rfl)
  · intro RR hRR
    refine w_assign (by constructor) ?_
    exact hRR
  apply sr tokTB (by kernel_rfl)
  · intro RR hRR
    refine w_bsl und78 kn27 (by rw [sz27]; rfl) rfl trivial trivial rfl ?_
    refine w_assign (by constructor) ?_
    exact hRR
  refine snd_seq ?_
  apply sr tokTB (by kernel_rfl)
  · intro RR hRR
    refine w_move (by constructor) ?_
    refine y_call rfl (ec exn) (c_n) ?_
    refine w_move (by constructor) ?_
    exact hRR
  refine snd_block ?_
  refine snd_loop (S := Nat) (fun i => ([(0, .cptr (algA p (n : Int) T fo)), (3, .own 905 0 i 27), (9, .int .i64 (n : Int)), (10, .int .i64 (i : Int))], [(905, .one (ZR (i)) (CO 1 (i) ((fun _ => n)) 2)), (1, .many (famF (i) ((fun _ => n)) (formT p T fo)))])) (fun i => i ≤ n) (fun i => n - i) (0) (ρP 905 1 7 912 0) ?_ ?_ ?_
  · exact emb_fam (by decide) (by decide) (by decide) (by decide) rfl (fun j hj => absurd hj (by omega)) (fun h => absurd h (by omega)) (fun h => absurd h (by omega)) (fun r hr => absurd hr (by omega)) ⟨m_calg, (by first | exact ⟨rfl, rfl, rfl, rfl⟩ | exact ⟨rfl, by omega, rfl, rfl⟩), (mi), (mi), trivial⟩
  · exact Nat.zero_le _
  intro i hi0
  refine sq (env2 := [(0, .cptr (algA p (n : Int) T fo)), (3, .own 905 0 i 27), (9, .int .i64 (n : Int)), (10, .int .i64 (i : Int))]) (ol2 := [(905, .one (ZR (i)) (CO 1 (i) ((fun _ => n)) 2)), (1, .many (famF (i) ((fun _ => n)) (formT p T fo)))]) rfl rfl ?_
  apply sr tokTB (by kernel_rfl)
  · intro RR hRR
    refine w_lss rfl rfl ?_
    exact hRR
  refine snd_seq ?_
  refine snd_cond _ rfl (fun hc11 => ?_) (fun hc11 => ?_)
  · try simp only [hcs] at hc11
    have lt_i : i < n := by omega
    refine snd_skip ?_
    refine snd_seq ?_
    refine snd_block ?_
    apply sr tokTB (by kernel_rfl)
    · intro RR hRR
      refine w_move (by constructor) ?_
      refine w_assign (by constructor) ?_
      exact hRR
    apply sr tokTB (by kernel_rfl)
    · intro RR hRR
      refine w_bsl und27 kn2 (by rw [sz2]; rfl) rfl trivial trivial rfl ?_
      refine w_assign (by constructor) ?_
      exact hRR
    refine snd_seq ?_
    apply sr tokTB (by kernel_rfl)
    · intro RR hRR
      refine w_move (by constructor) ?_
      refine y_call rfl (ec exn) (c_n) ?_
      refine w_move (by constructor) ?_
      exact hRR
    refine snd_block ?_
    refine snd_loop (S := Nat) (fun j => ([(0, .cptr (algA p (n : Int) T fo)), (3, .own 905 0 i 27), (4, .int .i64 (i : Int)), (5, .own 909 0 j 2), (9, .int .i64 (n : Int)), (10, .int .i64 (i : Int)), (15, .int .i64 (n : Int)), (16, .int .i64 (j : Int))], [(905, .one (ZR (i)) (CO 1 (i) ((fun _ => n)) 2)), (1, .many (famF (i) ((fun _ => n)) (formT p T fo))), (909, .one (Z64 j) (C64 j (formT p T fo i)))])) (fun j => j ≤ n) (fun j => n - j) (0) (ρQ 905 1 905 912 i 909 13) ?_ ?_ ?_
    · exact emb_fam1 (by decide) (by decide) (by decide) (by decide) (by decide) (by decide) (by decide) (by decide) (by decide) rfl (fun j hj hne => rfl) (fun h => absurd h (by omega)) (fun h => absurd h (by omega)) (fun r hr hne => famF_at (c := i) (w := (fun _ => n)) (F := formT p T fo) (by omega)) ⟨_, rfl, ⟨rfl, fun _ => trivial⟩, fun V => mt_arr0⟩ ⟨m_calg, (by first | exact ⟨rfl, rfl, rfl, rfl⟩ | exact ⟨rfl, by omega, rfl, rfl⟩), (mi), (by first | exact ⟨rfl, rfl, rfl, rfl⟩ | exact ⟨rfl, by omega, rfl, rfl⟩), (mi), (mi), (mi), (mi), trivial⟩
    · exact Nat.zero_le _
    intro j hi2
    refine sq (env2 := [(0, .cptr (algA p (n : Int) T fo)), (3, .own 905 0 i 27), (4, .int .i64 (i : Int)), (5, .own 909 0 j 2), (9, .int .i64 (n : Int)), (10, .int .i64 (i : Int)), (15, .int .i64 (n : Int)), (16, .int .i64 (j : Int))]) (ol2 := [(905, .one (ZR (i)) (CO 1 (i) ((fun _ => n)) 2)), (1, .many (famF (i) ((fun _ => n)) (formT p T fo))), (909, .one (Z64 j) (C64 j (formT p T fo i)))]) rfl rfl ?_
    apply sr tokTB (by kernel_rfl)
    · intro RR hRR
      refine w_lss rfl rfl ?_
      exact hRR
    refine snd_seq ?_
    refine snd_cond _ rfl (fun hc17 => ?_) (fun hc17 => ?_)
    · try simp only [hcs] at hc17
      have lt_j : j < n := by omega
      refine snd_skip ?_
      refine snd_seq ?_
      refine snd_block ?_
      apply sr tokTB (by kernel_rfl)
      · intro RR hRR
        refine w_move (by constructor) ?_
        refine w_assign (by constructor) ?_
        exact hRR
      apply lr tokTB (by kernel_rfl)
      · intro RR hRR
        refine w_move (by constructor) ?_
        refine w_move (by constructor) ?_
        refine w_move (by constructor) ?_
        refine w_move (by constructor) ?_
        refine w_move (by constructor) ?_
        refine w_nilc rfl ?_
        refine w_fac rfl und34 rfl kn24 nz24 (by decide) rfl (by constructor) ?_
        refine w_iac rfl rfl und24 kn23 (by exact sz23.symm) ?_ rfl ?_
        · exact ⟨by omega, by omega⟩
        refine w_iac rfl rfl und23 kn22 (by exact sz22.symm) ?_ rfl ?_
        · exact ⟨by omega, by omega⟩
        refine w_ldc rfl kn22 (by constructor) (by exact sz22.symm) (by exact ag22.symm) ?_
        refine y_call rfl (ec (ec exn)) (c_form (v := T i j) (by omega) hv0.f8 (hv0.T8 i j)) ?_
        refine w_bsl1 und27 kn2 (by rw [sz2]; rfl) rfl (by constructor) (by first | exact trivial | exact cel_cap2) (by exact sz2.symm) (by first | exact trivial | exact ssh_vec | exact ⟨rfl, fun _ => trivial⟩) ?_
        refine w_app_o und27 rfl rfl kn2 rfl rfl (fun C h => ⟨rfl, rfl, rfl, h⟩) (by rw [by2]; omega) (by omega) rfl ?_
        refine w_assign (by constructor) ?_
        exact hRR
      apply lr tokTB (by kernel_rfl)
      · intro RR hRR
        refine y_add rfl rfl ?_
        refine w_move (by constructor) ?_
        exact hRR
      refine ⟨j + 1, (ρQ 905 1 905 912 i 909 31), ?_, (by omega), (by dsimp only; omega)⟩
      exact emb_fam1 (by decide) (by decide) (by decide) (by decide) (by decide) (by decide) (by decide) (by decide) (by decide) rfl (fun j hj hne => rfl) (fun h => absurd h (by omega)) (fun h => absurd h (by omega)) (fun r hr hne => famF_at (c := i) (w := (fun _ => n)) (F := formT p T fo) (by omega)) ⟨_, rfl, ⟨rfl, fun _ => trivial⟩, fun V => mt_app (fun _ _ => rfl) rfl⟩ ⟨m_calg, (by first | exact ⟨rfl, rfl, rfl, rfl⟩ | exact ⟨rfl, by omega, rfl, rfl⟩), (mi), (by first | exact ⟨rfl, rfl, rfl, rfl⟩ | exact ⟨rfl, by omega, rfl, rfl⟩), (mi), (mi), (mi), (mi), trivial⟩
    · try simp only [hcs] at hc17
      have ge_j : n = j := by omega
      subst ge_j
      refine snd_exit ?_
      apply lr tokTB (by kernel_rfl)
      · intro RR hRR
        refine w_move (by constructor) ?_
        refine w_move (by constructor) ?_
        refine w_bsl1 und78 kn27 (by rw [sz27]; rfl) rfl (by constructor) (by first | exact trivial | exact cel_cap2) (by exact sz27.symm) (by first | exact trivial | exact ssh_vec | exact ⟨rfl, fun _ => trivial⟩) ?_
        refine w_app_o und78 rfl rfl kn27 rfl rfl (fun C h => ⟨rfl, rfl, rfl, h⟩) (by rw [by27]; omega) (by omega) rfl ?_
        refine w_assign (by constructor) ?_
        exact hRR
      apply lr tokTB (by kernel_rfl)
      · intro RR hRR
        refine y_add rfl rfl ?_
        refine w_move (by constructor) ?_
        exact hRR
      refine ⟨i + 1, (ρP 905 1 36 909 i), ?_, (by omega), (by dsimp only; omega)⟩
      exact emb_fam (by decide) (by decide) (by decide) (by decide) rfl (fun j hj hne => appF_lt (by omega)) (fun h => (appF_ge (Nat.le_refl _) (by omega)).trans (by rw [Nat.sub_self]; rfl)) (fun h => ⟨_, rfl, fun V => mt_vec (fun j hj => rfl)⟩) (fun r hr hne => famF_at (c := i) (w := (fun _ => n)) (F := formT p T fo) (by omega)) ⟨m_calg, (by first | exact ⟨rfl, rfl, rfl, rfl⟩ | exact ⟨rfl, by omega, rfl, rfl⟩), (mi), (mi), trivial⟩
  · try simp only [hcs] at hc11
    have ge_i : n = i := by omega
    subst ge_i
    refine snd_exit ?_
    apply sr tokTB (by kernel_rfl)
    · intro RR hRR
      refine w_move (by constructor) ?_
      refine w_assign (by constructor) ?_
      exact hRR
    refine snd_ret ?_
    show retQ TB _ _ _ _ _ _
    exact rt_fam (T := TB) (a := 905) rfl (by decide) rfl rfl (fun r hr => famF_at (c := n) (w := fun _ => n) (F := formT p T fo) hr)
theorem c_frobenius {p : Int} {n : Nat} {T : Nat → Nat → Nat → Int} {fo : Nat → Int} (hv0 : VN p n T fo) : ACalls Try.prog TB 106 [.cptr (algA p (n : Int) T fo)] (.bool (decide (rankT p n T fo = n))) [] := by
  have hp8 := hv0.p0
  have hn6 := hv0.n6
  have hn0 := hv0.n0
  refine acalls_of tokTB Try.func106 rfl rfl (Nat.le_of_ble_eq_true rfl) ?_
  apply sr tokTB (by kernel_rfl)
  · intro RR hRR
    refine w_assign (by constructor) ?_
    exact hRR
  apply sd tokTB mixed (by kernel_rfl) (by kernel_rfl)
  · intro RR hRR
    refine w_move (by constructor) ?_
    refine w_call rfl (ec exn) (c_table hv0) (.inl ⟨trivial, ⟨fun _ => trivial, fun i sh c h => (by obtain ⟨_, _, rfl⟩ := famF_some h; exact fun _ => trivial), trivial⟩⟩) rfl (by constructor) rfl ?_
    refine w_move (by constructor) ?_
    refine w_nilc rfl ?_
    refine w_fac rfl und34 rfl kn2 nz2 (by decide) rfl (by constructor) ?_
    refine w_ldc rfl kn2 (by constructor) (by exact sz2.symm) (by exact ag2.symm) ?_
    refine w_call rfl rfl ((rows_len (c_reduce (n := n) (m := n) (R := formT p T fo) hv0.hp (by omega) (by omega) (fun i => B8_of (by omega) (formT_Bp (by omega) i)))).mt ⟨mt_fam0 rfl (fun r hr => by show (match famF n (fun _ => n) (formT p T fo) r with | some (sh, c) => some (sh, Am.shift 5000 c) | none => none) = _; rw [famF_at hr]; rfl) (fun _ _ => rfl) (fun _ _ _ _ => rfl), rfl, trivial⟩) (.inl ⟨trivial, ⟨fun _ => trivial, trivial⟩⟩) rfl (by constructor) rfl ?_
    refine w_len_o rfl rfl und78 ?_
    refine w_move (by constructor) ?_
    refine y_call rfl (ec exn) (c_n) ?_
    refine w_eql rfl rfl ?_
    refine w_assign (by constructor) ?_
    exact hRR
  refine snd_ret ?_
  exact rt (T := TB) (fun V => m_bool (decide_eq_decide.2 (by unfold rankT; omega)))
theorem c_l01Frobenius {p : Int} {n : Nat} {T : Nat → Nat → Nat → Int} {fo : Nat → Int} (hv0 : VN p n T fo) : ACalls Try.prog TB 60 [algA p (n : Int) T fo] (.bool (decide (rankT p n T fo = n))) [] := by
  have hp8 := hv0.p0
  have hn6 := hv0.n6
  have hn0 := hv0.n0
  refine acalls_of tokTB Try.func60 rfl rfl (Nat.le_of_ble_eq_true rfl) ?_
  apply sr tokTB (by kernel_rfl)
  · intro RR hRR
    refine w_boxc (HV.eq (by constructor)) (by exact trivial) ?_
    refine w_assign (by constructor) ?_
    exact hRR
  apply sr tokTB (by kernel_rfl)
  · intro RR hRR
    refine w_bsl und78 kn27 (by rw [sz27]; rfl) rfl trivial trivial rfl ?_
    refine w_assign (by constructor) ?_
    exact hRR
  refine snd_seq ?_
  apply sr tokTB (by kernel_rfl)
  · intro RR hRR
    refine w_assign (by constructor) ?_
    exact hRR
  refine snd_block ?_
  refine snd_loop (S := Nat) (fun i => ([(1, .cptr (algA p (n : Int) T fo)), (3, .own 905 0 i 27), (4, .int .i64 (i : Int))], [(905, .one (ZR (i)) (CO 1 (i) ((fun _ => n)) 2)), (1, .many (famF (i) ((fun _ => n)) (formT p T fo)))])) (fun i => i ≤ n) (fun i => n - i) (0) (ρP 905 1 7 912 0) ?_ ?_ ?_
  · exact emb_fam (by decide) (by decide) (by decide) (by decide) rfl (fun j hj => absurd hj (by omega)) (fun h => absurd h (by omega)) (fun h => absurd h (by omega)) (fun r hr => absurd hr (by omega)) ⟨m_calg, (by first | exact ⟨rfl, rfl, rfl, rfl⟩ | exact ⟨rfl, by omega, rfl, rfl⟩), (mi), trivial⟩
  · exact Nat.zero_le _
  intro i hi0
  refine sq (env2 := [(1, .cptr (algA p (n : Int) T fo)), (3, .own 905 0 i 27), (4, .int .i64 (i : Int))]) (ol2 := [(905, .one (ZR (i)) (CO 1 (i) ((fun _ => n)) 2)), (1, .many (famF (i) ((fun _ => n)) (formT p T fo)))]) rfl rfl ?_
  refine snd_seq ?_
  apply sr tokTB (by kernel_rfl)
  · intro RR hRR
    refine w_move (by constructor) ?_
    refine w_fac rfl und34 rfl kn2 nz2 (by decide) rfl (by constructor) ?_
    refine w_ldc rfl kn2 (by constructor) (by exact sz2.symm) (by exact ag2.symm) ?_
    refine w_lss rfl rfl ?_
    exact hRR
  refine snd_cond _ rfl (fun hc11 => ?_) (fun hc11 => ?_)
  · try simp only [hcs] at hc11
    have lt_i : i < n := by omega
    refine snd_skip ?_
    refine snd_seq ?_
    refine snd_block ?_
    apply sr tokTB (by kernel_rfl)
    · intro RR hRR
      refine w_bsl und27 kn2 (by rw [sz2]; rfl) rfl trivial trivial rfl ?_
      refine w_assign (by constructor) ?_
      exact hRR
    refine snd_seq ?_
    apply sr tokTB (by kernel_rfl)
    · intro RR hRR
      refine w_assign (by constructor) ?_
      exact hRR
    refine snd_block ?_
    refine snd_loop (S := Nat) (fun j => ([(1, .cptr (algA p (n : Int) T fo)), (3, .own 905 0 i 27), (4, .int .i64 (i : Int)), (5, .own 909 0 j 2), (6, .int .i64 (j : Int))], [(905, .one (ZR (i)) (CO 1 (i) ((fun _ => n)) 2)), (1, .many (famF (i) ((fun _ => n)) (formT p T fo))), (909, .one (Z64 j) (C64 j (formT p T fo i)))])) (fun j => j ≤ n) (fun j => n - j) (0) (ρQ 905 1 905 912 i 909 14) ?_ ?_ ?_
    · exact emb_fam1 (by decide) (by decide) (by decide) (by decide) (by decide) (by decide) (by decide) (by decide) (by decide) rfl (fun j hj hne => rfl) (fun h => absurd h (by omega)) (fun h => absurd h (by omega)) (fun r hr hne => famF_at (c := i) (w := (fun _ => n)) (F := formT p T fo) (by omega)) ⟨_, rfl, ⟨rfl, fun _ => trivial⟩, fun V => mt_arr0⟩ ⟨m_calg, (by first | exact ⟨rfl, rfl, rfl, rfl⟩ | exact ⟨rfl, by omega, rfl, rfl⟩), (mi), (by first | exact ⟨rfl, rfl, rfl, rfl⟩ | exact ⟨rfl, by omega, rfl, rfl⟩), (mi), trivial⟩
    · exact Nat.zero_le _
    intro j hi2
    refine sq (env2 := [(1, .cptr (algA p (n : Int) T fo)), (3, .own 905 0 i 27), (4, .int .i64 (i : Int)), (5, .own 909 0 j 2), (6, .int .i64 (j : Int))]) (ol2 := [(905, .one (ZR (i)) (CO 1 (i) ((fun _ => n)) 2)), (1, .many (famF (i) ((fun _ => n)) (formT p T fo))), (909, .one (Z64 j) (C64 j (formT p T fo i)))]) rfl rfl ?_
    refine snd_seq ?_
    apply sr tokTB (by kernel_rfl)
    · intro RR hRR
      refine w_move (by constructor) ?_
      refine w_fac rfl und34 rfl kn2 nz2 (by decide) rfl (by constructor) ?_
      refine w_ldc rfl kn2 (by constructor) (by exact sz2.symm) (by exact ag2.symm) ?_
      refine w_lss rfl rfl ?_
      exact hRR
    refine snd_cond _ rfl (fun hc18 => ?_) (fun hc18 => ?_)
    · try simp only [hcs] at hc18
      have lt_j : j < n := by omega
      refine snd_skip ?_
      refine snd_seq ?_
      refine snd_block ?_
      apply ld tokTB mixed (by kernel_rfl) (by kernel_rfl)
      · intro RR hRR
        refine w_move (by constructor) ?_
        refine w_ldc rfl kn34 (by constructor) (by exact sz34.symm) (by exact ag34.symm) ?_
        refine w_move (by constructor) ?_
        refine w_move (by constructor) ?_
        refine w_fac rfl und34 rfl kn24 nz24 (by decide) rfl (by constructor) ?_
        refine w_iac rfl rfl und24 kn23 (by exact sz23.symm) ?_ rfl ?_
        · exact ⟨by omega, by omega⟩
        refine w_iac rfl rfl und23 kn22 (by exact sz22.symm) ?_ rfl ?_
        · exact ⟨by omega, by omega⟩
        refine w_ldc rfl kn22 (by constructor) (by exact sz22.symm) (by exact ag22.symm) ?_
        refine y_call rfl (ec (ec exn)) (c_l01Form (v := T i j) (by omega) hv0.f8 (hv0.T8 i j)) ?_
        refine w_bsl1 und27 kn2 (by rw [sz2]; rfl) rfl (by constructor) (by first | exact trivial | exact cel_cap2) (by exact sz2.symm) (by first | exact trivial | exact ssh_vec | exact ⟨rfl, fun _ => trivial⟩) ?_
        refine w_app_o und27 rfl rfl kn2 rfl rfl (fun C h => ⟨rfl, rfl, rfl, h⟩) (by rw [by2]; omega) (by omega) rfl ?_
        refine w_assign (by constructor) ?_
        exact hRR
      apply lr tokTB (by kernel_rfl)
      · intro RR hRR
        refine w_move (by constructor) ?_
        refine y_add rfl rfl ?_
        refine w_assign (by constructor) ?_
        exact hRR
      refine ⟨j + 1, (ρQ 905 1 905 912 i 909 31), ?_, (by omega), (by dsimp only; omega)⟩
      exact emb_fam1 (by decide) (by decide) (by decide) (by decide) (by decide) (by decide) (by decide) (by decide) (by decide) rfl (fun j hj hne => rfl) (fun h => absurd h (by omega)) (fun h => absurd h (by omega)) (fun r hr hne => famF_at (c := i) (w := (fun _ => n)) (F := formT p T fo) (by omega)) ⟨_, rfl, ⟨rfl, fun _ => trivial⟩, fun V => mt_app (fun _ _ => rfl) rfl⟩ ⟨m_calg, (by first | exact ⟨rfl, rfl, rfl, rfl⟩ | exact ⟨rfl, by omega, rfl, rfl⟩), (mi), (by first | exact ⟨rfl, rfl, rfl, rfl⟩ | exact ⟨rfl, by omega, rfl, rfl⟩), (mi), trivial⟩
    · try simp only [hcs] at hc18
      have ge_j : n = j := by omega
      subst ge_j
      refine snd_exit ?_
      apply lr tokTB (by kernel_rfl)
      · intro RR hRR
        refine w_move (by constructor) ?_
        refine w_move (by constructor) ?_
        refine w_bsl1 und78 kn27 (by rw [sz27]; rfl) rfl (by constructor) (by first | exact trivial | exact cel_cap2) (by exact sz27.symm) (by first | exact trivial | exact ssh_vec | exact ⟨rfl, fun _ => trivial⟩) ?_
        refine w_app_o und78 rfl rfl kn27 rfl rfl (fun C h => ⟨rfl, rfl, rfl, h⟩) (by rw [by27]; omega) (by omega) rfl ?_
        refine w_assign (by constructor) ?_
        exact hRR
      apply lr tokTB (by kernel_rfl)
      · intro RR hRR
        refine w_move (by constructor) ?_
        refine y_add rfl rfl ?_
        refine w_assign (by constructor) ?_
        exact hRR
      refine ⟨i + 1, (ρP 905 1 35 909 i), ?_, (by omega), (by dsimp only; omega)⟩
      exact emb_fam (by decide) (by decide) (by decide) (by decide) rfl (fun j hj hne => appF_lt (by omega)) (fun h => (appF_ge (Nat.le_refl _) (by omega)).trans (by rw [Nat.sub_self]; rfl)) (fun h => ⟨_, rfl, fun V => mt_vec (fun j hj => rfl)⟩) (fun r hr hne => famF_at (c := i) (w := (fun _ => n)) (F := formT p T fo) (by omega)) ⟨m_calg, (by first | exact ⟨rfl, rfl, rfl, rfl⟩ | exact ⟨rfl, by omega, rfl, rfl⟩), (mi), trivial⟩
  · try simp only [hcs] at hc11
    have ge_i : n = i := by omega
    subst ge_i
    refine snd_exit ?_
    apply sd tokTB mixed (by kernel_rfl) (by kernel_rfl)
    · intro RR hRR
      refine w_fac rfl und34 rfl kn2 nz2 (by decide) rfl (by constructor) ?_
      refine w_ldc rfl kn2 (by constructor) (by exact sz2.symm) (by exact ag2.symm) ?_
      refine w_move (by constructor) ?_
      refine w_call rfl rfl ((rows_len (c_l01Echelon (n := n) (m := n) (R := formT p T fo) hv0.hp (by omega) (by omega) hn0 (fun i => formT_Bp (by omega) i))).mt ⟨rfl, mt_fam0 rfl (fun r hr => famF_at (w := fun _ => n) (F := formT p T fo) hr) (fun _ _ => rfl) (fun _ _ _ _ => rfl), trivial⟩) (.inl ⟨trivial, ⟨fun _ => trivial, trivial⟩⟩) rfl (by constructor) rfl ?_
      refine w_len_o rfl rfl und78 ?_
      refine w_fac rfl und34 rfl kn2 nz2 (by decide) rfl (by constructor) ?_
      refine w_ldc rfl kn2 (by constructor) (by exact sz2.symm) (by exact ag2.symm) ?_
      refine w_eql rfl rfl ?_
      refine w_assign (by constructor) ?_
      exact hRR
    refine snd_ret ?_
    exact rt (T := TB) (fun V => m_bool (decide_eq_decide.2 (by rw [rank_ech hv0.hp]; omega)))
end Go.Am

set_option linter.unusedVariables false
set_option linter.unusedSimpArgs false
set_option maxRecDepth 4000
namespace Go.Am
attribute [local irreducible] retQ retQp
open Go.Proofs
theorem c_l02Table {p : Int} {n : Nat} {T : Nat → Nat → Nat → Int} {fo : Nat → Int} (hv0 : VN p n T fo) : ACalls Try.prog TB 142 [algA p (n : Int) T fo] (.own 0 0 n 27) [(0, .one (ZR n) (CO 1 n (fun _ => n) 2)), (1, .many (famF n (fun _ => n) (formT p T fo)))] := by
  have hp8 := hv0.p0
  have hn6 := hv0.n6
  have hn0 := hv0.n0
  refine acalls_of tokTB Try.func142 rfl rfl (Nat.le_of_ble_eq_true rfl) ?_
  apply sr tokTB (by kernel_rfl)
  · intro RR hRR
    refine w_boxc (HV.eq (by constructor)) (by exact trivial) ?_
    refine w_assign (by constructor) ?_
    exact hRR
  apply sr tokTB (by kernel_rfl)
  · intro RR hRR
    refine w_bsl und78 kn27 (by rw [sz27]; rfl) rfl trivial trivial rfl ?_
    refine w_assign (by constructor) ?_
    exact hRR
  refine snd_seq ?_
  apply sr tokTB (by kernel_rfl)
  · intro RR hRR
    refine w_assign (by constructor) ?_
    exact hRR
  refine snd_block ?_
  refine snd_loop (S := Nat) (fun i => ([(1, .cptr (algA p (n : Int) T fo)), (3, .own 905 0 i 27), (4, .int .i64 (i : Int))], [(905, .one (ZR (i)) (CO 1 (i) ((fun _ => n)) 2)), (1, .many (famF (i) ((fun _ => n)) (formT p T fo)))])) (fun i => i ≤ n) (fun i => n - i) (0) (ρP 905 1 7 912 0) ?_ ?_ ?_
  · exact emb_fam (by decide) (by decide) (by decide) (by decide) rfl (fun j hj => absurd hj (by omega)) (fun h => absurd h (by omega)) (fun h => absurd h (by omega)) (fun r hr => absurd hr (by omega)) ⟨m_calg, (by first | exact ⟨rfl, rfl, rfl, rfl⟩ | exact ⟨rfl, by omega, rfl, rfl⟩), (mi), trivial⟩
  · exact Nat.zero_le _
  intro i hi0
  refine sq (env2 := [(1, .cptr (algA p (n : Int) T fo)), (3, .own 905 0 i 27), (4, .int .i64 (i : Int))]) (ol2 := [(905, .one (ZR (i)) (CO 1 (i) ((fun _ => n)) 2)), (1, .many (famF (i) ((fun _ => n)) (formT p T fo)))]) rfl rfl ?_
  refine snd_seq ?_
  apply sr tokTB (by kernel_rfl)
  · intro RR hRR
    refine w_move (by constructor) ?_
    refine w_fac rfl und34 rfl kn2 nz2 (by decide) rfl (by constructor) ?_
    refine w_ldc rfl kn2 (by constructor) (by exact sz2.symm) (by exact ag2.symm) ?_
    refine w_lss rfl rfl ?_
    exact hRR
  refine snd_cond _ rfl (fun hc11 => ?_) (fun hc11 => ?_)
  · try simp only [hcs] at hc11
    have lt_i : i < n := by omega
    refine snd_skip ?_
    refine snd_seq ?_
    refine snd_block ?_
    apply sr tokTB (by kernel_rfl)
    · intro RR hRR
      refine w_bsl und27 kn2 (by rw [sz2]; rfl) rfl trivial trivial rfl ?_
      refine w_assign (by constructor) ?_
      exact hRR
    refine snd_seq ?_
    apply sr tokTB (by kernel_rfl)
    · intro RR hRR
      refine w_assign (by constructor) ?_
      exact hRR
    refine snd_block ?_
    refine snd_loop (S := Nat) (fun j => ([(1, .cptr (algA p (n : Int) T fo)), (3, .own 905 0 i 27), (4, .int .i64 (i : Int)), (5, .own 909 0 j 2), (6, .int .i64 (j : Int))], [(905, .one (ZR (i)) (CO 1 (i) ((fun _ => n)) 2)), (1, .many (famF (i) ((fun _ => n)) (formT p T fo))), (909, .one (Z64 j) (C64 j (formT p T fo i)))])) (fun j => j ≤ n) (fun j => n - j) (0) (ρQ 905 1 905 912 i 909 14) ?_ ?_ ?_
    · exact emb_fam1 (by decide) (by decide) (by decide) (by decide) (by decide) (by decide) (by decide) (by decide) (by decide) rfl (fun j hj hne => rfl) (fun h => absurd h (by omega)) (fun h => absurd h (by omega)) (fun r hr hne => famF_at (c := i) (w := (fun _ => n)) (F := formT p T fo) (by omega)) ⟨_, rfl, ⟨rfl, fun _ => trivial⟩, fun V => mt_arr0⟩ ⟨m_calg, (by first | exact ⟨rfl, rfl, rfl, rfl⟩ | exact ⟨rfl, by omega, rfl, rfl⟩), (mi), (by first | exact ⟨rfl, rfl, rfl, rfl⟩ | exact ⟨rfl, by omega, rfl, rfl⟩), (mi), trivial⟩
    · exact Nat.zero_le _
    intro j hi2
    refine sq (env2 := [(1, .cptr (algA p (n : Int) T fo)), (3, .own 905 0 i 27), (4, .int .i64 (i : Int)), (5, .own 909 0 j 2), (6, .int .i64 (j : Int))]) (ol2 := [(905, .one (ZR (i)) (CO 1 (i) ((fun _ => n)) 2)), (1, .many (famF (i) ((fun _ => n)) (formT p T fo))), (909, .one (Z64 j) (C64 j (formT p T fo i)))]) rfl rfl ?_
    refine snd_seq ?_
    apply sr tokTB (by kernel_rfl)
    · intro RR hRR
      refine w_move (by constructor) ?_
      refine w_fac rfl und34 rfl kn2 nz2 (by decide) rfl (by constructor) ?_
      refine w_ldc rfl kn2 (by constructor) (by exact sz2.symm) (by exact ag2.symm) ?_
      refine w_lss rfl rfl ?_
      exact hRR
    refine snd_cond _ rfl (fun hc18 => ?_) (fun hc18 => ?_)
    · try simp only [hcs] at hc18
      have lt_j : j < n := by omega
      refine snd_skip ?_
      refine snd_seq ?_
      refine snd_block ?_
      apply ld tokTB mixed (by kernel_rfl) (by kernel_rfl)
      · intro RR hRR
        refine w_move (by constructor) ?_
        refine w_ldc rfl kn34 (by constructor) (by exact sz34.symm) (by exact ag34.symm) ?_
        refine w_ldc rfl kn34 (by constructor) (by exact sz34.symm) (by exact ag34.symm) ?_
        refine w_move (by constructor) ?_
        refine y_call rfl (ec exn) (c_l01Basis (i := i) (by omega)) ?_
        refine w_move (by constructor) ?_
        refine y_call rfl (ec exn) (c_l01Basis (i := j) (by omega)) ?_
        refine y_call rfl (ec (ec (ec exn))) ((hv0.ee (i := i) (j := j) (by omega) (by omega)) ▸ (c_l01Times (u := eF i) (v := eF j) (by omega) (by omega) hv0.n6 hv0.T8 (eF_B8 i) (eF_B8 j))) ?_
        refine y_call rfl (ec (ec exn)) (c_l01Form (v := T i j) (by omega) hv0.f8 (hv0.T8 i j)) ?_
        refine w_bsl1 und27 kn2 (by rw [sz2]; rfl) rfl (by constructor) (by first | exact trivial | exact cel_cap2) (by exact sz2.symm) (by first | exact trivial | exact ssh_vec | exact ⟨rfl, fun _ => trivial⟩) ?_
        refine w_app_o und27 rfl rfl kn2 rfl rfl (fun C h => ⟨rfl, rfl, rfl, h⟩) (by rw [by2]; omega) (by omega) rfl ?_
        refine w_assign (by constructor) ?_
        exact hRR
      apply lr tokTB (by kernel_rfl)
      · intro RR hRR
        refine w_move (by constructor) ?_
        refine y_add rfl rfl ?_
        refine w_assign (by constructor) ?_
        exact hRR
      refine ⟨j + 1, (ρQ 905 1 905 912 i 909 31), ?_, (by omega), (by dsimp only; omega)⟩
      exact emb_fam1 (by decide) (by decide) (by decide) (by decide) (by decide) (by decide) (by decide) (by decide) (by decide) rfl (fun j hj hne => rfl) (fun h => absurd h (by omega)) (fun h => absurd h (by omega)) (fun r hr hne => famF_at (c := i) (w := (fun _ => n)) (F := formT p T fo) (by omega)) ⟨_, rfl, ⟨rfl, fun _ => trivial⟩, fun V => mt_app (fun _ _ => rfl) rfl⟩ ⟨m_calg, (by first | exact ⟨rfl, rfl, rfl, rfl⟩ | exact ⟨rfl, by omega, rfl, rfl⟩), (mi), (by first | exact ⟨rfl, rfl, rfl, rfl⟩ | exact ⟨rfl, by omega, rfl, rfl⟩), (mi), trivial⟩
    · try simp only [hcs] at hc18
      have ge_j : n = j := by omega
      subst ge_j
      refine snd_exit ?_
      apply lr tokTB (by kernel_rfl)
      · intro RR hRR
        refine w_move (by constructor) ?_
        refine w_move (by constructor) ?_
        refine w_bsl1 und78 kn27 (by rw [sz27]; rfl) rfl (by constructor) (by first | exact trivial | exact cel_cap2) (by exact sz27.symm) (by first | exact trivial | exact ssh_vec | exact ⟨rfl, fun _ => trivial⟩) ?_
        refine w_app_o und78 rfl rfl kn27 rfl rfl (fun C h => ⟨rfl, rfl, rfl, h⟩) (by rw [by27]; omega) (by omega) rfl ?_
        refine w_assign (by constructor) ?_
        exact hRR
      apply lr tokTB (by kernel_rfl)
      · intro RR hRR
        refine w_move (by constructor) ?_
        refine y_add rfl rfl ?_
        refine w_assign (by constructor) ?_
        exact hRR
      refine ⟨i + 1, (ρP 905 1 35 909 i), ?_, (by omega), (by dsimp only; omega)⟩
      exact emb_fam (by decide) (by decide) (by decide) (by decide) rfl (fun j hj hne => appF_lt (by omega)) (fun h => (appF_ge (Nat.le_refl _) (by omega)).trans (by rw [Nat.sub_self]; rfl)) (fun h => ⟨_, rfl, fun V => mt_vec (fun j hj => rfl)⟩) (fun r hr hne => famF_at (c := i) (w := (fun _ => n)) (F := formT p T fo) (by omega)) ⟨m_calg, (by first | exact ⟨rfl, rfl, rfl, rfl⟩ | exact ⟨rfl, by omega, rfl, rfl⟩), (mi), trivial⟩
  · try simp only [hcs] at hc11
    have ge_i : n = i := by omega
    subst ge_i
    refine snd_exit ?_
    apply sr tokTB (by kernel_rfl)
    · intro RR hRR
      refine w_move (by constructor) ?_
      refine w_assign (by constructor) ?_
      exact hRR
    refine snd_ret ?_
    show retQ TB _ _ _ _ _ _
    exact rt_fam (T := TB) (a := 905) rfl (by decide) rfl rfl (fun r hr => famF_at (c := n) (w := fun _ => n) (F := formT p T fo) hr)
end Go.Am

set_option linter.unusedVariables false
set_option linter.unusedSimpArgs false
set_option maxRecDepth 4000
namespace Go.Am
attribute [local irreducible] retQ retQp
open Go.Proofs
theorem c_eqInt64S {m : Nat} {f g : Nat → Int} (hm : m ≤ 1000) (h : ∀ j, j < m → f j = g j) : ACalls Try.prog TB 52 [rowA m f, rowA m g] (.bool true) [] := by
  refine acalls_of tokTB Try.func52 rfl rfl (Nat.le_of_ble_eq_true rfl) ?_
  apply sr tokTB (by kernel_rfl)
  · intro RR hRR
    refine w_assign (by constructor) ?_
    exact hRR
  refine snd_seq ?_
  apply sr tokTB (by kernel_rfl)
  · intro RR hRR
    refine w_move (by constructor) ?_
    refine w_len_r rfl rfl und27 ?_
    refine w_move (by constructor) ?_
    refine w_len_r rfl rfl und27 ?_
    refine w_neq rfl rfl ?_
    exact hRR
  refine snd_cond_false (by exact congrArg AV.bool (decide_eq_false (by simp))) ?_
  refine snd_skip ?_
  refine snd_seq ?_
  apply sr tokTB (by kernel_rfl)
  · intro RR hRR
    refine w_assign (by constructor) ?_
    exact hRR
  refine snd_block ?_
  refine snd_loop (S := Nat) (fun i => ([(0, rowA m f), (1, rowA m g), (5, .int .i64 (i : Int))], [])) (fun i => i ≤ m) (fun i => m - i) (0) ρ0 ?_ ?_ ?_
  · exact ⟨⟨(by first | exact mt_row (V := _) (fun _ _ => rfl) | exact mt_fz (by exact trivial) rfl (fun _ _ => rfl)), (by first | exact mt_row (V := _) (fun _ _ => rfl) | exact mt_fz (by exact trivial) rfl (fun _ _ => rfl)), (mi), trivial⟩, trivial, trivial⟩
  · exact Nat.zero_le _
  intro i hi0
  refine sq (env2 := [(0, rowA m f), (1, rowA m g), (5, .int .i64 (i : Int))]) (ol2 := []) rfl rfl ?_
  refine snd_seq ?_
  apply sr tokTB (by kernel_rfl)
  · intro RR hRR
    refine w_move (by constructor) ?_
    refine w_move (by constructor) ?_
    refine w_len_r rfl rfl und27 ?_
    refine w_lss rfl rfl ?_
    exact hRR
  refine snd_cond _ rfl (fun hc14 => ?_) (fun hc14 => ?_)
  · try simp only [hcs] at hc14
    have lt_i : i < m := by omega
    refine snd_skip ?_
    refine snd_seq ?_
    refine snd_block ?_
    apply sd tokTB mixed (by kernel_rfl) (by kernel_rfl)
    · intro RR hRR
      refine w_move (by constructor) ?_
      refine w_move (by constructor) ?_
      refine w_iar rfl rfl und27 kn2 (by exact sz2.symm) ?_ rfl ?_
      · exact ⟨by omega, by omega⟩
      first | refine w_ldc rfl kn2 (by constructor) (by exact sz2.symm) (by exact ag2.symm) ?_ | refine w_ldp rfl kn2 rfl (by constructor) (by exact sz2.symm) (by exact ag2.symm) ?_
      refine w_move (by constructor) ?_
      refine w_move (by constructor) ?_
      refine w_iar rfl rfl und27 kn2 (by exact sz2.symm) ?_ rfl ?_
      · exact ⟨by omega, by omega⟩
      first | refine w_ldc rfl kn2 (by constructor) (by exact sz2.symm) (by exact ag2.symm) ?_ | refine w_ldp rfl kn2 rfl (by constructor) (by exact sz2.symm) (by exact ag2.symm) ?_
      refine w_neq rfl rfl ?_
      exact hRR
    refine snd_cond _ rfl (fun hc25 => ?_) (fun hc25 => ?_)
    · skip
      exact absurd (h i (by omega)) (of_decide_eq_true hc25)
    · skip
      refine snd_skip ?_
      apply lr tokTB (by kernel_rfl)
      · intro RR hRR
        refine w_move (by constructor) ?_
        refine y_add rfl rfl ?_
        refine w_assign (by constructor) ?_
        exact hRR
      refine ⟨i + 1, ρ0, ?_, (by omega), (by dsimp only; omega)⟩
      exact ⟨⟨(by first | exact mt_row (V := _) (fun _ _ => rfl) | exact mt_fz (by exact trivial) rfl (fun _ _ => rfl)), (by first | exact mt_row (V := _) (fun _ _ => rfl) | exact mt_fz (by exact trivial) rfl (fun _ _ => rfl)), (mi), trivial⟩, trivial, trivial⟩
  · try simp only [hcs] at hc14
    have ge_i : m = i := by omega
    subst ge_i
    refine snd_exit ?_
    apply sr tokTB (by kernel_rfl)
    · intro RR hRR
      refine w_assign (by constructor) ?_
      exact hRR
    refine snd_ret ?_
    exact rt (T := TB) (fun V => rfl)
theorem c_markInt64S {m : Nat} {f : Nat → Int} {k : Int} (hm : m ≤ 1000) (hk : 0 ≤ k ∧ k ≤ 1000000) : MCalls Try.prog TB 53 [0] [.own 0 0 m 2, .int .i64 k] [(0, .one (Z64 m) (C64 m f))] (.int .i64 (k + m)) [(0, .one (Z64 m) (C64 m (fun j => k + (j : Nat))))] := by
  refine mcalls_of tokTB Try.func53 rfl rfl (Nat.le_of_ble_eq_true rfl) ⟨rfl, trivial⟩ ?_
  apply srp tokTB (by kernel_rfl)
  · intro RR hRR
    refine w_assign (by constructor) ?_
    exact hRR
  refine snp_seq ?_
  apply srp tokTB (by kernel_rfl)
  · intro RR hRR
    refine w_assign (by constructor) ?_
    exact hRR
  refine snp_block ?_
  refine snp_loop (S := Nat) (fun i => ([(0, .own 0 0 m 2), (1, .int .i64 (k + (i : Nat))), (5, .int .i64 (i : Int))], [(0, .one (Z64 m) (C64 m (mixF (fun j => k + (j : Nat)) f i)))])) (fun i => i ≤ m) (fun i => m - i) (0) ρ0 ?_ ?_ ?_
  · exact ⟨⟨⟨(by first | exact ⟨rfl, rfl, rfl, rfl⟩ | exact ⟨rfl, by omega, rfl, rfl⟩), (mi), (mi), trivial⟩, ⟨⟨rfl, (sx), (by exact mt_vec (fun z _ => by simp [mixF]))⟩, trivial⟩, ⟨⟨(fun h => by first | exact ⟨rfl, rfl⟩ | exact absurd h (by decide)), trivial⟩, trivial⟩⟩, ⟨⟨fun _ => rfl, rfl⟩, trivial⟩⟩
  · exact Nat.zero_le _
  intro i hi0
  refine sqp (env2 := [(0, .own 0 0 m 2), (1, .int .i64 (k + (i : Nat))), (5, .int .i64 (i : Int))]) (ol2 := [(0, .one (Z64 m) (C64 m (mixF (fun j => k + (j : Nat)) f i)))]) rfl rfl ?_
  refine snp_seq ?_
  apply srp tokTB (by kernel_rfl)
  · intro RR hRR
    refine w_move (by constructor) ?_
    refine w_move (by constructor) ?_
    refine w_len_o rfl rfl und27 ?_
    refine w_lss rfl rfl ?_
    exact hRR
  refine snp_cond _ rfl (fun hc9 => ?_) (fun hc9 => ?_)
  · try simp only [hcs] at hc9
    have lt_i : i < m := by omega
    refine snp_skip ?_
    refine snp_seq ?_
    refine snp_block ?_
    apply srp tokTB (by kernel_rfl)
    · intro RR hRR
      refine w_move (by constructor) ?_
      refine w_move (by constructor) ?_
      refine w_move (by constructor) ?_
      refine w_iao rfl rfl und27 kn2 ?_ ?_
      · exact ⟨by omega, by omega⟩
      first | refine w_stw rfl (by constructor) kn2 rfl (by exact trivial) (sx) (by exact sz2.symm) ?_ | refine w_sti rfl rfl kn2 rfl (by exact trivial) (by exact sz2.symm) ?_ | refine w_store rfl (HV.eq (by constructor)) kn2 rfl (by exact trivial) (sx) (by exact sz2.symm) (put_in (by first | exact put_mat | exact put_tab | exact put_alg0 | exact put_pr0 | exact put_pr1 | exact put_pr2 | exact put_alg1 | exact put_alg2 | exact put_alg3 | exact put_alg3i | exact put_alg2ij | exact put_alg2ijk | exact put_mat2 | exact put_tab2 | exact put_tab3)) ?_ | refine w_store rfl (HV.eq (by constructor)) kn2 rfl (by exact trivial) (by exact trivial) (by exact sz2.symm) rfl ?_
      exact hRR
    apply lrp tokTB (by kernel_rfl)
    · intro RR hRR
      refine w_move (by constructor) ?_
      refine w_add rfl rfl (by exact w64 (by omega) (by omega)) ?_
      refine w_assign (by constructor) ?_
      exact hRR
    apply lrp tokTB (by kernel_rfl)
    · intro RR hRR
      refine w_move (by constructor) ?_
      refine y_add rfl rfl ?_
      refine w_assign (by constructor) ?_
      exact hRR
    refine ⟨i + 1, ρ0, ?_, (by omega), (by dsimp only; omega)⟩
    exact ⟨⟨⟨(by first | exact ⟨rfl, rfl, rfl, rfl⟩ | exact ⟨rfl, by omega, rfl, rfl⟩), (mi), (mi), trivial⟩, ⟨⟨rfl, (sx), (by exact mt_vec (fun z _ => upd_mix _ _ i z))⟩, trivial⟩, ⟨⟨(fun h => by first | exact ⟨rfl, rfl⟩ | exact absurd h (by decide)), trivial⟩, trivial⟩⟩, ⟨⟨fun _ => rfl, rfl⟩, trivial⟩⟩
  · try simp only [hcs] at hc9
    have ge_i : m = i := by omega
    subst ge_i
    refine snp_exit ?_
    apply srp tokTB (by kernel_rfl)
    · intro RR hRR
      refine w_move (by constructor) ?_
      refine w_assign (by constructor) ?_
      exact hRR
    refine snp_ret ?_
    exact rtp (ρ := ρ0) ⟨⟨m_int rfl, trivial⟩, ⟨⟨rfl, ⟨rfl, fun _ => trivial⟩, mt_vec (fun z hz => by simp [mixF, hz])⟩, trivial⟩, ⟨⟨fun _ => ⟨rfl, rfl⟩, trivial⟩, trivial⟩⟩ ⟨⟨fun _ => rfl, rfl⟩, trivial⟩
theorem c_heldInt64S {m : Nat} {f : Nat → Int} {k : Int} (hm : m ≤ 1000) (hk : 0 ≤ k ∧ k ≤ 1000000) (h : ∀ j, j < m → f j = k + (j : Nat)) : ACalls Try.prog TB 54 [rowA m f, .int .i64 k] (.int .i64 (k + m)) [] := by
  refine acalls_of tokTB Try.func54 rfl rfl (Nat.le_of_ble_eq_true rfl) ?_
  apply sr tokTB (by kernel_rfl)
  · intro RR hRR
    refine w_assign (by constructor) ?_
    exact hRR
  refine snd_seq ?_
  apply sr tokTB (by kernel_rfl)
  · intro RR hRR
    refine w_assign (by constructor) ?_
    exact hRR
  refine snd_block ?_
  refine snd_loop (S := Nat) (fun i => ([(0, rowA m f), (1, .int .i64 (k + (i : Nat))), (5, .int .i64 (i : Int))], [])) (fun i => i ≤ m) (fun i => m - i) (0) ρ0 ?_ ?_ ?_
  · exact ⟨⟨(by first | exact mt_row (V := _) (fun _ _ => rfl) | exact mt_fz (by exact trivial) rfl (fun _ _ => rfl)), (mi), (mi), trivial⟩, trivial, trivial⟩
  · exact Nat.zero_le _
  intro i hi0
  refine sq (env2 := [(0, rowA m f), (1, .int .i64 (k + (i : Nat))), (5, .int .i64 (i : Int))]) (ol2 := []) rfl rfl ?_
  refine snd_seq ?_
  apply sr tokTB (by kernel_rfl)
  · intro RR hRR
    refine w_move (by constructor) ?_
    refine w_move (by constructor) ?_
    refine w_len_r rfl rfl und27 ?_
    refine w_lss rfl rfl ?_
    exact hRR
  refine snd_cond _ rfl (fun hc9 => ?_) (fun hc9 => ?_)
  · try simp only [hcs] at hc9
    have lt_i : i < m := by omega
    refine snd_skip ?_
    refine snd_seq ?_
    refine snd_block ?_
    refine snd_seq ?_
    apply sr tokTB (by kernel_rfl)
    · intro RR hRR
      refine w_move (by constructor) ?_
      refine w_move (by constructor) ?_
      refine w_iar rfl rfl und27 kn2 (by exact sz2.symm) ?_ rfl ?_
      · exact ⟨by omega, by omega⟩
      first | refine w_ldc rfl kn2 (by constructor) (by exact sz2.symm) (by exact ag2.symm) ?_ | refine w_ldp rfl kn2 rfl (by constructor) (by exact sz2.symm) (by exact ag2.symm) ?_
      refine w_move (by constructor) ?_
      refine w_neq rfl rfl ?_
      exact hRR
    refine snd_cond _ rfl (fun hc17 => ?_) (fun hc17 => ?_)
    · skip
      exact absurd (h i (by omega)) (of_decide_eq_true hc17)
    · skip
      refine snd_skip ?_
      apply lr tokTB (by kernel_rfl)
      · intro RR hRR
        refine w_move (by constructor) ?_
        refine w_add rfl rfl (by exact w64 (by omega) (by omega)) ?_
        refine w_assign (by constructor) ?_
        exact hRR
      apply lr tokTB (by kernel_rfl)
      · intro RR hRR
        refine w_move (by constructor) ?_
        refine y_add rfl rfl ?_
        refine w_assign (by constructor) ?_
        exact hRR
      refine ⟨i + 1, ρ0, ?_, (by omega), (by dsimp only; omega)⟩
      exact ⟨⟨(by first | exact mt_row (V := _) (fun _ _ => rfl) | exact mt_fz (by exact trivial) rfl (fun _ _ => rfl)), (mi), (mi), trivial⟩, trivial, trivial⟩
  · try simp only [hcs] at hc9
    have ge_i : m = i := by omega
    subst ge_i
    refine snd_exit ?_
    apply sr tokTB (by kernel_rfl)
    · intro RR hRR
      refine w_move (by constructor) ?_
      refine w_assign (by constructor) ?_
      exact hRR
    refine snd_ret ?_
    exact rt (T := TB) (fun V => rfl)
theorem c_markNilInt64S {k : Int} : ACalls Try.prog TB 53 [.nilsl, .int .i64 k] (.int .i64 k) [] := by
  refine acalls_of tokTB Try.func53 rfl rfl (Nat.le_of_ble_eq_true rfl) ?_
  apply sr tokTB (by kernel_rfl)
  · intro RR hRR
    refine w_assign (by constructor) ?_
    exact hRR
  refine snd_seq ?_
  apply sr tokTB (by kernel_rfl)
  · intro RR hRR
    refine w_assign (by constructor) ?_
    exact hRR
  refine snd_block ?_
  refine snd_loop (S := Nat) (fun i => ([(0, .nilsl), (1, .int .i64 k), (5, .int .i64 (i : Int))], [])) (fun i => i ≤ 0) (fun i => 0 - i) (0) ρ0 ?_ ?_ ?_
  · exact ⟨⟨rfl, (mi), (mi), trivial⟩, trivial, trivial⟩
  · exact Nat.zero_le _
  intro i hi0
  refine sq (env2 := [(0, .nilsl), (1, .int .i64 k), (5, .int .i64 (i : Int))]) (ol2 := []) rfl rfl ?_
  refine snd_seq ?_
  apply sr tokTB (by kernel_rfl)
  · intro RR hRR
    refine w_move (by constructor) ?_
    refine w_move (by constructor) ?_
    refine w_len_n rfl rfl und27 ?_
    refine w_lss rfl rfl ?_
    exact hRR
  refine snd_cond _ rfl (fun hc9 => ?_) (fun hc9 => ?_)
  · try simp only [hcs] at hc9
    have lt_i : i < 0 := by omega
    omega
  · try simp only [hcs] at hc9
    have ge_i : 0 = i := by omega
    subst ge_i
    refine snd_exit ?_
    apply sr tokTB (by kernel_rfl)
    · intro RR hRR
      refine w_move (by constructor) ?_
      refine w_assign (by constructor) ?_
      exact hRR
    refine snd_ret ?_
    exact rt (T := TB) (fun V => rfl)
end Go.Am

set_option linter.unusedVariables false
set_option linter.unusedSimpArgs false
set_option maxRecDepth 4000
namespace Go.Am
attribute [local irreducible] retQ retQp
open Go.Proofs
theorem c_unitNumber {i j : Nat} : ACalls Try.prog TB 145 [.int .i64 (i : Int), .int .i64 (j : Int)] (.int .i64 (dl i j)) [] := by
  refine acalls_of tokTB Try.func145 rfl rfl (Nat.le_of_ble_eq_true rfl) ?_
  apply sr tokTB (by kernel_rfl)
  · intro RR hRR
    refine w_assign (by constructor) ?_
    exact hRR
  refine snd_seq ?_
  apply sr tokTB (by kernel_rfl)
  · intro RR hRR
    refine w_move (by constructor) ?_
    refine w_move (by constructor) ?_
    refine w_eql rfl rfl ?_
    exact hRR
  refine snd_cond _ rfl (fun hc7 => ?_) (fun hc7 => ?_)
  · try simp only [hcs] at hc7
    apply sr tokTB (by kernel_rfl)
    · intro RR hRR
      refine w_assign (by constructor) ?_
      exact hRR
    refine snd_ret ?_
    exact rt (T := TB) (fun V => m_int (by unfold dl; rw [if_pos (by omega)]))
  · try simp only [hcs] at hc7
    refine snd_skip ?_
    apply sr tokTB (by kernel_rfl)
    · intro RR hRR
      refine w_assign (by constructor) ?_
      exact hRR
    refine snd_ret ?_
    exact rt (T := TB) (fun V => m_int (by unfold dl; rw [if_neg (by omega)]))
theorem c_copairing {p : Int} {n : Nat} {T : Nat → Nat → Nat → Int} {fo : Nat → Int} (hv0 : VN p n T fo) (hr : rankT p n T fo = n) : ACalls Try.prog TB 107 [.cptr (algA p (n : Int) T fo)] (rowsA n n (cpM p n (formT p T fo))) [] := by
  have hp8 := hv0.p0
  have hn6 := hv0.n6
  have hn0 := hv0.n0
  have hFB : ∀ i, Bp p ((formT p T fo) i) := fun i => formT_Bp (by omega) i
  obtain ⟨hno, hO⟩ := au_red hv0.hp hFB hr
  refine acalls_of tokTB Try.func107 rfl rfl (Nat.le_of_ble_eq_true rfl) ?_
  apply sr tokTB (by kernel_rfl)
  · intro RR hRR
    refine w_assign (by constructor) ?_
    exact hRR
  apply sr tokTB (by kernel_rfl)
  · intro RR hRR
    refine w_move (by constructor) ?_
    refine w_call rfl (ec exn) (c_table hv0) (.inl ⟨trivial, ⟨fun _ => trivial, fun i sh c h => (by obtain ⟨_, _, rfl⟩ := famF_some h; exact fun _ => trivial), trivial⟩⟩) rfl (by constructor) rfl ?_
    refine w_assign (by constructor) ?_
    exact hRR
  refine snd_seq ?_
  apply sr tokTB (by kernel_rfl)
  · intro RR hRR
    refine w_move (by constructor) ?_
    refine w_len_o rfl rfl und78 ?_
    refine w_move (by constructor) ?_
    exact hRR
  refine snd_block ?_
  refine snd_loop (S := Nat) (fun i => ([(0, .cptr (algA p (n : Int) T fo)), (3, .own 905 0 n 27), (12, .int .i64 (n : Int)), (13, .int .i64 (i : Int))], [(905, .one (ZR n) (CO 11001 n (fun r => if r < i then n + n else n) 2)), (11001, .many (famF n (fun r => if r < i then n + n else n) (mixG (auS n (formT p T fo)) (formT p T fo) i)))])) (fun i => i ≤ n) (fun i => n - i) (0) (ρ2x 905 11000) ?_ ?_ ?_
  · exact emb_famR (ρ := ρ2x 905 11000) (ko' := 11000) (kf' := 11001) (fun _ => rfl) (fun _ => rfl) (by decide) (by decide) rfl (fun j hj => by show AV.own (11000 + 1) j n _ = _; simp) (fun r hr => ⟨C64 n (formT p T fo r), (fam_sh (w := fun _ => n) (F := formT p T fo) (e := 2) (b := 11000) (ol := []) hr).trans (by simp), fun V => mt_vec (fun z _ => by simp [mixG])⟩) ⟨m_calg, (by first | exact ⟨rfl, rfl, rfl, rfl⟩ | exact ⟨rfl, by omega, rfl, rfl⟩), (mi), (mi), trivial⟩
  · exact Nat.zero_le _
  intro i hi0
  refine sq (env2 := [(0, .cptr (algA p (n : Int) T fo)), (3, .own 905 0 n 27), (12, .int .i64 (n : Int)), (13, .int .i64 (i : Int))]) (ol2 := [(905, .one (ZR n) (CO 11001 n (fun r => if r < i then n + n else n) 2)), (11001, .many (famF n (fun r => if r < i then n + n else n) (mixG (auS n (formT p T fo)) (formT p T fo) i)))]) rfl rfl ?_
  apply sr tokTB (by kernel_rfl)
  · intro RR hRR
    refine w_lss rfl rfl ?_
    exact hRR
  refine snd_seq ?_
  refine snd_cond _ rfl (fun hc14 => ?_) (fun hc14 => ?_)
  · try simp only [hcs] at hc14
    have lt_i : i < n := by omega
    refine snd_skip ?_
    refine snd_seq ?_
    refine snd_block ?_
    apply sr tokTB (by kernel_rfl)
    · intro RR hRR
      refine w_move (by constructor) ?_
      refine w_assign (by constructor) ?_
      exact hRR
    apply sr tokTB (by kernel_rfl)
    · intro RR hRR
      refine w_move (by constructor) ?_
      refine w_len_o rfl rfl und78 ?_
      refine w_move (by constructor) ?_
      exact hRR
    refine snd_block ?_
    refine snd_loop (S := Nat) (fun j => ([(0, .cptr (algA p (n : Int) T fo)), (3, .own 905 0 n 27), (4, .int .i64 (i : Int)), (12, .int .i64 (n : Int)), (13, .int .i64 (i : Int)), (17, .int .i64 (n : Int)), (18, .int .i64 (j : Int))], [(905, .one (ZR n) (CO 11001 n (fun r => if r < i then n + n else if r = i then n + j else n) 2)), (11001, .many (famF n (fun r => if r < i then n + n else if r = i then n + j else n) (mixG (auS n (formT p T fo)) (formT p T fo) (i + 1))))])) (fun j => j ≤ n) (fun j => n - j) (0) ρ0 ?_ ?_ ?_
    · exact emb_famR (ρ := ρ0) (fun _ => rfl) (fun _ => rfl) (by decide) (by decide) rfl (fun r hr => by show AV.own 11001 r (if r < i then n + n else n) _ = _; rw [w02]) (fun r hr => ⟨_, by show famF n (fun r => if r < i then n + n else n) _ r = _; rw [famF_at hr, w02], fun V => mt_vec (fun z hz => f02 (by rw [w02]; exact hz))⟩) ⟨m_calg, (by first | exact ⟨rfl, rfl, rfl, rfl⟩ | exact ⟨rfl, by omega, rfl, rfl⟩), (mi), (mi), (mi), (mi), (mi), trivial⟩
    · exact Nat.zero_le _
    intro j hi2
    refine sq (env2 := [(0, .cptr (algA p (n : Int) T fo)), (3, .own 905 0 n 27), (4, .int .i64 (i : Int)), (12, .int .i64 (n : Int)), (13, .int .i64 (i : Int)), (17, .int .i64 (n : Int)), (18, .int .i64 (j : Int))]) (ol2 := [(905, .one (ZR n) (CO 11001 n (fun r => if r < i then n + n else if r = i then n + j else n) 2)), (11001, .many (famF n (fun r => if r < i then n + n else if r = i then n + j else n) (mixG (auS n (formT p T fo)) (formT p T fo) (i + 1))))]) rfl rfl ?_
    apply sr tokTB (by kernel_rfl)
    · intro RR hRR
      refine w_lss rfl rfl ?_
      exact hRR
    refine snd_seq ?_
    refine snd_cond _ rfl (fun hc19 => ?_) (fun hc19 => ?_)
    · try simp only [hcs] at hc19
      have lt_j : j < n := by omega
      refine snd_skip ?_
      refine snd_seq ?_
      refine snd_block ?_
      apply sr tokTB (by kernel_rfl)
      · intro RR hRR
        refine w_move (by constructor) ?_
        refine w_assign (by constructor) ?_
        exact hRR
      apply ld tokTB mixed (by kernel_rfl) (by kernel_rfl)
      · intro RR hRR
        refine w_move (by constructor) ?_
        refine w_move (by constructor) ?_
        refine w_move (by constructor) ?_
        refine w_move (by constructor) ?_
        refine w_iao rfl rfl und78 kn27 ?_ ?_
        · exact ⟨by omega, by omega⟩
        first | refine w_ldc rfl kn27 (by constructor) (by exact sz27.symm) (by exact ag27.symm) ?_ | refine w_ldp rfl kn27 rfl (by constructor) (by exact sz27.symm) (by exact ag27.symm) ?_
        refine w_move (by constructor) ?_
        refine w_move (by constructor) ?_
        refine y_call rfl (ec (ec exn)) (c_unitNumber (i := i) (j := j)) ?_
        refine w_bsl1 und27 kn2 (by rw [sz2]; rfl) rfl (by constructor) (by first | exact trivial | exact cel_cap2) (by exact sz2.symm) (by first | exact trivial | exact ssh_vec | exact ⟨rfl, fun _ => trivial⟩) ?_
        refine w_app_o (k := 11001) (i := i) (n := n + j) (m := 1) (f := fun z => .int .i64 ((mixG (auS n (formT p T fo)) (formT p T fo) (i + 1)) i z)) und27 (by show AV.own 11001 i (if i < i then n + n else if i = i then n + j else n) _ = _; rw [w2j]) rfl kn2 rfl (by show famF n (fun r => if r < i then n + n else if r = i then n + j else n) (mixG (auS n (formT p T fo)) (formT p T fo) (i + 1)) i = _; rw [famF_at (by omega), w2j]; rfl) (fun C h => ⟨rfl, rfl, rfl, h⟩) (by rw [by2]; omega) (by omega) rfl ?_
        refine w_iao rfl rfl und78 kn27 ?_ ?_
        · exact ⟨by omega, by omega⟩
        first | refine w_stw rfl (by constructor) kn27 rfl (by exact trivial) (sx) (by exact sz27.symm) ?_ | refine w_sti rfl rfl kn27 rfl (by exact trivial) (by exact sz27.symm) ?_ | refine w_store rfl (HV.eq (by constructor)) kn27 rfl (by exact trivial) (sx) (by exact sz27.symm) (put_in (by first | exact put_mat | exact put_tab | exact put_alg0 | exact put_pr0 | exact put_pr1 | exact put_pr2 | exact put_alg1 | exact put_alg2 | exact put_alg3 | exact put_alg3i | exact put_alg2ij | exact put_alg2ijk | exact put_mat2 | exact put_tab2 | exact put_tab3)) ?_ | refine w_store rfl (HV.eq (by constructor)) kn27 rfl (by exact trivial) (by exact trivial) (by exact sz27.symm) rfl ?_
        exact hRR
      apply lr tokTB (by kernel_rfl)
      · intro RR hRR
        refine y_add rfl rfl ?_
        refine w_move (by constructor) ?_
        exact hRR
      refine ⟨j + 1, (ρP 905 11001 905 31 i), ?_, (by omega), (by dsimp only; omega)⟩
      exact emb_fam (by decide) (by decide) (by decide) (by decide) rfl (fun r hr hne => by show (bif Nat.beq r i then _ else AV.own 11001 r (if r < i then n + n else if r = i then n + j else n) _) = _; rw [beq_ff hne]; simp only [cond_false]; rw [w2s hne]) (fun h => by show (bif Nat.beq i i then _ else _) = _; rw [Nat.beq_refl]; simp [put]; omega) (fun h => by refine ⟨_, (by show _ = some (Z64 (if i < i then n + n else if i = i then n + (j + 1) else n), _); rw [w2i]; exact rfl), fun V => ?_⟩; show Mt V (C64 (if i < i then n + n else if i = i then n + (j + 1) else n) _) _; rw [w2i]; exact mt_app (fun z hz => rfl) (congrArg (AV.int .i64) (by rw [mixG_lt _ _ (Nat.lt_succ_self i)]; exact auS_at))) (fun r hr hne => by show (bif Nat.beq r i then none else famF n (fun r => if r < i then n + n else if r = i then n + j else n) _ r) = _; rw [beq_ff hne]; simp only [cond_false]; rw [famF_at hr, w2s hne]) ⟨m_calg, (by first | exact ⟨rfl, rfl, rfl, rfl⟩ | exact ⟨rfl, by omega, rfl, rfl⟩), (mi), (mi), (mi), (mi), (mi), trivial⟩
    · try simp only [hcs] at hc19
      have ge_j : n = j := by omega
      subst ge_j
      refine snd_exit ?_
      apply lr tokTB (by kernel_rfl)
      · intro RR hRR
        refine y_add rfl rfl ?_
        refine w_move (by constructor) ?_
        exact hRR
      refine ⟨i + 1, ρ0, ?_, (by omega), (by dsimp only; omega)⟩
      exact emb_famR (ρ := ρ0) (fun _ => rfl) (fun _ => rfl) (by decide) (by decide) rfl (fun r hr => by show AV.own 11001 r (if r < i then n + n else if r = i then n + n else n) _ = _; rw [w20]) (fun r hr => ⟨_, by show famF n (fun r => if r < i then n + n else if r = i then n + n else n) _ r = _; rw [famF_at hr, w20], fun V => mt_vec (fun z hz => rfl)⟩) ⟨m_calg, (by first | exact ⟨rfl, rfl, rfl, rfl⟩ | exact ⟨rfl, by omega, rfl, rfl⟩), (mi), (mi), trivial⟩
  · try simp only [hcs] at hc14
    have ge_i : n = i := by omega
    subst ge_i
    refine snd_exit ?_
    refine snd_emb (ρ := ρ0) (env2 := [(0, .cptr (algA p (n : Int) T fo)), (3, rowsA n (n + n) (auS n (formT p T fo)))]) (ol2 := []) ?_ ?_
    · exact ⟨⟨m_calg, mt_fam_fz (w := fun r => if r < n then n + n else n) (F := mixG (auS n (formT p T fo)) (formT p T fo) n) trivial (fun _ => trivial) rfl (fun r hr => famF_at (w := fun r => if r < n then n + n else n) (F := mixG (auS n (formT p T fo)) (formT p T fo) n) hr) (fun r hr => if_pos hr) (fun r hr z hz => by rw [mixG_lt _ _ hr]), trivial⟩, trivial, trivial⟩
    apply sr tokTB (by kernel_rfl)
    · intro RR hRR
      refine w_bsl und78 kn27 (by rw [sz27]; rfl) rfl trivial trivial rfl ?_
      refine w_assign (by constructor) ?_
      exact hRR
    refine snd_seq ?_
    apply sr tokTB (by kernel_rfl)
    · intro RR hRR
      refine w_move (by constructor) ?_
      refine w_move (by constructor) ?_
      refine w_nilc rfl ?_
      refine w_fac rfl und34 rfl kn2 nz2 (by decide) rfl (by constructor) ?_
      refine w_ldc rfl kn2 (by constructor) (by exact sz2.symm) (by exact ag2.symm) ?_
      refine w_call rfl (ec (ec exn)) (c_reduce (n := n) (m := n + n) (R := (auS n (formT p T fo))) hv0.hp (by omega) (by omega) (fun i => B8_of (by omega) (auS_Bp (by omega) hFB i))) (.inr ⟨closed_rows, trivial, trivial⟩) rfl (by constructor) rfl ?_
      refine w_len_o rfl rfl und78 ?_
      refine w_move (by constructor) ?_
      exact hRR
    refine snd_block ?_
    refine snd_loop (S := Nat) (fun k => ([(0, .cptr (algA p (n : Int) T fo)), (6, .own 906 0 k 27), (41, .own 42000 0 (redGo p n (auS n (formT p T fo)) (n + n)).no 27), (42, .int .i64 ((redGo p n (auS n (formT p T fo)) (n + n)).no : Int)), (43, .int .i64 (k : Int))], [(906, .one (ZR k) (.arr k (fun r => .ro n (fun z => .int .i64 ((redGo p n (auS n (formT p T fo)) (n + n)).O r (n + z)))))), (42000, .one (ZR (redGo p n (auS n (formT p T fo)) (n + n)).no) (CR (redGo p n (auS n (formT p T fo)) (n + n)).no (n + n) (redGo p n (auS n (formT p T fo)) (n + n)).O))])) (fun k => k ≤ (redGo p n (auS n (formT p T fo)) (n + n)).no) (fun k => (redGo p n (auS n (formT p T fo)) (n + n)).no - k) (0) (fun k i => bif Nat.beq k 906 then (35, i) else (k, i)) ?_ ?_ ?_
    · exact ⟨⟨m_calg, (by first | exact ⟨rfl, rfl, rfl, rfl⟩ | exact ⟨rfl, by omega, rfl, rfl⟩), (by first | exact ⟨rfl, rfl, rfl, rfl⟩ | exact ⟨rfl, by omega, rfl, rfl⟩), (mi), (mi), trivial⟩, ⟨⟨rfl, (sx), (by exact ⟨rfl, fun r h => absurd h (by omega)⟩)⟩, ⟨rfl, (sx), (by exact ⟨rfl, fun _ _ => mt_row (fun _ _ => rfl)⟩)⟩, trivial⟩, ⟨⟨(fun h => by first | exact ⟨rfl, rfl⟩ | exact absurd h (by decide)), (fun h => by first | exact ⟨rfl, rfl⟩ | exact absurd h (by decide)), trivial⟩, ⟨(fun h => by first | exact ⟨rfl, rfl⟩ | exact absurd h (by decide)), (fun h => by first | exact ⟨rfl, rfl⟩ | exact absurd h (by decide)), trivial⟩, trivial⟩⟩
    · exact Nat.zero_le _
    intro k hi4
    refine sq (env2 := [(0, .cptr (algA p (n : Int) T fo)), (6, .own 906 0 k 27), (41, .own 42000 0 (redGo p n (auS n (formT p T fo)) (n + n)).no 27), (42, .int .i64 ((redGo p n (auS n (formT p T fo)) (n + n)).no : Int)), (43, .int .i64 (k : Int))]) (ol2 := [(906, .one (ZR k) (.arr k (fun r => .ro n (fun z => .int .i64 ((redGo p n (auS n (formT p T fo)) (n + n)).O r (n + z)))))), (42000, .one (ZR (redGo p n (auS n (formT p T fo)) (n + n)).no) (CR (redGo p n (auS n (formT p T fo)) (n + n)).no (n + n) (redGo p n (auS n (formT p T fo)) (n + n)).O))]) rfl rfl ?_
    apply sr tokTB (by kernel_rfl)
    · intro RR hRR
      refine w_lss rfl rfl ?_
      exact hRR
    refine snd_seq ?_
    refine snd_cond _ rfl (fun hc44 => ?_) (fun hc44 => ?_)
    · try simp only [hcs] at hc44
      have lt_k : k < (redGo p n (auS n (formT p T fo)) (n + n)).no := by omega
      refine snd_skip ?_
      refine snd_seq ?_
      refine snd_block ?_
      apply sr tokTB (by kernel_rfl)
      · intro RR hRR
        refine w_iao rfl rfl und78 kn27 ?_ ?_
        · exact ⟨by omega, by omega⟩
        first | refine w_ldc rfl kn27 (by constructor) (by exact sz27.symm) (by exact ag27.symm) ?_ | refine w_ldp rfl kn27 rfl (by constructor) (by exact sz27.symm) (by exact ag27.symm) ?_
        refine w_assign (by constructor) ?_
        exact hRR
      apply lr tokTB (by kernel_rfl)
      · intro RR hRR
        refine w_move (by constructor) ?_
        refine w_move (by constructor) ?_
        refine w_move (by constructor) ?_
        refine y_call rfl (ec exn) (c_n) ?_
        refine w_sl_rl rfl rfl und27 kn2 (by exact sz2.symm) rfl (by omega) ?_
        refine w_bsl1 und78 kn27 (by rw [sz27]; rfl) rfl (by constructor) (by first | exact trivial | exact cel_cap2) (by exact sz27.symm) (by first | exact trivial | exact ssh_vec | exact ⟨rfl, fun _ => trivial⟩) ?_
        refine w_app_o und78 rfl rfl kn27 rfl rfl (fun C h => ⟨rfl, rfl, rfl, h⟩) (by rw [by27]; omega) (by omega) rfl ?_
        refine w_assign (by constructor) ?_
        exact hRR
      apply lr tokTB (by kernel_rfl)
      · intro RR hRR
        refine y_add rfl rfl ?_
        refine w_move (by constructor) ?_
        exact hRR
      refine ⟨k + 1, (fun k i => bif Nat.beq k 906 then (53, i) else (k, i)), ?_, (by omega), (by dsimp only; omega)⟩
      exact ⟨⟨m_calg, (by first | exact ⟨rfl, rfl, rfl, rfl⟩ | exact ⟨rfl, by omega, rfl, rfl⟩), (by first | exact ⟨rfl, rfl, rfl, rfl⟩ | exact ⟨rfl, by omega, rfl, rfl⟩), (mi), (mi), trivial⟩, ⟨⟨rfl, (sx), (by exact mt_app (fun r hr => ⟨rfl, fun _ _ => rfl⟩) ⟨by omega, fun z hz => rfl⟩)⟩, ⟨rfl, (sx), (by exact ⟨rfl, fun _ _ => mt_row (fun _ _ => rfl)⟩)⟩, trivial⟩, ⟨⟨(fun h => by first | exact ⟨rfl, rfl⟩ | exact absurd h (by decide)), (fun h => by first | exact ⟨rfl, rfl⟩ | exact absurd h (by decide)), trivial⟩, ⟨(fun h => by first | exact ⟨rfl, rfl⟩ | exact absurd h (by decide)), (fun h => by first | exact ⟨rfl, rfl⟩ | exact absurd h (by decide)), trivial⟩, trivial⟩⟩
    · try simp only [hcs] at hc44
      have ge_k : (redGo p n (auS n (formT p T fo)) (n + n)).no = k := by omega
      subst ge_k
      refine snd_exit ?_
      refine snd_emb (ρ := ρ0) (env2 := [(6, rowsA n n (cpM p n (formT p T fo)))]) (ol2 := []) ?_ ?_
      · exact ⟨⟨⟨hno, trivial, hno, fun r hr => ⟨rfl, fun z hz => congrArg (AV.int .i64) (by rw [hO r hr (n + z) (by omega)]; unfold auO; rw [if_neg (by omega), Nat.add_sub_cancel_left])⟩⟩, trivial⟩, trivial, trivial⟩
      apply sr tokTB (by kernel_rfl)
      · intro RR hRR
        refine w_move (by constructor) ?_
        refine w_assign (by constructor) ?_
        exact hRR
      refine snd_ret ?_
      exact rt (T := TB) (fun V => mt_rows (fun _ _ _ _ => rfl))
end Go.Am

set_option linter.unusedVariables false
set_option linter.unusedSimpArgs false
set_option maxRecDepth 4000
namespace Go.Am
attribute [local irreducible] retQ retQp
open Go.Proofs
theorem c_l02Copairing {p : Int} {n : Nat} {T : Nat → Nat → Nat → Int} {fo : Nat → Int} (hv0 : VN p n T fo) (hr : rankT p n T fo = n) : ACalls Try.prog TB 105 [algA p (n : Int) T fo] (rowsA n n (cpM p n (formT p T fo))) [] := by
  have hp8 := hv0.p0
  have hn6 := hv0.n6
  have hn0 := hv0.n0
  have hFB : ∀ i, Bp p ((formT p T fo) i) := fun i => formT_Bp (by omega) i
  refine acalls_of tokTB Try.func105 rfl rfl (Nat.le_of_ble_eq_true rfl) ?_
  apply sr tokTB (by kernel_rfl)
  · intro RR hRR
    refine w_boxc (HV.eq (by constructor)) (by exact trivial) ?_
    refine w_assign (by constructor) ?_
    exact hRR
  apply sr tokTB (by kernel_rfl)
  · intro RR hRR
    refine w_fac rfl und34 rfl kn2 nz2 (by decide) rfl (by constructor) ?_
    refine w_ldc rfl kn2 (by constructor) (by exact sz2.symm) (by exact ag2.symm) ?_
    refine w_assign (by constructor) ?_
    exact hRR
  apply sr tokTB (by kernel_rfl)
  · intro RR hRR
    refine w_bsl und78 kn27 (by rw [sz27]; rfl) rfl trivial trivial rfl ?_
    refine w_assign (by constructor) ?_
    exact hRR
  refine snd_seq ?_
  apply sr tokTB (by kernel_rfl)
  · intro RR hRR
    refine w_assign (by constructor) ?_
    exact hRR
  refine snd_block ?_
  refine snd_loop (S := Nat) (fun i => ([(1, .cptr (algA p (n : Int) T fo)), (3, .int .i64 (n : Int)), (4, .own 905 0 i 27), (5, .int .i64 (i : Int))], [(905, .one (ZR (i)) (CO 1 (i) ((fun _ => n)) 2)), (1, .many (famF (i) ((fun _ => n)) ((fun _ _ => 0))))])) (fun i => i ≤ n) (fun i => n - i) (0) (ρP 905 1 16 912 0) ?_ ?_ ?_
  · exact emb_fam (by decide) (by decide) (by decide) (by decide) rfl (fun j hj => absurd hj (by omega)) (fun h => absurd h (by omega)) (fun h => absurd h (by omega)) (fun r hr => absurd hr (by omega)) ⟨m_calg, (mi), (by first | exact ⟨rfl, rfl, rfl, rfl⟩ | exact ⟨rfl, by omega, rfl, rfl⟩), (mi), trivial⟩
  · exact Nat.zero_le _
  intro i hi0
  refine sq (env2 := [(1, .cptr (algA p (n : Int) T fo)), (3, .int .i64 (n : Int)), (4, .own 905 0 i 27), (5, .int .i64 (i : Int))]) (ol2 := [(905, .one (ZR (i)) (CO 1 (i) ((fun _ => n)) 2)), (1, .many (famF (i) ((fun _ => n)) ((fun _ _ => 0))))]) rfl rfl ?_
  refine snd_seq ?_
  apply sr tokTB (by kernel_rfl)
  · intro RR hRR
    refine w_move (by constructor) ?_
    refine w_move (by constructor) ?_
    refine w_lss rfl rfl ?_
    exact hRR
  refine snd_cond _ rfl (fun hc19 => ?_) (fun hc19 => ?_)
  · try simp only [hcs] at hc19
    have lt_i : i < n := by omega
    refine snd_skip ?_
    refine snd_seq ?_
    refine snd_block ?_
    apply lr tokTB (by kernel_rfl)
    · intro RR hRR
      refine w_move (by constructor) ?_
      refine w_move (by constructor) ?_
      refine w_mks und27 rfl rfl kn2 rfl (by omega) (by rw [by2]; omega) (by omega) rfl ?_
      refine w_bsl1 und78 kn27 (by rw [sz27]; rfl) rfl (by constructor) (by first | exact trivial | exact cel_cap2) (by exact sz27.symm) (by first | exact trivial | exact ssh_vec | exact ⟨rfl, fun _ => trivial⟩) ?_
      refine w_app_o und78 rfl rfl kn27 rfl rfl (fun C h => ⟨rfl, rfl, rfl, h⟩) (by rw [by27]; omega) (by omega) rfl ?_
      refine w_assign (by constructor) ?_
      exact hRR
    apply lr tokTB (by kernel_rfl)
    · intro RR hRR
      refine w_move (by constructor) ?_
      refine y_add rfl rfl ?_
      refine w_assign (by constructor) ?_
      exact hRR
    refine ⟨i + 1, (ρP 905 1 26 24 i), ?_, (by omega), (by dsimp only; omega)⟩
    exact emb_fam (by decide) (by decide) (by decide) (by decide) rfl (fun j hj hne => appF_lt (by omega)) (fun h => (appF_ge (Nat.le_refl _) (by omega)).trans (by rw [Nat.sub_self]; rfl)) (fun h => ⟨C64 n (fun _ => 0), (by show some (AV.arr n (fun _ => TB.zero 2), AV.arr n (fun _ => TB.zero 2)) = _; rw [zr2]), fun V => mt_vec (fun j hj => rfl)⟩) (fun r hr hne => famF_at (c := i) (w := fun _ => n) (F := fun _ _ => 0) (by omega)) ⟨m_calg, (mi), (by first | exact ⟨rfl, rfl, rfl, rfl⟩ | exact ⟨rfl, by omega, rfl, rfl⟩), (mi), trivial⟩
  · try simp only [hcs] at hc19
    have ge_i : n = i := by omega
    subst ge_i
    refine snd_exit ?_
    refine snd_seq ?_
    apply sr tokTB (by kernel_rfl)
    · intro RR hRR
      refine w_assign (by constructor) ?_
      exact hRR
    refine snd_block ?_
    refine snd_loop (S := Nat) (fun i => ([(1, .cptr (algA p (n : Int) T fo)), (3, .int .i64 (n : Int)), (4, .own 905 0 n 27), (6, .int .i64 (i : Int))], [(905, .one (ZR n) (CO 1 n (fun _ => n) 2)), (1, .many (famF n (fun _ => n) (colF (cpM p n (formT p T fo)) i)))])) (fun i => i ≤ n) (fun i => n - i) (0) ρ0 ?_ ?_ ?_
    · exact emb_famR (ρ := ρ0) (fun _ => rfl) (fun _ => rfl) (by decide) (by decide) rfl (fun j hj => rfl) (fun r hr => ⟨_, famF_at (w := fun _ => n) (F := fun _ _ => 0) hr, fun V => mt_vec (fun z hz => by unfold colF; rw [if_neg (Nat.not_lt_zero _)])⟩) ⟨m_calg, (mi), (by first | exact ⟨rfl, rfl, rfl, rfl⟩ | exact ⟨rfl, by omega, rfl, rfl⟩), (mi), trivial⟩
    · exact Nat.zero_le _
    intro i hi2
    refine sq (env2 := [(1, .cptr (algA p (n : Int) T fo)), (3, .int .i64 (n : Int)), (4, .own 905 0 n 27), (6, .int .i64 (i : Int))]) (ol2 := [(905, .one (ZR n) (CO 1 n (fun _ => n) 2)), (1, .many (famF n (fun _ => n) (colF (cpM p n (formT p T fo)) i)))]) rfl rfl ?_
    refine snd_seq ?_
    apply sr tokTB (by kernel_rfl)
    · intro RR hRR
      refine w_move (by constructor) ?_
      refine w_move (by constructor) ?_
      refine w_lss rfl rfl ?_
      exact hRR
    refine snd_cond _ rfl (fun hc29 => ?_) (fun hc29 => ?_)
    · try simp only [hcs] at hc29
      have lt_i : i < n := by omega
      refine snd_skip ?_
      refine snd_seq ?_
      refine snd_block ?_
      apply sr tokTB (by kernel_rfl)
      · intro RR hRR
        refine w_ldc rfl kn34 (by constructor) (by exact sz34.symm) (by exact ag34.symm) ?_
        refine w_call rfl (ec exn) (c_l02Table hv0) (.inl ⟨trivial, ⟨fun _ => trivial, fun i sh c h => (by obtain ⟨_, _, rfl⟩ := famF_some h; exact fun _ => trivial), trivial⟩⟩) rfl (by constructor) rfl ?_
        refine w_assign (by constructor) ?_
        exact hRR
      refine snd_seq ?_
      apply sr tokTB (by kernel_rfl)
      · intro RR hRR
        refine w_assign (by constructor) ?_
        exact hRR
      refine snd_block ?_
      refine snd_loop (S := Nat) (fun j => ([(1, .cptr (algA p (n : Int) T fo)), (3, .int .i64 (n : Int)), (4, .own 905 0 n 27), (6, .int .i64 (i : Int)), (7, .own 907 0 n 27), (8, .int .i64 (j : Int))], [(905, .one (ZR n) (CO 1 n (fun _ => n) 2)), (1, .many (famF n (fun _ => n) (colF (cpM p n (formT p T fo)) i))), (907, .one (ZR n) (CO 2 n (fun r => if r < j then n + 1 else n) 2)), (2, .many (famF n (fun r => if r < j then n + 1 else n) (mixG (gS n (formT p T fo) i) (formT p T fo) j)))])) (fun j => j ≤ n) (fun j => n - j) (0) (ρL [(907, 34000), (2, 34001)] 2 n 50) ?_ ?_ ?_
      · exact emb_two ⟨by decide, by decide, by decide⟩ (by decide) rfl (fun j hj => rfl) (fun r hr => ⟨_, (by show famF n (fun _ => n) (colF (cpM p n (formT p T fo)) i) r = _; exact famF_at (w := fun _ => n) hr), fun V => mt_vec (fun _ _ => rfl)⟩) rfl (fun r hr _ => by show AV.own (34000 + 1) r n _ = AV.own 34001 r (if r < 0 then n + 1 else n) _; simp) (fun h => absurd h (Nat.lt_irrefl n)) (fun h => absurd h (Nat.lt_irrefl n)) (fun r hr _ => ⟨C64 n (formT p T fo r), (fam_sh (w := fun _ => n) (F := formT p T fo) (e := 2) (b := 34000) hr).trans (by simp), fun V => mt_vec (fun z _ => by simp [mixG])⟩) ⟨m_calg, (mi), (by first | exact ⟨rfl, rfl, rfl, rfl⟩ | exact ⟨rfl, by omega, rfl, rfl⟩), (mi), (by first | exact ⟨rfl, rfl, rfl, rfl⟩ | exact ⟨rfl, by omega, rfl, rfl⟩), (mi), trivial⟩
      · exact Nat.zero_le _
      intro j hi4
      refine sq (env2 := [(1, .cptr (algA p (n : Int) T fo)), (3, .int .i64 (n : Int)), (4, .own 905 0 n 27), (6, .int .i64 (i : Int)), (7, .own 907 0 n 27), (8, .int .i64 (j : Int))]) (ol2 := [(905, .one (ZR n) (CO 1 n (fun _ => n) 2)), (1, .many (famF n (fun _ => n) (colF (cpM p n (formT p T fo)) i))), (907, .one (ZR n) (CO 2 n (fun r => if r < j then n + 1 else n) 2)), (2, .many (famF n (fun r => if r < j then n + 1 else n) (mixG (gS n (formT p T fo) i) (formT p T fo) j)))]) rfl rfl ?_
      refine snd_seq ?_
      apply sr tokTB (by kernel_rfl)
      · intro RR hRR
        refine w_move (by constructor) ?_
        refine w_move (by constructor) ?_
        refine w_lss rfl rfl ?_
        exact hRR
      refine snd_cond _ rfl (fun hc36 => ?_) (fun hc36 => ?_)
      · try simp only [hcs] at hc36
        have lt_j : j < n := by omega
        refine snd_skip ?_
        refine snd_seq ?_
        refine snd_block ?_
        apply sr tokTB (by kernel_rfl)
        · intro RR hRR
          refine w_assign (by constructor) ?_
          exact hRR
        refine snd_seq ?_
        apply sr tokTB (by kernel_rfl)
        · intro RR hRR
          refine w_move (by constructor) ?_
          refine w_move (by constructor) ?_
          refine w_eql rfl rfl ?_
          exact hRR
        refine snd_cond _ rfl (fun hc41 => ?_) (fun hc41 => ?_)
        · try simp only [hcs] at hc41
          apply lr tokTB (by kernel_rfl)
          · intro RR hRR
            refine w_assign (by constructor) ?_
            exact hRR
          apply lr tokTB (by kernel_rfl)
          · intro RR hRR
            refine w_move (by constructor) ?_
            refine w_move (by constructor) ?_
            refine w_move (by constructor) ?_
            refine w_move (by constructor) ?_
            refine w_iao rfl rfl und78 kn27 ?_ ?_
            · exact ⟨by omega, by omega⟩
            first | refine w_ldc rfl kn27 (by constructor) (by exact sz27.symm) (by exact ag27.symm) ?_ | refine w_ldp rfl kn27 rfl (by constructor) (by exact sz27.symm) (by exact ag27.symm) ?_
            refine w_move (by constructor) ?_
            refine w_bsl1 und27 kn2 (by rw [sz2]; rfl) rfl (by constructor) (by first | exact trivial | exact cel_cap2) (by exact sz2.symm) (by first | exact trivial | exact ssh_vec | exact ⟨rfl, fun _ => trivial⟩) ?_
            refine w_app_o (k := 2) (i := j) (n := n) (m := 1) (f := fun z => .int .i64 ((mixG (gS n (formT p T fo) i) (formT p T fo) j) j z)) und27 (by show AV.own 2 j (if j < j then n + 1 else n) _ = _; rw [if_neg (Nat.lt_irrefl j)]) rfl kn2 rfl (by show famF n (fun r => if r < j then n + 1 else n) (mixG (gS n (formT p T fo) i) (formT p T fo) j) j = _; rw [famF_at (by omega), if_neg (Nat.lt_irrefl j)]; rfl) (fun C h => ⟨rfl, rfl, rfl, h⟩) (by rw [by2]; omega) (by omega) rfl ?_
            refine w_iao rfl rfl und78 kn27 ?_ ?_
            · exact ⟨by omega, by omega⟩
            first | refine w_stw rfl (by constructor) kn27 rfl (by exact trivial) (sx) (by exact sz27.symm) ?_ | refine w_sti rfl rfl kn27 rfl (by exact trivial) (by exact sz27.symm) ?_ | refine w_store rfl (HV.eq (by constructor)) kn27 rfl (by exact trivial) (sx) (by exact sz27.symm) (put_in (by first | exact put_mat | exact put_tab | exact put_alg0 | exact put_pr0 | exact put_pr1 | exact put_pr2 | exact put_alg1 | exact put_alg2 | exact put_alg3 | exact put_alg3i | exact put_alg2ij | exact put_alg2ijk | exact put_mat2 | exact put_tab2 | exact put_tab3)) ?_ | refine w_store rfl (HV.eq (by constructor)) kn27 rfl (by exact trivial) (by exact trivial) (by exact sz27.symm) rfl ?_
            exact hRR
          apply lr tokTB (by kernel_rfl)
          · intro RR hRR
            refine w_move (by constructor) ?_
            refine y_add rfl rfl ?_
            refine w_assign (by constructor) ?_
            exact hRR
          refine ⟨j + 1, (ρL [] 2 j 50), ?_, (by omega), (by dsimp only; omega)⟩
          exact emb_two ⟨by decide, by decide, by decide⟩ (by decide) rfl (fun j hj => rfl) (fun r hr => ⟨_, (by show famF n (fun _ => n) (colF (cpM p n (formT p T fo)) i) r = _; exact famF_at (w := fun _ => n) hr), fun V => mt_vec (fun _ _ => rfl)⟩) rfl (fun r hr hne => by show (bif Nat.beq r j then _ else AV.own 2 r (if r < j then n + 1 else n) _) = _; rw [beq_ff hne]; simp only [cond_false]; rw [w1s hne]; rfl) (fun h => by show (bif Nat.beq j j then _ else _) = _; rw [Nat.beq_refl]; simp [put]) (fun h => by refine ⟨_, (by show _ = some (Z64 (if j < j + 1 then n + 1 else n), _); rw [if_pos (Nat.lt_succ_self j)]; exact rfl), fun V => ?_⟩; show Mt V (C64 (if j < j + 1 then n + 1 else n) _) _; rw [if_pos (Nat.lt_succ_self j)]; exact mt_app (fun z hz => congrArg (AV.int .i64) (by rw [mixG_self, mixG_lt _ _ (Nat.lt_succ_self j)]; unfold gS; rw [if_pos hz])) (congrArg (AV.int .i64) (by rw [mixG_lt _ _ (Nat.lt_succ_self j), gS_n]; unfold dl; first | rw [if_pos (by omega)] | rw [if_neg (by omega)]))) (fun r hr hne => ⟨C64 (if r < j then n + 1 else n) (mixG (gS n (formT p T fo) i) (formT p T fo) j r), (by show (bif Nat.beq r j then none else famF n (fun r => if r < j then n + 1 else n) _ r) = _; rw [beq_ff hne]; simp only [cond_false]; rw [famF_at hr, w1s hne]), fun V => by rw [w1s hne]; exact mt_vec (fun z _ => by rw [mix1s hne])⟩) ⟨m_calg, (mi), (by first | exact ⟨rfl, rfl, rfl, rfl⟩ | exact ⟨rfl, by omega, rfl, rfl⟩), (mi), (by first | exact ⟨rfl, rfl, rfl, rfl⟩ | exact ⟨rfl, by omega, rfl, rfl⟩), (mi), trivial⟩
        · try simp only [hcs] at hc41
          refine snd_skip ?_
          apply lr tokTB (by kernel_rfl)
          · intro RR hRR
            refine w_move (by constructor) ?_
            refine w_move (by constructor) ?_
            refine w_move (by constructor) ?_
            refine w_move (by constructor) ?_
            refine w_iao rfl rfl und78 kn27 ?_ ?_
            · exact ⟨by omega, by omega⟩
            first | refine w_ldc rfl kn27 (by constructor) (by exact sz27.symm) (by exact ag27.symm) ?_ | refine w_ldp rfl kn27 rfl (by constructor) (by exact sz27.symm) (by exact ag27.symm) ?_
            refine w_move (by constructor) ?_
            refine w_bsl1 und27 kn2 (by rw [sz2]; rfl) rfl (by constructor) (by first | exact trivial | exact cel_cap2) (by exact sz2.symm) (by first | exact trivial | exact ssh_vec | exact ⟨rfl, fun _ => trivial⟩) ?_
            refine w_app_o (k := 2) (i := j) (n := n) (m := 1) (f := fun z => .int .i64 ((mixG (gS n (formT p T fo) i) (formT p T fo) j) j z)) und27 (by show AV.own 2 j (if j < j then n + 1 else n) _ = _; rw [if_neg (Nat.lt_irrefl j)]) rfl kn2 rfl (by show famF n (fun r => if r < j then n + 1 else n) (mixG (gS n (formT p T fo) i) (formT p T fo) j) j = _; rw [famF_at (by omega), if_neg (Nat.lt_irrefl j)]; rfl) (fun C h => ⟨rfl, rfl, rfl, h⟩) (by rw [by2]; omega) (by omega) rfl ?_
            refine w_iao rfl rfl und78 kn27 ?_ ?_
            · exact ⟨by omega, by omega⟩
            first | refine w_stw rfl (by constructor) kn27 rfl (by exact trivial) (sx) (by exact sz27.symm) ?_ | refine w_sti rfl rfl kn27 rfl (by exact trivial) (by exact sz27.symm) ?_ | refine w_store rfl (HV.eq (by constructor)) kn27 rfl (by exact trivial) (sx) (by exact sz27.symm) (put_in (by first | exact put_mat | exact put_tab | exact put_alg0 | exact put_pr0 | exact put_pr1 | exact put_pr2 | exact put_alg1 | exact put_alg2 | exact put_alg3 | exact put_alg3i | exact put_alg2ij | exact put_alg2ijk | exact put_mat2 | exact put_tab2 | exact put_tab3)) ?_ | refine w_store rfl (HV.eq (by constructor)) kn27 rfl (by exact trivial) (by exact trivial) (by exact sz27.symm) rfl ?_
            exact hRR
          apply lr tokTB (by kernel_rfl)
          · intro RR hRR
            refine w_move (by constructor) ?_
            refine y_add rfl rfl ?_
            refine w_assign (by constructor) ?_
            exact hRR
          refine ⟨j + 1, (ρL [] 2 j 50), ?_, (by omega), (by dsimp only; omega)⟩
          exact emb_two ⟨by decide, by decide, by decide⟩ (by decide) rfl (fun j hj => rfl) (fun r hr => ⟨_, (by show famF n (fun _ => n) (colF (cpM p n (formT p T fo)) i) r = _; exact famF_at (w := fun _ => n) hr), fun V => mt_vec (fun _ _ => rfl)⟩) rfl (fun r hr hne => by show (bif Nat.beq r j then _ else AV.own 2 r (if r < j then n + 1 else n) _) = _; rw [beq_ff hne]; simp only [cond_false]; rw [w1s hne]; rfl) (fun h => by show (bif Nat.beq j j then _ else _) = _; rw [Nat.beq_refl]; simp [put]) (fun h => by refine ⟨_, (by show _ = some (Z64 (if j < j + 1 then n + 1 else n), _); rw [if_pos (Nat.lt_succ_self j)]; exact rfl), fun V => ?_⟩; show Mt V (C64 (if j < j + 1 then n + 1 else n) _) _; rw [if_pos (Nat.lt_succ_self j)]; exact mt_app (fun z hz => congrArg (AV.int .i64) (by rw [mixG_self, mixG_lt _ _ (Nat.lt_succ_self j)]; unfold gS; rw [if_pos hz])) (congrArg (AV.int .i64) (by rw [mixG_lt _ _ (Nat.lt_succ_self j), gS_n]; unfold dl; first | rw [if_pos (by omega)] | rw [if_neg (by omega)]))) (fun r hr hne => ⟨C64 (if r < j then n + 1 else n) (mixG (gS n (formT p T fo) i) (formT p T fo) j r), (by show (bif Nat.beq r j then none else famF n (fun r => if r < j then n + 1 else n) _ r) = _; rw [beq_ff hne]; simp only [cond_false]; rw [famF_at hr, w1s hne]), fun V => by rw [w1s hne]; exact mt_vec (fun z _ => by rw [mix1s hne])⟩) ⟨m_calg, (mi), (by first | exact ⟨rfl, rfl, rfl, rfl⟩ | exact ⟨rfl, by omega, rfl, rfl⟩), (mi), (by first | exact ⟨rfl, rfl, rfl, rfl⟩ | exact ⟨rfl, by omega, rfl, rfl⟩), (mi), trivial⟩
      · try simp only [hcs] at hc36
        have ge_j : n = j := by omega
        subst ge_j
        refine snd_exit ?_
        apply sr tokTB (by kernel_rfl)
        · intro RR hRR
          refine w_fac rfl und34 rfl kn2 nz2 (by decide) rfl (by constructor) ?_
          refine w_ldc rfl kn2 (by constructor) (by exact sz2.symm) (by exact ag2.symm) ?_
          refine w_move (by constructor) ?_
          refine w_call rfl rfl ((c_l01Solve_ok (N := n) (n := n) (S := (gS n (formT p T fo) i)) hv0.hp (by omega) (by omega) (by omega) (gS_Bp (by omega) hFB i) (gS_one hv0.hp hFB hr i)).mt ⟨rfl, mt_fam0 (w := fun r => if r < n then n + 1 else n) (F := mixG (gS n (formT p T fo) i) (formT p T fo) n) rfl (fun r hr => famF_at (w := fun r => if r < n then n + 1 else n) (F := mixG (gS n (formT p T fo) i) (formT p T fo) n) hr) (fun r hr => if_pos hr) (fun r hr z hz => by rw [mixG_lt _ _ hr]), trivial⟩) (.inl ⟨nr_pair trivial trivial, ⟨fun _ => trivial, trivial⟩⟩) rfl (by constructor) rfl ?_
          refine w_move (by constructor) ?_
          refine w_ext rfl (by decide) (by constructor) ?_
          refine w_ext rfl (by decide) (by constructor) ?_
          refine w_assign (by constructor) ?_
          refine w_assign (by constructor) ?_
          exact hRR
        apply sr tokTB (by kernel_rfl)
        · intro RR hRR
          refine w_assign (by constructor) ?_
          exact hRR
        refine snd_block ?_
        refine snd_loop (S := Nat) (fun k => ([(1, .cptr (algA p (n : Int) T fo)), (3, .int .i64 (n : Int)), (4, .own 905 0 n 27), (6, .int .i64 (i : Int)), (10, .own 57000 0 n 2), (12, .int .i64 (k : Int))], [(905, .one (ZR n) (CO 1 n (fun _ => n) 2)), (1, .many (famF n (fun _ => n) (colG (cpM p n (formT p T fo)) i k))), (57000, .one (Z64 n) (C64 n (fun a => (echGo p (n + 1) (gS n (formT p T fo) i) n).O a n)))])) (fun k => k ≤ n) (fun k => n - k) (0) (ρL [] 77 77 77) ?_ ?_ ?_
        · exact emb_three ⟨by decide, by decide, by decide⟩ (by decide) rfl (fun j hj => rfl) (fun r hr => ⟨_, (by show famF n (fun _ => n) (colF (cpM p n (formT p T fo)) i) r = _; exact famF_at (w := fun _ => n) hr), fun V => mt_vec (fun _ _ => colG_0)⟩) ⟨_, rfl, ⟨rfl, fun _ => trivial⟩, fun V => mt_vec (fun _ _ => rfl)⟩ ⟨m_calg, (mi), (by first | exact ⟨rfl, rfl, rfl, rfl⟩ | exact ⟨rfl, by omega, rfl, rfl⟩), (mi), (by first | exact ⟨rfl, rfl, rfl, rfl⟩ | exact ⟨rfl, by omega, rfl, rfl⟩), (mi), trivial⟩
        · exact Nat.zero_le _
        intro k hi6
        refine sq (env2 := [(1, .cptr (algA p (n : Int) T fo)), (3, .int .i64 (n : Int)), (4, .own 905 0 n 27), (6, .int .i64 (i : Int)), (10, .own 57000 0 n 2), (12, .int .i64 (k : Int))]) (ol2 := [(905, .one (ZR n) (CO 1 n (fun _ => n) 2)), (1, .many (famF n (fun _ => n) (colG (cpM p n (formT p T fo)) i k))), (57000, .one (Z64 n) (C64 n (fun a => (echGo p (n + 1) (gS n (formT p T fo) i) n).O a n)))]) rfl rfl ?_
        refine snd_seq ?_
        apply sr tokTB (by kernel_rfl)
        · intro RR hRR
          refine w_move (by constructor) ?_
          refine w_move (by constructor) ?_
          refine w_lss rfl rfl ?_
          exact hRR
        refine snd_cond _ rfl (fun hc61 => ?_) (fun hc61 => ?_)
        · try simp only [hcs] at hc61
          have lt_k : k < n := by omega
          refine snd_skip ?_
          refine snd_seq ?_
          refine snd_block ?_
          apply sr tokTB (by kernel_rfl)
          · intro RR hRR
            refine w_move (by constructor) ?_
            refine w_move (by constructor) ?_
            refine w_iao rfl rfl und78 kn27 ?_ ?_
            · exact ⟨by omega, by omega⟩
            first | refine w_ldc rfl kn27 (by constructor) (by exact sz27.symm) (by exact ag27.symm) ?_ | refine w_ldp rfl kn27 rfl (by constructor) (by exact sz27.symm) (by exact ag27.symm) ?_
            refine w_assign (by constructor) ?_
            exact hRR
          apply lr tokTB (by kernel_rfl)
          · intro RR hRR
            refine w_move (by constructor) ?_
            refine w_move (by constructor) ?_
            refine w_move (by constructor) ?_
            refine w_move (by constructor) ?_
            refine w_iao rfl rfl und27 kn2 ?_ ?_
            · exact ⟨by omega, by omega⟩
            first | refine w_ldc rfl kn2 (by constructor) (by exact sz2.symm) (by exact ag2.symm) ?_ | refine w_ldp rfl kn2 rfl (by constructor) (by exact sz2.symm) (by exact ag2.symm) ?_
            first | refine w_iar rfl rfl und27 kn2 (by exact sz2.symm) ?_ rfl ?_ | refine w_iao rfl rfl und27 kn2 ?_ ?_
            · exact ⟨by omega, by omega⟩
            refine w_sti (i := k) (f := colG (cpM p n (formT p T fo)) i k k) rfl rfl kn2 (by show famF n (fun _ => n) (colG (cpM p n (formT p T fo)) i k) k = _; exact famF_at (w := fun _ => n) lt_k) (by exact trivial) (by exact sz2.symm) ?_
            exact hRR
          apply lr tokTB (by kernel_rfl)
          · intro RR hRR
            refine w_move (by constructor) ?_
            refine y_add rfl rfl ?_
            refine w_assign (by constructor) ?_
            exact hRR
          refine ⟨k + 1, (ρL [] 77 77 77), ?_, (by omega), (by dsimp only; omega)⟩
          exact emb_three ⟨by decide, by decide, by decide⟩ (by decide) rfl (fun j hj => rfl) (fun r hr => fam_cset hr (by show _ = cpM p n (formT p T fo) k i; unfold cpM sS cutF; rw [if_pos lt_k]; rfl)) ⟨_, rfl, ⟨rfl, fun _ => trivial⟩, fun V => mt_vec (fun _ _ => rfl)⟩ ⟨m_calg, (mi), (by first | exact ⟨rfl, rfl, rfl, rfl⟩ | exact ⟨rfl, by omega, rfl, rfl⟩), (mi), (by first | exact ⟨rfl, rfl, rfl, rfl⟩ | exact ⟨rfl, by omega, rfl, rfl⟩), (mi), trivial⟩
        · try simp only [hcs] at hc61
          have ge_k : n = k := by omega
          subst ge_k
          refine snd_exit ?_
          apply lr tokTB (by kernel_rfl)
          · intro RR hRR
            refine w_move (by constructor) ?_
            refine y_add rfl rfl ?_
            refine w_assign (by constructor) ?_
            exact hRR
          refine ⟨i + 1, ρ0, ?_, (by omega), (by dsimp only; omega)⟩
          exact emb_famR (ρ := ρ0) (fun _ => rfl) (fun _ => rfl) (by decide) (by decide) rfl (fun j hj => rfl) (fun r hr => ⟨_, (by show famF n (fun _ => n) (colG (cpM p n (formT p T fo)) i n) r = _; exact famF_at (w := fun _ => n) hr), fun V => mt_vec (fun z hz => colG_n hr)⟩) ⟨m_calg, (mi), (by first | exact ⟨rfl, rfl, rfl, rfl⟩ | exact ⟨rfl, by omega, rfl, rfl⟩), (mi), trivial⟩
    · try simp only [hcs] at hc29
      have ge_i : n = i := by omega
      subst ge_i
      refine snd_exit ?_
      refine snd_emb (ρ := ρ0) (env2 := [(4, rowsA n n (cpM p n (formT p T fo)))]) (ol2 := []) ?_ ?_
      · exact ⟨⟨mt_fam_fz (w := fun _ => n) (F := colF (cpM p n (formT p T fo)) n) trivial (fun _ => trivial) rfl (fun r hr => famF_at (w := fun _ => n) hr) (fun _ _ => rfl) (fun r hr z hz => by unfold colF; rw [if_pos hz]), trivial⟩, trivial, trivial⟩
      apply sr tokTB (by kernel_rfl)
      · intro RR hRR
        refine w_move (by constructor) ?_
        refine w_assign (by constructor) ?_
        exact hRR
      refine snd_ret ?_
      exact rt (T := TB) (fun V => mt_rows (fun _ _ _ _ => rfl))
end Go.Am

set_option linter.unusedVariables false
set_option linter.unusedSimpArgs false
set_option maxRecDepth 4000
namespace Go.Am
attribute [local irreducible] retQ retQp
open Go.Proofs
theorem c_row {p : Int} {n : Nat} {T : Nat → Nat → Nat → Int} {fo : Nat → Int} (hv0 : VN p n T fo) {v : Nat → Int} (hv8 : B8 v) : ACalls Try.prog TB 108 [.cptr (algA p (n : Int) T fo), vecA v] (.own 0 0 n 2) (HR n v) := by
  have hn6 := hv0.n6
  refine acalls_of tokTB Try.func108 rfl rfl (Nat.le_of_ble_eq_true rfl) ?_
  apply sr tokTB (by kernel_rfl)
  · intro RR hRR
    refine w_boxc (HV.eq (by constructor)) (by exact trivial) ?_
    refine w_assign (by constructor) ?_
    exact hRR
  apply sr tokTB (by kernel_rfl)
  · intro RR hRR
    refine w_bsl und27 kn2 (by rw [sz2]; rfl) rfl trivial trivial rfl ?_
    refine w_assign (by constructor) ?_
    exact hRR
  refine snd_seq ?_
  apply sr tokTB (by kernel_rfl)
  · intro RR hRR
    refine w_move (by constructor) ?_
    refine y_call rfl (ec exn) (c_n) ?_
    refine w_sl_ah rfl rfl und32 kn5 (by exact sz5.symm) (by decide) (by omega) ?_
    refine w_len_r rfl rfl und139 ?_
    refine w_move (by constructor) ?_
    exact hRR
  refine snd_block ?_
  refine snd_loop (S := Nat) (fun i => ([(5, .own 905 0 i 2), (11, .ro n (fun i => .int .u8 (v i))), (12, .int .i64 (n : Int)), (13, .int .i64 (i : Int))], [(905, .one (Z64 i) (C64 i v))])) (fun i => i ≤ n) (fun i => n - i) (0) (fun k i => bif Nat.beq k 905 then (8, i) else (k, i)) ?_ ?_ ?_
  · exact ⟨⟨(by first | exact ⟨rfl, rfl, rfl, rfl⟩ | exact ⟨rfl, by omega, rfl, rfl⟩), (by first | exact ⟨rfl, fun _ _ => rfl⟩ | exact mt_fz (by exact ⟨(ne_fst rfl), trivial⟩) rfl (fun _ _ => rfl)), (mi), (mi), trivial⟩, ⟨⟨rfl, (sx), (by exact mt_arr0)⟩, trivial⟩, ⟨⟨(fun h => by first | exact ⟨rfl, rfl⟩ | exact absurd h (by decide)), trivial⟩, trivial⟩⟩
  · exact Nat.zero_le _
  intro i hi0
  refine sq (env2 := [(5, .own 905 0 i 2), (11, .ro n (fun i => .int .u8 (v i))), (12, .int .i64 (n : Int)), (13, .int .i64 (i : Int))]) (ol2 := [(905, .one (Z64 i) (C64 i v))]) rfl rfl ?_
  apply sr tokTB (by kernel_rfl)
  · intro RR hRR
    refine w_lss rfl rfl ?_
    exact hRR
  refine snd_seq ?_
  refine snd_cond _ rfl (fun hc14 => ?_) (fun hc14 => ?_)
  · try simp only [hcs] at hc14
    have lt_i : i < n := by omega
    refine snd_skip ?_
    refine snd_seq ?_
    refine snd_block ?_
    apply sr tokTB (by kernel_rfl)
    · intro RR hRR
      refine w_iar rfl rfl und139 kn5 (by exact sz5.symm) ?_ rfl ?_
      · exact ⟨by omega, by omega⟩
      first | refine w_ldc rfl kn5 (by constructor) (by exact sz5.symm) (by exact ag5.symm) ?_ | refine w_ldp rfl kn5 rfl (by constructor) (by exact sz5.symm) (by exact ag5.symm) ?_
      refine w_assign (by constructor) ?_
      exact hRR
    apply lr tokTB (by kernel_rfl)
    · intro RR hRR
      refine w_move (by constructor) ?_
      refine w_move (by constructor) ?_
      refine w_conv rfl und5 und2 (by exact w64b hv8 _) ?_
      refine w_bsl1 und27 kn2 (by rw [sz2]; rfl) rfl (by constructor) (by first | exact trivial | exact cel_cap2) (by exact sz2.symm) (by first | exact trivial | exact ssh_vec | exact ⟨rfl, fun _ => trivial⟩) ?_
      refine w_app_o und27 rfl rfl kn2 rfl rfl (fun C h => ⟨rfl, rfl, rfl, h⟩) (by rw [by2]; omega) (by omega) rfl ?_
      refine w_assign (by constructor) ?_
      exact hRR
    apply lr tokTB (by kernel_rfl)
    · intro RR hRR
      refine y_add rfl rfl ?_
      refine w_move (by constructor) ?_
      exact hRR
    refine ⟨i + 1, (fun k i => bif Nat.beq k 905 then (21, i) else (k, i)), ?_, (by omega), (by dsimp only; omega)⟩
    exact ⟨⟨(by first | exact ⟨rfl, rfl, rfl, rfl⟩ | exact ⟨rfl, by omega, rfl, rfl⟩), (by first | exact ⟨rfl, fun _ _ => rfl⟩ | exact mt_fz (by exact ⟨(ne_fst rfl), trivial⟩) rfl (fun _ _ => rfl)), (mi), (mi), trivial⟩, ⟨⟨rfl, (sx), (by exact mt_app (fun _ _ => rfl) rfl)⟩, trivial⟩, ⟨⟨(fun h => by first | exact ⟨rfl, rfl⟩ | exact absurd h (by decide)), trivial⟩, trivial⟩⟩
  · try simp only [hcs] at hc14
    have ge_i : n = i := by omega
    subst ge_i
    refine snd_exit ?_
    apply sr tokTB (by kernel_rfl)
    · intro RR hRR
      refine w_move (by constructor) ?_
      refine w_assign (by constructor) ?_
      exact hRR
    refine snd_ret ?_
    show retQ TB _ _ _ _ _ _
    exact rt_own rfl rfl rfl (fun _ => trivial) (fun V i hi => rfl)
theorem c_l02Coproduct {p : Int} {n : Nat} {T : Nat → Nat → Nat → Int} {fo : Nat → Int} (hv0 : VN p n T fo) {v : Nat → Int} (hv : VV p n v) (hr : rankT p n T fo = n) : ACalls Try.prog TB 61 [algA p (n : Int) T fo, vecA v] (.own 0 0 n 27) [(0, .one (ZR n) (CO 1 n (fun _ => n) 2)), (1, .many (famF n (fun _ => n) (cpD p (cpM p n (formT p T fo)) (fun i => timesF p n T v (eF i)) n)))] := by
  have hp8 := hv0.p0
  have hn6 := hv0.n6
  have hn0 := hv0.n0
  have hv8 := hv.B8 (p := p) (by omega)
  have hFB : ∀ i, Bp p ((formT p T fo) i) := fun i => formT_Bp (by omega) i
  have hCB : ∀ r, Bp p ((cpM p n (formT p T fo)) r) := fun r => cpM_Bp hv0.hp hFB hr r
  have hWB : ∀ i, Bp p (timesF p n T v (eF i)) := fun i => timesF_Bp (by omega)
  have hWB8 : ∀ i, B8 (timesF p n T v (eF i)) := fun i => B8_of (by omega) (hWB i)
  refine acalls_of tokTB Try.func61 rfl rfl (Nat.le_of_ble_eq_true rfl) ?_
  apply sr tokTB (by kernel_rfl)
  · intro RR hRR
    refine w_boxc (HV.eq (by constructor)) (by exact trivial) ?_
    refine w_boxc (HV.eq (by constructor)) (by exact trivial) ?_
    refine w_assign (by constructor) ?_
    exact hRR
  apply sd tokTB mixed (by kernel_rfl) (by kernel_rfl)
  · intro RR hRR
    refine w_fac rfl und34 rfl kn2 nz2 (by decide) rfl (by constructor) ?_
    refine w_ldc rfl kn2 (by constructor) (by exact sz2.symm) (by exact ag2.symm) ?_
    refine w_ldc rfl kn34 (by constructor) (by exact sz34.symm) (by exact ag34.symm) ?_
    refine w_callc rfl (ec exn) (c_l02Copairing hv0 hr) (by exact closed_rows) (by exact ⟨closed_alg, trivial⟩) ?_
    refine w_bsl und78 kn27 (by rw [sz27]; rfl) rfl trivial trivial rfl ?_
    refine w_assign (by constructor) ?_
    refine w_assign (by constructor) ?_
    refine w_assign (by constructor) ?_
    exact hRR
  refine snd_seq ?_
  apply sr tokTB (by kernel_rfl)
  · intro RR hRR
    refine w_assign (by constructor) ?_
    exact hRR
  refine snd_block ?_
  refine snd_loop (S := Nat) (fun i => ([(2, .cptr (algA p (n : Int) T fo)), (3, .cptr (vecA v)), (5, .int .i64 (n : Int)), (6, rowsA n n (cpM p n (formT p T fo))), (7, .own 905 0 i 27), (8, .int .i64 (i : Int))], [(905, .one (ZR (i)) (CO 1 (i) ((fun _ => n)) 2)), (1, .many (famF (i) ((fun _ => n)) ((fun _ _ => 0))))])) (fun i => i ≤ n) (fun i => n - i) (0) (ρP 905 1 18 912 0) ?_ ?_ ?_
  · exact emb_fam (by decide) (by decide) (by decide) (by decide) rfl (fun j hj => absurd hj (by omega)) (fun h => absurd h (by omega)) (fun h => absurd h (by omega)) (fun r hr => absurd hr (by omega)) ⟨m_calg, (m_cvec (fun _ _ => rfl)), (mi), (mt_rows (V := _) (fun _ _ _ _ => rfl)), (by first | exact ⟨rfl, rfl, rfl, rfl⟩ | exact ⟨rfl, by omega, rfl, rfl⟩), (mi), trivial⟩
  · exact Nat.zero_le _
  intro i hi0
  refine sq (env2 := [(2, .cptr (algA p (n : Int) T fo)), (3, .cptr (vecA v)), (5, .int .i64 (n : Int)), (6, rowsA n n (cpM p n (formT p T fo))), (7, .own 905 0 i 27), (8, .int .i64 (i : Int))]) (ol2 := [(905, .one (ZR (i)) (CO 1 (i) ((fun _ => n)) 2)), (1, .many (famF (i) ((fun _ => n)) ((fun _ _ => 0))))]) rfl rfl ?_
  refine snd_seq ?_
  apply sr tokTB (by kernel_rfl)
  · intro RR hRR
    refine w_move (by constructor) ?_
    refine w_move (by constructor) ?_
    refine w_lss rfl rfl ?_
    exact hRR
  refine snd_cond _ rfl (fun hc21 => ?_) (fun hc21 => ?_)
  · try simp only [hcs] at hc21
    have lt_i : i < n := by omega
    refine snd_skip ?_
    refine snd_seq ?_
    refine snd_block ?_
    apply lr tokTB (by kernel_rfl)
    · intro RR hRR
      refine w_move (by constructor) ?_
      refine w_move (by constructor) ?_
      refine w_mks und27 rfl rfl kn2 rfl (by omega) (by rw [by2]; omega) (by omega) rfl ?_
      refine w_bsl1 und78 kn27 (by rw [sz27]; rfl) rfl (by constructor) (by first | exact trivial | exact cel_cap2) (by exact sz27.symm) (by first | exact trivial | exact ssh_vec | exact ⟨rfl, fun _ => trivial⟩) ?_
      refine w_app_o und78 rfl rfl kn27 rfl rfl (fun C h => ⟨rfl, rfl, rfl, h⟩) (by rw [by27]; omega) (by omega) rfl ?_
      refine w_assign (by constructor) ?_
      exact hRR
    apply lr tokTB (by kernel_rfl)
    · intro RR hRR
      refine w_move (by constructor) ?_
      refine y_add rfl rfl ?_
      refine w_assign (by constructor) ?_
      exact hRR
    refine ⟨i + 1, (ρP 905 1 28 26 i), ?_, (by omega), (by dsimp only; omega)⟩
    exact emb_fam (by decide) (by decide) (by decide) (by decide) rfl (fun j hj hne => appF_lt (by omega)) (fun h => (appF_ge (Nat.le_refl _) (by omega)).trans (by rw [Nat.sub_self]; rfl)) (fun h => ⟨C64 n (fun _ => 0), (by show some (AV.arr n (fun _ => TB.zero 2), AV.arr n (fun _ => TB.zero 2)) = _; rw [zr2]), fun V => mt_vec (fun j hj => rfl)⟩) (fun r hr hne => famF_at (c := i) (w := fun _ => n) (F := fun _ _ => 0) (by omega)) ⟨m_calg, (m_cvec (fun _ _ => rfl)), (mi), (mt_rows (V := _) (fun _ _ _ _ => rfl)), (by first | exact ⟨rfl, rfl, rfl, rfl⟩ | exact ⟨rfl, by omega, rfl, rfl⟩), (mi), trivial⟩
  · try simp only [hcs] at hc21
    have ge_i : n = i := by omega
    subst ge_i
    refine snd_exit ?_
    refine snd_seq ?_
    apply sr tokTB (by kernel_rfl)
    · intro RR hRR
      refine w_assign (by constructor) ?_
      exact hRR
    refine snd_block ?_
    refine snd_loop (S := Nat) (fun i => ([(2, .cptr (algA p (n : Int) T fo)), (3, .cptr (vecA v)), (5, .int .i64 (n : Int)), (6, rowsA n n (cpM p n (formT p T fo))), (7, .own 905 0 n 27), (9, .int .i64 (i : Int))], [(905, .one (ZR n) (CO 1 n (fun _ => n) 2)), (1, .many (famF n (fun _ => n) (cpD p (cpM p n (formT p T fo)) (fun i => timesF p n T v (eF i)) i)))])) (fun i => i ≤ n) (fun i => n - i) (0) ρ0 ?_ ?_ ?_
    · exact emb_famR (ρ := ρ0) (fun _ => rfl) (fun _ => rfl) (by decide) (by decide) rfl (fun j hj => rfl) (fun r hr => ⟨_, famF_at (w := fun _ => n) (F := fun _ _ => 0) hr, fun V => mt_vec (fun z hz => rfl)⟩) ⟨m_calg, (m_cvec (fun _ _ => rfl)), (mi), (mt_rows (V := _) (fun _ _ _ _ => rfl)), (by first | exact ⟨rfl, rfl, rfl, rfl⟩ | exact ⟨rfl, by omega, rfl, rfl⟩), (mi), trivial⟩
    · exact Nat.zero_le _
    intro i hi2
    refine sq (env2 := [(2, .cptr (algA p (n : Int) T fo)), (3, .cptr (vecA v)), (5, .int .i64 (n : Int)), (6, rowsA n n (cpM p n (formT p T fo))), (7, .own 905 0 n 27), (9, .int .i64 (i : Int))]) (ol2 := [(905, .one (ZR n) (CO 1 n (fun _ => n) 2)), (1, .many (famF n (fun _ => n) (cpD p (cpM p n (formT p T fo)) (fun i => timesF p n T v (eF i)) i)))]) rfl rfl ?_
    refine snd_seq ?_
    apply sr tokTB (by kernel_rfl)
    · intro RR hRR
      refine w_move (by constructor) ?_
      refine w_move (by constructor) ?_
      refine w_lss rfl rfl ?_
      exact hRR
    refine snd_cond _ rfl (fun hc31 => ?_) (fun hc31 => ?_)
    · try simp only [hcs] at hc31
      have lt_i : i < n := by omega
      refine snd_skip ?_
      refine snd_seq ?_
      refine snd_block ?_
      apply sd tokTB mixed (by kernel_rfl) (by kernel_rfl)
      · intro RR hRR
        refine w_ldc rfl kn34 (by constructor) (by exact sz34.symm) (by exact ag34.symm) ?_
        refine w_ldc rfl kn32 (by constructor) (by exact sz32.symm) (by exact ag32.symm) ?_
        refine w_move (by constructor) ?_
        refine y_call rfl (ec exn) (c_l01Basis (i := i) (by omega)) ?_
        refine y_call rfl (ec (ec (ec exn))) (c_l01Times (u := v) (v := eF i) (by omega) (by omega) hn6 hv0.T8 hv8 (eF_B8 i)) ?_
        refine w_alloc kn32 rfl zr32 ?_
        refine w_stw rfl (by constructor) kn32 rfl (by exact trivial) (sx) (by exact sz32.symm) ?_
        exact hRR
      apply sr tokTB (by kernel_rfl)
      · intro RR hRR
        refine w_assign (by constructor) ?_
        exact hRR
      refine snd_block ?_
      refine snd_loop (S := Nat) (fun k => ([(2, .cptr (algA p (n : Int) T fo)), (3, .cptr (vecA v)), (5, .int .i64 (n : Int)), (6, rowsA n n (cpM p n (formT p T fo))), (7, .own 905 0 n 27), (9, .int .i64 (i : Int)), (10, .ptr 10 0 [] 0 (vecA (fun _ => 0))), (11, .int .i64 (k : Int))], [(905, .one (ZR n) (CO 1 n (fun _ => n) 2)), (1, .many (famF n (fun _ => n) (cpS p (cpM p n (formT p T fo)) (fun i => timesF p n T v (eF i)) i (k) (0)))), (10, .one (vecA (fun _ => 0)) (vecA (timesF p n T v (eF i))))])) (fun k => k ≤ n) (fun k => n - k) (0) (ρL [] 77 77 77) ?_ ?_ ?_
      · exact emb_three ⟨by decide, by decide, by decide⟩ (by decide) rfl (fun j hj => rfl) (fun r hr => ⟨_, (by show famF n (fun _ => n) (cpD p (cpM p n (formT p T fo)) (fun i => timesF p n T v (eF i)) i) r = _; exact famF_at (w := fun _ => n) hr), fun V => mt_vec (fun z hz => cpS_0.symm)⟩) ⟨_, rfl, ssh_vec, fun V => mt_vec (fun _ _ => rfl)⟩ ⟨m_calg, (m_cvec (fun _ _ => rfl)), (mi), (mt_rows (V := _) (fun _ _ _ _ => rfl)), (by first | exact ⟨rfl, rfl, rfl, rfl⟩ | exact ⟨rfl, by omega, rfl, rfl⟩), (mi), ⟨rfl, rfl, rfl, rfl, rfl⟩, (mi), trivial⟩
      · exact Nat.zero_le _
      intro k hi4
      refine sq (env2 := [(2, .cptr (algA p (n : Int) T fo)), (3, .cptr (vecA v)), (5, .int .i64 (n : Int)), (6, rowsA n n (cpM p n (formT p T fo))), (7, .own 905 0 n 27), (9, .int .i64 (i : Int)), (10, .ptr 10 0 [] 0 (vecA (fun _ => 0))), (11, .int .i64 (k : Int))]) (ol2 := [(905, .one (ZR n) (CO 1 n (fun _ => n) 2)), (1, .many (famF n (fun _ => n) (cpS p (cpM p n (formT p T fo)) (fun i => timesF p n T v (eF i)) i (k) (0)))), (10, .one (vecA (fun _ => 0)) (vecA (timesF p n T v (eF i))))]) rfl rfl ?_
      refine snd_seq ?_
      apply sr tokTB (by kernel_rfl)
      · intro RR hRR
        refine w_move (by constructor) ?_
        refine w_move (by constructor) ?_
        refine w_lss rfl rfl ?_
        exact hRR
      refine snd_cond _ rfl (fun hc41 => ?_) (fun hc41 => ?_)
      · try simp only [hcs] at hc41
        have lt_k : k < n := by omega
        refine snd_skip ?_
        refine snd_seq ?_
        refine snd_block ?_
        apply sr tokTB (by kernel_rfl)
        · intro RR hRR
          refine w_assign (by constructor) ?_
          exact hRR
        refine snd_block ?_
        refine snd_loop (S := Nat) (fun l => ([(2, .cptr (algA p (n : Int) T fo)), (3, .cptr (vecA v)), (5, .int .i64 (n : Int)), (6, rowsA n n (cpM p n (formT p T fo))), (7, .own 905 0 n 27), (9, .int .i64 (i : Int)), (10, .ptr 10 0 [] 0 (vecA (fun _ => 0))), (11, .int .i64 (k : Int)), (12, .int .i64 (l : Int))], [(905, .one (ZR n) (CO 1 n (fun _ => n) 2)), (1, .many (famF n (fun _ => n) (cpS p (cpM p n (formT p T fo)) (fun i => timesF p n T v (eF i)) i (k) (l)))), (10, .one (vecA (fun _ => 0)) (vecA (timesF p n T v (eF i))))])) (fun l => l ≤ n) (fun l => n - l) (0) (ρL [] 77 77 77) ?_ ?_ ?_
        · exact emb_three ⟨by decide, by decide, by decide⟩ (by decide) rfl (fun j hj => rfl) (fun r hr => ⟨_, (by show famF n (fun _ => n) (cpS p (cpM p n (formT p T fo)) (fun i => timesF p n T v (eF i)) i (k) (0)) r = _; exact famF_at (w := fun _ => n) hr), fun V => mt_vec (fun z hz => rfl)⟩) ⟨_, rfl, ssh_vec, fun V => mt_vec (fun _ _ => rfl)⟩ ⟨m_calg, (m_cvec (fun _ _ => rfl)), (mi), (mt_rows (V := _) (fun _ _ _ _ => rfl)), (by first | exact ⟨rfl, rfl, rfl, rfl⟩ | exact ⟨rfl, by omega, rfl, rfl⟩), (mi), ⟨rfl, rfl, rfl, rfl, rfl⟩, (mi), (mi), trivial⟩
        · exact Nat.zero_le _
        intro l hi6
        refine sq (env2 := [(2, .cptr (algA p (n : Int) T fo)), (3, .cptr (vecA v)), (5, .int .i64 (n : Int)), (6, rowsA n n (cpM p n (formT p T fo))), (7, .own 905 0 n 27), (9, .int .i64 (i : Int)), (10, .ptr 10 0 [] 0 (vecA (fun _ => 0))), (11, .int .i64 (k : Int)), (12, .int .i64 (l : Int))]) (ol2 := [(905, .one (ZR n) (CO 1 n (fun _ => n) 2)), (1, .many (famF n (fun _ => n) (cpS p (cpM p n (formT p T fo)) (fun i => timesF p n T v (eF i)) i (k) (l)))), (10, .one (vecA (fun _ => 0)) (vecA (timesF p n T v (eF i))))]) rfl rfl ?_
        obtain ⟨cb1, cb2, cb3, cbt, cbt2⟩ := cp_bd hp8 hCB hWB i l k
        refine snd_seq ?_
        apply sr tokTB (by kernel_rfl)
        · intro RR hRR
          refine w_move (by constructor) ?_
          refine w_move (by constructor) ?_
          refine w_lss rfl rfl ?_
          exact hRR
        refine snd_cond _ rfl (fun hc46 => ?_) (fun hc46 => ?_)
        · try simp only [hcs] at hc46
          have lt_l : l < n := by omega
          refine snd_skip ?_
          refine snd_seq ?_
          refine snd_block ?_
          apply sr tokTB (by kernel_rfl)
          · intro RR hRR
            refine w_move (by constructor) ?_
            refine w_move (by constructor) ?_
            refine w_iao rfl rfl und78 kn27 ?_ ?_
            · exact ⟨by omega, by omega⟩
            first | refine w_ldc rfl kn27 (by constructor) (by exact sz27.symm) (by exact ag27.symm) ?_ | refine w_ldp rfl kn27 rfl (by constructor) (by exact sz27.symm) (by exact ag27.symm) ?_
            refine w_assign (by constructor) ?_
            exact hRR
          apply ld tokTB mixed (by kernel_rfl) (by kernel_rfl)
          · intro RR hRR
            refine w_move (by constructor) ?_
            refine w_move (by constructor) ?_
            refine w_move (by constructor) ?_
            refine w_move (by constructor) ?_
            refine w_iao rfl rfl und27 kn2 ?_ ?_
            · exact ⟨by omega, by omega⟩
            refine w_ldp (v := .int .i64 (cpD p (cpM p n (formT p T fo)) (fun i => timesF p n T v (eF i)) i l k)) rfl kn2 (by show famF n (fun _ => n) (cpS p (cpM p n (formT p T fo)) (fun i => timesF p n T v (eF i)) i (k) (l)) l = _; exact famF_at (w := fun _ => n) lt_l) (by show HV (.int .i64 (cpS p (cpM p n (formT p T fo)) (fun i => timesF p n T v (eF i)) i (k) (l) l k)) _; rw [cpS_at]; constructor) (by exact sz2.symm) (by exact ag2.symm) ?_
            refine w_move (by constructor) ?_
            refine w_move (by constructor) ?_
            refine w_iar rfl rfl und78 kn27 (by exact sz27.symm) ?_ rfl ?_
            · exact ⟨by omega, by omega⟩
            first | refine w_ldc rfl kn27 (by constructor) (by exact sz27.symm) (by exact ag27.symm) ?_ | refine w_ldp rfl kn27 rfl (by constructor) (by exact sz27.symm) (by exact ag27.symm) ?_
            refine w_move (by constructor) ?_
            refine w_iar rfl rfl und27 kn2 (by exact sz2.symm) ?_ rfl ?_
            · exact ⟨by omega, by omega⟩
            first | refine w_ldc rfl kn2 (by constructor) (by exact sz2.symm) (by exact ag2.symm) ?_ | refine w_ldp rfl kn2 rfl (by constructor) (by exact sz2.symm) (by exact ag2.symm) ?_
            refine w_move (by constructor) ?_
            refine w_iap rfl rfl und32 kn5 rfl (by exact sz5.symm) rfl ?_ ?_
            · exact ⟨by omega, by omega⟩
            first | refine w_ldc rfl kn5 (by constructor) (by exact sz5.symm) (by exact ag5.symm) ?_ | refine w_ldp rfl kn5 rfl (by constructor) (by exact sz5.symm) (by exact ag5.symm) ?_
            refine w_conv rfl und5 und2 (by exact w64b (B8_of (by omega) (hWB i)) _) ?_
            refine w_mul rfl rfl (by exact w64 (n := (cpM p n (formT p T fo)) i k * timesF p n T v (eF i) l) (by omega) (by omega)) ?_
            refine w_add rfl rfl (by exact w64 (n := cpD p (cpM p n (formT p T fo)) (fun i => timesF p n T v (eF i)) i l k + (cpM p n (formT p T fo)) i k * timesF p n T v (eF i) l) (by omega) (by omega)) ?_
            refine w_fac rfl und34 rfl kn2 nz2 (by decide) rfl (by constructor) ?_
            refine w_ldc rfl kn2 (by constructor) (by exact sz2.symm) (by exact ag2.symm) ?_
            refine w_rem rfl rfl (by first | assumption | omega) ?_
            refine w_iao rfl rfl und27 kn2 ?_ ?_
            · exact ⟨by omega, by omega⟩
            refine w_sti (i := l) (f := cpS p (cpM p n (formT p T fo)) (fun i => timesF p n T v (eF i)) i (k) (l) l) rfl rfl kn2 (by show famF n (fun _ => n) (cpS p (cpM p n (formT p T fo)) (fun i => timesF p n T v (eF i)) i (k) (l)) l = _; exact famF_at (w := fun _ => n) lt_l) (by exact trivial) (by exact sz2.symm) ?_
            exact hRR
          apply lr tokTB (by kernel_rfl)
          · intro RR hRR
            refine w_move (by constructor) ?_
            refine y_add rfl rfl ?_
            refine w_assign (by constructor) ?_
            exact hRR
          refine ⟨l + 1, (ρL [] 77 77 77), ?_, (by omega), (by dsimp only; omega)⟩
          exact emb_three ⟨by decide, by decide, by decide⟩ (by decide) rfl (fun j hj => rfl) (fun r hr => fam_uset (c := k) rfl hr (fun z hz => cpS_set cbt) (fun r h z hz => cpS_oth h)) ⟨_, rfl, ssh_vec, fun V => mt_vec (fun _ _ => rfl)⟩ ⟨m_calg, (m_cvec (fun _ _ => rfl)), (mi), (mt_rows (V := _) (fun _ _ _ _ => rfl)), (by first | exact ⟨rfl, rfl, rfl, rfl⟩ | exact ⟨rfl, by omega, rfl, rfl⟩), (mi), ⟨rfl, rfl, rfl, rfl, rfl⟩, (mi), (mi), trivial⟩
        · try simp only [hcs] at hc46
          have ge_l : n = l := by omega
          subst ge_l
          refine snd_exit ?_
          apply lr tokTB (by kernel_rfl)
          · intro RR hRR
            refine w_move (by constructor) ?_
            refine y_add rfl rfl ?_
            refine w_assign (by constructor) ?_
            exact hRR
          refine ⟨k + 1, (ρL [] 77 77 77), ?_, (by omega), (by dsimp only; omega)⟩
          exact emb_three ⟨by decide, by decide, by decide⟩ (by decide) rfl (fun j hj => rfl) (fun r hr => ⟨_, (by show famF n (fun _ => n) (cpS p (cpM p n (formT p T fo)) (fun i => timesF p n T v (eF i)) i (k) (n)) r = _; exact famF_at (w := fun _ => n) hr), fun V => mt_vec (fun z hz => cpS_n hr)⟩) ⟨_, rfl, ssh_vec, fun V => mt_vec (fun _ _ => rfl)⟩ ⟨m_calg, (m_cvec (fun _ _ => rfl)), (mi), (mt_rows (V := _) (fun _ _ _ _ => rfl)), (by first | exact ⟨rfl, rfl, rfl, rfl⟩ | exact ⟨rfl, by omega, rfl, rfl⟩), (mi), ⟨rfl, rfl, rfl, rfl, rfl⟩, (mi), trivial⟩
      · try simp only [hcs] at hc41
        have ge_k : n = k := by omega
        subst ge_k
        refine snd_exit ?_
        apply lr tokTB (by kernel_rfl)
        · intro RR hRR
          refine w_move (by constructor) ?_
          refine y_add rfl rfl ?_
          refine w_assign (by constructor) ?_
          exact hRR
        refine ⟨i + 1, ρ0, ?_, (by omega), (by dsimp only; omega)⟩
        exact emb_famR (ρ := ρ0) (fun _ => rfl) (fun _ => rfl) (by decide) (by decide) rfl (fun j hj => rfl) (fun r hr => ⟨_, (by show famF n (fun _ => n) (cpS p (cpM p n (formT p T fo)) (fun i => timesF p n T v (eF i)) i (n) (0)) r = _; exact famF_at (w := fun _ => n) hr), fun V => mt_vec (fun z hz => cpS_e hz)⟩) ⟨m_calg, (m_cvec (fun _ _ => rfl)), (mi), (mt_rows (V := _) (fun _ _ _ _ => rfl)), (by first | exact ⟨rfl, rfl, rfl, rfl⟩ | exact ⟨rfl, by omega, rfl, rfl⟩), (mi), trivial⟩
    · try simp only [hcs] at hc31
      have ge_i : n = i := by omega
      subst ge_i
      refine snd_exit ?_
      apply sr tokTB (by kernel_rfl)
      · intro RR hRR
        refine w_move (by constructor) ?_
        refine w_assign (by constructor) ?_
        exact hRR
      refine snd_ret ?_
      show retQ TB _ _ _ _ _ _
      exact rt_fam (T := TB) (a := 905) rfl (by decide) rfl rfl (fun r hr => famF_at (w := fun _ => n) (F := cpD p (cpM p n (formT p T fo)) (fun i => timesF p n T v (eF i)) n) hr)
theorem c_coproduct {p : Int} {n : Nat} {T : Nat → Nat → Nat → Int} {fo : Nat → Int} (hv0 : VN p n T fo) {v : Nat → Int} (hv : VV p n v) (hr : rankT p n T fo = n) : ACalls Try.prog TB 65 [.cptr (algA p (n : Int) T fo), vecA v] (.own 0 0 n 27) [(0, .one (ZR n) (CO 1 n (fun _ => n) 2)), (1, .many (famF n (fun _ => n) (cpD p (cpM p n (formT p T fo)) (fun i => timesF p n T v (eF i)) n)))] := by
  have hp8 := hv0.p0
  have hn6 := hv0.n6
  have hn0 := hv0.n0
  have hv8 := hv.B8 (p := p) (by omega)
  have hFB : ∀ i, Bp p ((formT p T fo) i) := fun i => formT_Bp (by omega) i
  have hCB : ∀ r, Bp p ((cpM p n (formT p T fo)) r) := fun r => cpM_Bp hv0.hp hFB hr r
  have hWB : ∀ i, Bp p (timesF p n T v (eF i)) := fun i => timesF_Bp (by omega)
  have hWB8 : ∀ i, B8 (timesF p n T v (eF i)) := fun i => B8_of (by omega) (hWB i)
  refine acalls_of tokTB Try.func65 rfl rfl (Nat.le_of_ble_eq_true rfl) ?_
  apply sr tokTB (by kernel_rfl)
  · intro RR hRR
    refine w_boxc (HV.eq (by constructor)) (by exact trivial) ?_
    refine w_assign (by constructor) ?_
    exact hRR
  apply sr tokTB (by kernel_rfl)
  · intro RR hRR
    refine w_move (by constructor) ?_
    refine w_callc rfl (ec exn) (c_copairing hv0 hr) (by exact closed_rows) (by exact ⟨closed_calg, trivial⟩) ?_
    refine w_bsl und78 kn27 (by rw [sz27]; rfl) rfl trivial trivial rfl ?_
    refine w_assign (by constructor) ?_
    refine w_assign (by constructor) ?_
    exact hRR
  refine snd_seq ?_
  apply sr tokTB (by kernel_rfl)
  · intro RR hRR
    refine w_move (by constructor) ?_
    refine w_len_r rfl rfl und78 ?_
    refine w_move (by constructor) ?_
    exact hRR
  refine snd_block ?_
  refine snd_loop (S := Nat) (fun i => ([(0, .cptr (algA p (n : Int) T fo)), (3, .cptr (vecA v)), (5, rowsA n n (cpM p n (formT p T fo))), (6, .own 905 0 i 27), (15, .int .i64 (n : Int)), (16, .int .i64 (i : Int))], [(905, .one (ZR (i)) (CO 1 (i) ((fun _ => n)) 2)), (1, .many (famF (i) ((fun _ => n)) ((fun _ _ => 0))))])) (fun i => i ≤ n) (fun i => n - i) (0) (ρP 905 1 13 912 0) ?_ ?_ ?_
  · exact emb_fam (by decide) (by decide) (by decide) (by decide) rfl (fun j hj => absurd hj (by omega)) (fun h => absurd h (by omega)) (fun h => absurd h (by omega)) (fun r hr => absurd hr (by omega)) ⟨m_calg, (m_cvec (fun _ _ => rfl)), (mt_rows (V := _) (fun _ _ _ _ => rfl)), (by first | exact ⟨rfl, rfl, rfl, rfl⟩ | exact ⟨rfl, by omega, rfl, rfl⟩), (mi), (mi), trivial⟩
  · exact Nat.zero_le _
  intro i hi0
  refine sq (env2 := [(0, .cptr (algA p (n : Int) T fo)), (3, .cptr (vecA v)), (5, rowsA n n (cpM p n (formT p T fo))), (6, .own 905 0 i 27), (15, .int .i64 (n : Int)), (16, .int .i64 (i : Int))]) (ol2 := [(905, .one (ZR (i)) (CO 1 (i) ((fun _ => n)) 2)), (1, .many (famF (i) ((fun _ => n)) ((fun _ _ => 0))))]) rfl rfl ?_
  apply sr tokTB (by kernel_rfl)
  · intro RR hRR
    refine w_lss rfl rfl ?_
    exact hRR
  refine snd_seq ?_
  refine snd_cond _ rfl (fun hc17 => ?_) (fun hc17 => ?_)
  · try simp only [hcs] at hc17
    have lt_i : i < n := by omega
    refine snd_skip ?_
    refine snd_seq ?_
    refine snd_block ?_
    apply lr tokTB (by kernel_rfl)
    · intro RR hRR
      refine w_move (by constructor) ?_
      refine w_move (by constructor) ?_
      refine y_call rfl (ec exn) (c_n) ?_
      refine w_mks und27 rfl rfl kn2 rfl (by omega) (by rw [by2]; omega) (by omega) rfl ?_
      refine w_bsl1 und78 kn27 (by rw [sz27]; rfl) rfl (by constructor) (by first | exact trivial | exact cel_cap2) (by exact sz27.symm) (by first | exact trivial | exact ssh_vec | exact ⟨rfl, fun _ => trivial⟩) ?_
      refine w_app_o und78 rfl rfl kn27 rfl rfl (fun C h => ⟨rfl, rfl, rfl, h⟩) (by rw [by27]; omega) (by omega) rfl ?_
      refine w_assign (by constructor) ?_
      exact hRR
    apply lr tokTB (by kernel_rfl)
    · intro RR hRR
      refine y_add rfl rfl ?_
      refine w_move (by constructor) ?_
      exact hRR
    refine ⟨i + 1, (ρP 905 1 23 21 i), ?_, (by omega), (by dsimp only; omega)⟩
    exact emb_fam (by decide) (by decide) (by decide) (by decide) rfl (fun j hj hne => appF_lt (by omega)) (fun h => (appF_ge (Nat.le_refl _) (by omega)).trans (by rw [Nat.sub_self]; rfl)) (fun h => ⟨C64 n (fun _ => 0), (by show some (AV.arr n (fun _ => TB.zero 2), AV.arr n (fun _ => TB.zero 2)) = _; rw [zr2]), fun V => mt_vec (fun j hj => rfl)⟩) (fun r hr hne => famF_at (c := i) (w := fun _ => n) (F := fun _ _ => 0) (by omega)) ⟨m_calg, (m_cvec (fun _ _ => rfl)), (mt_rows (V := _) (fun _ _ _ _ => rfl)), (by first | exact ⟨rfl, rfl, rfl, rfl⟩ | exact ⟨rfl, by omega, rfl, rfl⟩), (mi), (mi), trivial⟩
  · try simp only [hcs] at hc17
    have ge_i : n = i := by omega
    subst ge_i
    refine snd_exit ?_
    refine snd_seq ?_
    apply sr tokTB (by kernel_rfl)
    · intro RR hRR
      refine w_move (by constructor) ?_
      refine w_len_r rfl rfl und78 ?_
      refine w_move (by constructor) ?_
      exact hRR
    refine snd_block ?_
    refine snd_loop (S := Nat) (fun i => ([(0, .cptr (algA p (n : Int) T fo)), (3, .cptr (vecA v)), (5, rowsA n n (cpM p n (formT p T fo))), (6, .own 905 0 n 27), (26, .int .i64 (n : Int)), (27, .int .i64 (i : Int))], [(905, .one (ZR n) (CO 1 n (fun _ => n) 2)), (1, .many (famF n (fun _ => n) (cpD p (cpM p n (formT p T fo)) (fun i => timesF p n T v (eF i)) i)))])) (fun i => i ≤ n) (fun i => n - i) (0) ρ0 ?_ ?_ ?_
    · exact emb_famR (ρ := ρ0) (fun _ => rfl) (fun _ => rfl) (by decide) (by decide) rfl (fun j hj => rfl) (fun r hr => ⟨_, famF_at (w := fun _ => n) (F := fun _ _ => 0) hr, fun V => mt_vec (fun z hz => rfl)⟩) ⟨m_calg, (m_cvec (fun _ _ => rfl)), (mt_rows (V := _) (fun _ _ _ _ => rfl)), (by first | exact ⟨rfl, rfl, rfl, rfl⟩ | exact ⟨rfl, by omega, rfl, rfl⟩), (mi), (mi), trivial⟩
    · exact Nat.zero_le _
    intro i hi2
    refine sq (env2 := [(0, .cptr (algA p (n : Int) T fo)), (3, .cptr (vecA v)), (5, rowsA n n (cpM p n (formT p T fo))), (6, .own 905 0 n 27), (26, .int .i64 (n : Int)), (27, .int .i64 (i : Int))]) (ol2 := [(905, .one (ZR n) (CO 1 n (fun _ => n) 2)), (1, .many (famF n (fun _ => n) (cpD p (cpM p n (formT p T fo)) (fun i => timesF p n T v (eF i)) i)))]) rfl rfl ?_
    apply sr tokTB (by kernel_rfl)
    · intro RR hRR
      refine w_lss rfl rfl ?_
      exact hRR
    refine snd_seq ?_
    refine snd_cond _ rfl (fun hc28 => ?_) (fun hc28 => ?_)
    · try simp only [hcs] at hc28
      have lt_i : i < n := by omega
      refine snd_skip ?_
      refine snd_seq ?_
      refine snd_block ?_
      apply sr tokTB (by kernel_rfl)
      · intro RR hRR
        refine w_move (by constructor) ?_
        refine w_assign (by constructor) ?_
        exact hRR
      apply sd tokTB mixed (by kernel_rfl) (by kernel_rfl)
      · intro RR hRR
        refine w_move (by constructor) ?_
        refine w_move (by constructor) ?_
        refine w_ldc rfl kn32 (by constructor) (by exact sz32.symm) (by exact ag32.symm) ?_
        refine w_move (by constructor) ?_
        refine y_call rfl (ec exn) (c_basis (i := i) (by omega)) ?_
        refine y_call rfl (ec (ec (ec exn))) (c_times (u := v) (v := eF i) (by omega) (by omega) hn6 hv0.T8 hv8 (eF_B8 i)) ?_
        refine w_call rfl (ec (ec exn)) (c_row hv0 (hWB8 i)) (.inl ⟨trivial, ⟨fun _ => trivial, trivial⟩⟩) rfl (by constructor) rfl ?_
        refine w_len_o rfl rfl und27 ?_
        refine w_move (by constructor) ?_
        exact hRR
      refine snd_block ?_
      refine snd_loop (S := Nat) (fun k => ([(0, .cptr (algA p (n : Int) T fo)), (3, .cptr (vecA v)), (5, rowsA n n (cpM p n (formT p T fo))), (6, .own 905 0 n 27), (7, .int .i64 (i : Int)), (26, .int .i64 (n : Int)), (27, .int .i64 (i : Int)), (36, .own 37000 0 n 2), (37, .int .i64 (n : Int)), (38, .int .i64 (k : Int))], [(905, .one (ZR n) (CO 1 n (fun _ => n) 2)), (1, .many (famF n (fun _ => n) (cpI p (cpM p n (formT p T fo)) (fun i => timesF p n T v (eF i)) i (k) (0)))), (37000, .one (Z64 n) (C64 n (timesF p n T v (eF i))))])) (fun k => k ≤ n) (fun k => n - k) (0) (ρL [] 77 77 77) ?_ ?_ ?_
      · exact emb_three ⟨by decide, by decide, by decide⟩ (by decide) rfl (fun j hj => rfl) (fun r hr => ⟨_, (by show famF n (fun _ => n) (cpD p (cpM p n (formT p T fo)) (fun i => timesF p n T v (eF i)) i) r = _; exact famF_at (w := fun _ => n) hr), fun V => mt_vec (fun z hz => cpI_0.symm)⟩) ⟨_, rfl, ⟨rfl, fun _ => trivial⟩, fun V => mt_vec (fun _ _ => rfl)⟩ ⟨m_calg, (m_cvec (fun _ _ => rfl)), (mt_rows (V := _) (fun _ _ _ _ => rfl)), (by first | exact ⟨rfl, rfl, rfl, rfl⟩ | exact ⟨rfl, by omega, rfl, rfl⟩), (mi), (mi), (mi), (by first | exact ⟨rfl, rfl, rfl, rfl⟩ | exact ⟨rfl, by omega, rfl, rfl⟩), (mi), (mi), trivial⟩
      · exact Nat.zero_le _
      intro k hi4
      refine sq (env2 := [(0, .cptr (algA p (n : Int) T fo)), (3, .cptr (vecA v)), (5, rowsA n n (cpM p n (formT p T fo))), (6, .own 905 0 n 27), (7, .int .i64 (i : Int)), (26, .int .i64 (n : Int)), (27, .int .i64 (i : Int)), (36, .own 37000 0 n 2), (37, .int .i64 (n : Int)), (38, .int .i64 (k : Int))]) (ol2 := [(905, .one (ZR n) (CO 1 n (fun _ => n) 2)), (1, .many (famF n (fun _ => n) (cpI p (cpM p n (formT p T fo)) (fun i => timesF p n T v (eF i)) i (k) (0)))), (37000, .one (Z64 n) (C64 n (timesF p n T v (eF i))))]) rfl rfl ?_
      apply sr tokTB (by kernel_rfl)
      · intro RR hRR
        refine w_lss rfl rfl ?_
        exact hRR
      refine snd_seq ?_
      refine snd_cond _ rfl (fun hc39 => ?_) (fun hc39 => ?_)
      · try simp only [hcs] at hc39
        have lt_k : k < n := by omega
        refine snd_skip ?_
        refine snd_seq ?_
        refine snd_block ?_
        apply sr tokTB (by kernel_rfl)
        · intro RR hRR
          refine w_move (by constructor) ?_
          refine w_iao rfl rfl und27 kn2 ?_ ?_
          · exact ⟨by omega, by omega⟩
          first | refine w_ldc rfl kn2 (by constructor) (by exact sz2.symm) (by exact ag2.symm) ?_ | refine w_ldp rfl kn2 rfl (by constructor) (by exact sz2.symm) (by exact ag2.symm) ?_
          refine w_assign (by constructor) ?_
          refine w_assign (by constructor) ?_
          exact hRR
        apply sr tokTB (by kernel_rfl)
        · intro RR hRR
          refine w_move (by constructor) ?_
          refine w_len_r rfl rfl und78 ?_
          refine w_move (by constructor) ?_
          exact hRR
        refine snd_block ?_
        refine snd_loop (S := Nat) (fun l => ([(0, .cptr (algA p (n : Int) T fo)), (3, .cptr (vecA v)), (5, rowsA n n (cpM p n (formT p T fo))), (6, .own 905 0 n 27), (7, .int .i64 (i : Int)), (8, .int .i64 (k : Int)), (9, .int .i64 (timesF p n T v (eF i) k)), (26, .int .i64 (n : Int)), (27, .int .i64 (i : Int)), (36, .own 37000 0 n 2), (37, .int .i64 (n : Int)), (38, .int .i64 (k : Int)), (44, .int .i64 (n : Int)), (45, .int .i64 (l : Int))], [(905, .one (ZR n) (CO 1 n (fun _ => n) 2)), (1, .many (famF n (fun _ => n) (cpI p (cpM p n (formT p T fo)) (fun i => timesF p n T v (eF i)) i (k) (l)))), (37000, .one (Z64 n) (C64 n (timesF p n T v (eF i))))])) (fun l => l ≤ n) (fun l => n - l) (0) (ρL [] 77 77 77) ?_ ?_ ?_
        · exact emb_three ⟨by decide, by decide, by decide⟩ (by decide) rfl (fun j hj => rfl) (fun r hr => ⟨_, (by show famF n (fun _ => n) (cpI p (cpM p n (formT p T fo)) (fun i => timesF p n T v (eF i)) i (k) (0)) r = _; exact famF_at (w := fun _ => n) hr), fun V => mt_vec (fun z hz => rfl)⟩) ⟨_, rfl, ⟨rfl, fun _ => trivial⟩, fun V => mt_vec (fun _ _ => rfl)⟩ ⟨m_calg, (m_cvec (fun _ _ => rfl)), (mt_rows (V := _) (fun _ _ _ _ => rfl)), (by first | exact ⟨rfl, rfl, rfl, rfl⟩ | exact ⟨rfl, by omega, rfl, rfl⟩), (mi), (mi), (mi), (mi), (mi), (by first | exact ⟨rfl, rfl, rfl, rfl⟩ | exact ⟨rfl, by omega, rfl, rfl⟩), (mi), (mi), (mi), (mi), trivial⟩
        · exact Nat.zero_le _
        intro l hi6
        refine sq (env2 := [(0, .cptr (algA p (n : Int) T fo)), (3, .cptr (vecA v)), (5, rowsA n n (cpM p n (formT p T fo))), (6, .own 905 0 n 27), (7, .int .i64 (i : Int)), (8, .int .i64 (k : Int)), (9, .int .i64 (timesF p n T v (eF i) k)), (26, .int .i64 (n : Int)), (27, .int .i64 (i : Int)), (36, .own 37000 0 n 2), (37, .int .i64 (n : Int)), (38, .int .i64 (k : Int)), (44, .int .i64 (n : Int)), (45, .int .i64 (l : Int))]) (ol2 := [(905, .one (ZR n) (CO 1 n (fun _ => n) 2)), (1, .many (famF n (fun _ => n) (cpI p (cpM p n (formT p T fo)) (fun i => timesF p n T v (eF i)) i (k) (l)))), (37000, .one (Z64 n) (C64 n (timesF p n T v (eF i))))]) rfl rfl ?_
        obtain ⟨cb1, cb2, cb3, cbt2, cbt⟩ := cp_bd hp8 hCB hWB i k l
        apply sr tokTB (by kernel_rfl)
        · intro RR hRR
          refine w_lss rfl rfl ?_
          exact hRR
        refine snd_seq ?_
        refine snd_cond _ rfl (fun hc46 => ?_) (fun hc46 => ?_)
        · try simp only [hcs] at hc46
          have lt_l : l < n := by omega
          refine snd_skip ?_
          refine snd_seq ?_
          refine snd_block ?_
          apply sr tokTB (by kernel_rfl)
          · intro RR hRR
            refine w_move (by constructor) ?_
            refine w_assign (by constructor) ?_
            exact hRR
          apply ld tokTB mixed (by kernel_rfl) (by kernel_rfl)
          · intro RR hRR
            refine w_move (by constructor) ?_
            refine w_move (by constructor) ?_
            refine w_iao rfl rfl und78 kn27 ?_ ?_
            · exact ⟨by omega, by omega⟩
            first | refine w_ldc rfl kn27 (by constructor) (by exact sz27.symm) (by exact ag27.symm) ?_ | refine w_ldp rfl kn27 rfl (by constructor) (by exact sz27.symm) (by exact ag27.symm) ?_
            refine w_move (by constructor) ?_
            refine w_move (by constructor) ?_
            refine w_move (by constructor) ?_
            refine w_iao rfl rfl und78 kn27 ?_ ?_
            · exact ⟨by omega, by omega⟩
            first | refine w_ldc rfl kn27 (by constructor) (by exact sz27.symm) (by exact ag27.symm) ?_ | refine w_ldp rfl kn27 rfl (by constructor) (by exact sz27.symm) (by exact ag27.symm) ?_
            refine w_move (by constructor) ?_
            refine w_iao rfl rfl und27 kn2 ?_ ?_
            · exact ⟨by omega, by omega⟩
            refine w_ldp (v := .int .i64 (cpD p (cpM p n (formT p T fo)) (fun i => timesF p n T v (eF i)) i k l)) rfl kn2 (by show famF n (fun _ => n) (cpI p (cpM p n (formT p T fo)) (fun i => timesF p n T v (eF i)) i (k) (l)) k = _; exact famF_at (w := fun _ => n) lt_k) (by show HV (.int .i64 (cpI p (cpM p n (formT p T fo)) (fun i => timesF p n T v (eF i)) i (k) (l) k l)) _; rw [cpI_at]; constructor) (by exact sz2.symm) (by exact ag2.symm) ?_
            refine w_move (by constructor) ?_
            refine w_move (by constructor) ?_
            refine w_move (by constructor) ?_
            refine w_iar rfl rfl und78 kn27 (by exact sz27.symm) ?_ rfl ?_
            · exact ⟨by omega, by omega⟩
            first | refine w_ldc rfl kn27 (by constructor) (by exact sz27.symm) (by exact ag27.symm) ?_ | refine w_ldp rfl kn27 rfl (by constructor) (by exact sz27.symm) (by exact ag27.symm) ?_
            refine w_move (by constructor) ?_
            refine w_iar rfl rfl und27 kn2 (by exact sz2.symm) ?_ rfl ?_
            · exact ⟨by omega, by omega⟩
            first | refine w_ldc rfl kn2 (by constructor) (by exact sz2.symm) (by exact ag2.symm) ?_ | refine w_ldp rfl kn2 rfl (by constructor) (by exact sz2.symm) (by exact ag2.symm) ?_
            refine w_mul rfl rfl (by exact w64 (n := timesF p n T v (eF i) k * (cpM p n (formT p T fo)) i l) (by omega) (by omega)) ?_
            refine w_add rfl rfl (by exact w64 (n := cpD p (cpM p n (formT p T fo)) (fun i => timesF p n T v (eF i)) i k l + timesF p n T v (eF i) k * (cpM p n (formT p T fo)) i l) (by omega) (by omega)) ?_
            refine w_move (by constructor) ?_
            refine w_nilc rfl ?_
            refine w_fac rfl und34 rfl kn2 nz2 (by decide) rfl (by constructor) ?_
            refine w_ldc rfl kn2 (by constructor) (by exact sz2.symm) (by exact ag2.symm) ?_
            refine w_rem rfl rfl (by first | assumption | omega) ?_
            refine w_iao rfl rfl und27 kn2 ?_ ?_
            · exact ⟨by omega, by omega⟩
            refine w_sti (i := k) (f := cpI p (cpM p n (formT p T fo)) (fun i => timesF p n T v (eF i)) i (k) (l) k) rfl rfl kn2 (by show famF n (fun _ => n) (cpI p (cpM p n (formT p T fo)) (fun i => timesF p n T v (eF i)) i (k) (l)) k = _; exact famF_at (w := fun _ => n) lt_k) (by exact trivial) (by exact sz2.symm) ?_
            exact hRR
          apply lr tokTB (by kernel_rfl)
          · intro RR hRR
            refine y_add rfl rfl ?_
            refine w_move (by constructor) ?_
            exact hRR
          refine ⟨l + 1, (ρL [] 77 77 77), ?_, (by omega), (by dsimp only; omega)⟩
          exact emb_three ⟨by decide, by decide, by decide⟩ (by decide) rfl (fun j hj => rfl) (fun r hr => fam_uset (c := l) rfl hr (fun z hz => cpI_set cbt) (fun r h z hz => cpI_oth h)) ⟨_, rfl, ⟨rfl, fun _ => trivial⟩, fun V => mt_vec (fun _ _ => rfl)⟩ ⟨m_calg, (m_cvec (fun _ _ => rfl)), (mt_rows (V := _) (fun _ _ _ _ => rfl)), (by first | exact ⟨rfl, rfl, rfl, rfl⟩ | exact ⟨rfl, by omega, rfl, rfl⟩), (mi), (mi), (mi), (mi), (mi), (by first | exact ⟨rfl, rfl, rfl, rfl⟩ | exact ⟨rfl, by omega, rfl, rfl⟩), (mi), (mi), (mi), (mi), trivial⟩
        · try simp only [hcs] at hc46
          have ge_l : n = l := by omega
          subst ge_l
          refine snd_exit ?_
          apply lr tokTB (by kernel_rfl)
          · intro RR hRR
            refine y_add rfl rfl ?_
            refine w_move (by constructor) ?_
            exact hRR
          refine ⟨k + 1, (ρL [] 77 77 77), ?_, (by omega), (by dsimp only; omega)⟩
          exact emb_three ⟨by decide, by decide, by decide⟩ (by decide) rfl (fun j hj => rfl) (fun r hr => ⟨_, (by show famF n (fun _ => n) (cpI p (cpM p n (formT p T fo)) (fun i => timesF p n T v (eF i)) i (k) (n)) r = _; exact famF_at (w := fun _ => n) hr), fun V => mt_vec (fun z hz => cpI_n hz)⟩) ⟨_, rfl, ⟨rfl, fun _ => trivial⟩, fun V => mt_vec (fun _ _ => rfl)⟩ ⟨m_calg, (m_cvec (fun _ _ => rfl)), (mt_rows (V := _) (fun _ _ _ _ => rfl)), (by first | exact ⟨rfl, rfl, rfl, rfl⟩ | exact ⟨rfl, by omega, rfl, rfl⟩), (mi), (mi), (mi), (by first | exact ⟨rfl, rfl, rfl, rfl⟩ | exact ⟨rfl, by omega, rfl, rfl⟩), (mi), (mi), trivial⟩
      · try simp only [hcs] at hc39
        have ge_k : n = k := by omega
        subst ge_k
        refine snd_exit ?_
        apply lr tokTB (by kernel_rfl)
        · intro RR hRR
          refine y_add rfl rfl ?_
          refine w_move (by constructor) ?_
          exact hRR
        refine ⟨i + 1, ρ0, ?_, (by omega), (by dsimp only; omega)⟩
        exact emb_famR (ρ := ρ0) (fun _ => rfl) (fun _ => rfl) (by decide) (by decide) rfl (fun j hj => rfl) (fun r hr => ⟨_, (by show famF n (fun _ => n) (cpI p (cpM p n (formT p T fo)) (fun i => timesF p n T v (eF i)) i (n) (0)) r = _; exact famF_at (w := fun _ => n) hr), fun V => mt_vec (fun z hz => cpI_e hr)⟩) ⟨m_calg, (m_cvec (fun _ _ => rfl)), (mt_rows (V := _) (fun _ _ _ _ => rfl)), (by first | exact ⟨rfl, rfl, rfl, rfl⟩ | exact ⟨rfl, by omega, rfl, rfl⟩), (mi), (mi), trivial⟩
    · try simp only [hcs] at hc28
      have ge_i : n = i := by omega
      subst ge_i
      refine snd_exit ?_
      apply sr tokTB (by kernel_rfl)
      · intro RR hRR
        refine w_move (by constructor) ?_
        refine w_assign (by constructor) ?_
        exact hRR
      refine snd_ret ?_
      show retQ TB _ _ _ _ _ _
      exact rt_fam (T := TB) (a := 905) rfl (by decide) rfl rfl (fun r hr => famF_at (w := fun _ => n) (F := cpD p (cpM p n (formT p T fo)) (fun i => timesF p n T v (eF i)) n) hr)
end Go.Am

set_option linter.unusedVariables false
set_option linter.unusedSimpArgs false
set_option maxRecDepth 4000
namespace Go.Am
attribute [local irreducible] retQ retQp
open Go.Proofs
theorem zr29 : TB.zero 29 = tnA 0 0 0 0 .nilsl := by
  refine congrArg (AV.sct 5) (funext fun i => ?_)
  match i with
  | 0 => rfl
  | 1 => rfl
  | 2 => rfl
  | 3 => rfl
  | 4 => rfl
  | n + 5 => rfl
theorem c_powerOf {n k : Nat} (hn : 1 ≤ n ∧ n ≤ 6) (hk : k ≤ 3) : ACalls Try.prog TB 97 [.int .i64 (n : Int), .int .i64 (k : Int)] (.int .i64 ((n ^ k : Nat) : Int)) [] := by
  refine acalls_of tokTB Try.func97 rfl rfl (Nat.le_of_ble_eq_true rfl) ?_
  apply sr tokTB (by kernel_rfl)
  · intro RR hRR
    refine w_assign (by constructor) ?_
    exact hRR
  apply sr tokTB (by kernel_rfl)
  · intro RR hRR
    refine w_assign (by constructor) ?_
    exact hRR
  refine snd_seq ?_
  apply sr tokTB (by kernel_rfl)
  · intro RR hRR
    refine w_move (by constructor) ?_
    refine w_move (by constructor) ?_
    exact hRR
  refine snd_block ?_
  refine snd_loop (S := Nat) (fun i => ([(0, .int .i64 (n : Int)), (5, .int .i64 ((n ^ i : Nat) : Int)), (6, .int .i64 (k : Int)), (7, .int .i64 (i : Int))], [])) (fun i => i ≤ k) (fun i => k - i) (0) ρ0 ?_ ?_ ?_
  · exact ⟨⟨(mi), (mi), (mi), (mi), trivial⟩, trivial, trivial⟩
  · exact Nat.zero_le _
  intro i hi0
  refine sq (env2 := [(0, .int .i64 (n : Int)), (5, .int .i64 ((n ^ i : Nat) : Int)), (6, .int .i64 (k : Int)), (7, .int .i64 (i : Int))]) (ol2 := []) rfl rfl ?_
  apply sr tokTB (by kernel_rfl)
  · intro RR hRR
    refine w_lss rfl rfl ?_
    exact hRR
  refine snd_seq ?_
  refine snd_cond _ rfl (fun hc8 => ?_) (fun hc8 => ?_)
  · try simp only [hcs] at hc8
    have lt_i : i < k := by omega
    refine snd_skip ?_
    refine snd_seq ?_
    refine snd_block ?_
    apply sr tokTB (by kernel_rfl)
    · intro RR hRR
      refine w_move (by constructor) ?_
      refine w_move (by constructor) ?_
      refine w_mul rfl rfl (by exact (congrArg _ pow_mulI).trans (w64 (by have := pow216 hn (show i + 1 ≤ 3 by omega); omega) (by have := pow216 hn (show i + 1 ≤ 3 by omega); omega))) ?_
      refine w_assign (by constructor) ?_
      exact hRR
    apply sr tokTB (by kernel_rfl)
    · intro RR hRR
      refine w_move (by constructor) ?_
      refine w_gtr rfl rfl ?_
      exact hRR
    refine snd_cond_false (by exact congrArg AV.bool (decide_eq_false (by have := pow216 hn (show i + 1 ≤ 3 by omega); omega))) ?_
    refine snd_skip ?_
    apply lr tokTB (by kernel_rfl)
    · intro RR hRR
      refine y_add rfl rfl ?_
      refine w_move (by constructor) ?_
      exact hRR
    refine ⟨i + 1, ρ0, ?_, (by omega), (by dsimp only; omega)⟩
    exact ⟨⟨(mi), (mi), (mi), (mi), trivial⟩, trivial, trivial⟩
  · try simp only [hcs] at hc8
    have ge_i : k = i := by omega
    subst ge_i
    refine snd_exit ?_
    apply sr tokTB (by kernel_rfl)
    · intro RR hRR
      refine w_move (by constructor) ?_
      refine w_assign (by constructor) ?_
      exact hRR
    refine snd_ret ?_
    exact rt (T := TB) (fun V => rfl)
theorem c_l03Power {n k : Nat} (hn : 1 ≤ n ∧ n ≤ 6) (hk : k ≤ 3) : ACalls Try.prog TB 101 [.int .i64 (n : Int), .int .i64 (k : Int)] (.int .i64 ((n ^ k : Nat) : Int)) [] := by
  refine acalls_of tokTB Try.func101 rfl rfl (Nat.le_of_ble_eq_true rfl) ?_
  apply sr tokTB (by kernel_rfl)
  · intro RR hRR
    refine w_assign (by constructor) ?_
    exact hRR
  apply sr tokTB (by kernel_rfl)
  · intro RR hRR
    refine w_assign (by constructor) ?_
    exact hRR
  refine snd_seq ?_
  refine snd_block ?_
  refine snd_loop (S := Nat) (fun i => ([(0, .int .i64 (n : Int)), (1, .int .i64 ((k : Int) - (i : Int))), (5, .int .i64 ((n ^ i : Nat) : Int))], [])) (fun i => i ≤ k) (fun i => k - i) (0) ρ0 ?_ ?_ ?_
  · exact ⟨⟨(mi), (mi), (mi), trivial⟩, trivial, trivial⟩
  · exact Nat.zero_le _
  intro i hi0
  refine sq (env2 := [(0, .int .i64 (n : Int)), (1, .int .i64 ((k : Int) - (i : Int))), (5, .int .i64 ((n ^ i : Nat) : Int))]) (ol2 := []) rfl rfl ?_
  have hpw := pow216 hn (show i ≤ 3 by omega)
  refine snd_seq ?_
  apply srG (env' := (11, .bool (decide ((k : Int) - (i : Int) > 0) && decide (((n ^ i : Nat) : Int) ≤ 1296))) :: (10, .any) :: (9, .any) :: (8, _) :: (7, _) :: (6, _) :: _) tokTB (by kernel_rfl)
  · intro RR hRR
    refine w_move (by constructor) ?_
    refine w_gtr rfl rfl ?_
    refine w_move (by constructor) ?_
    refine w_g rfl rfl (fun hg2 => ?_) (fun hg2 => ?_)
    · skip
      refine w_move (by constructor) ?_
      refine w_g_on rfl rfl hg2 ?_
      refine w_leq rfl rfl ?_
      refine w_pick_1 rfl hg2 (by constructor) ?_
      try simp only [Int.toNat_natCast] at hg2
      exact hRR _ (EL.cons (.inr (by first | rfl | (simp only [hg2, els]; done) | (simp only [hg2, els]; rfl) | simp [hg2])) (EL.cons (.inl rfl) (EL.cons (.inl rfl) (EL.cons (.inr rfl) (EL.cons (.inr rfl) (EL.cons (.inr rfl) (EL.refl _)))))))
    · have hg2 := eq_false_of_ne_true hg2
      refine w_g_off rfl rfl (by rw [hg2]; decide) ?_
      refine w_pick_0 rfl hg2 (by constructor) ?_
      try simp only [Int.toNat_natCast] at hg2
      exact hRR _ (EL.cons (.inr (by first | rfl | (simp only [hg2, els]; done) | (simp only [hg2, els]; rfl) | simp [hg2])) (EL.cons (.inl rfl) (EL.cons (.inl rfl) (EL.cons (.inr rfl) (EL.cons (.inr rfl) (EL.cons (.inr rfl) (EL.refl _)))))))
  refine snd_cond _ rfl (fun hc11 => ?_) (fun hc11 => ?_)
  · skip
    have lt_i : i < k := by simp only [Bool.and_eq_true, decide_eq_true_eq] at hc11; omega
    refine snd_skip ?_
    refine snd_seq ?_
    refine snd_block ?_
    apply lr tokTB (by kernel_rfl)
    · intro RR hRR
      refine w_move (by constructor) ?_
      refine w_move (by constructor) ?_
      refine w_mul rfl rfl (by exact (congrArg _ pow_mulI).trans (w64 (by have := pow216 hn (show i + 1 ≤ 3 by omega); omega) (by have := pow216 hn (show i + 1 ≤ 3 by omega); omega))) ?_
      refine w_assign (by constructor) ?_
      exact hRR
    apply lr tokTB (by kernel_rfl)
    · intro RR hRR
      refine w_move (by constructor) ?_
      refine y_sub rfl rfl ?_
      refine w_assign (by constructor) ?_
      exact hRR
    refine ⟨i + 1, ρ0, ?_, (by omega), (by dsimp only; omega)⟩
    exact ⟨⟨(mi), (mi), (mi), trivial⟩, trivial, trivial⟩
  · skip
    have ge_i : k = i := by
      apply Classical.byContradiction
      intro h
      rw [decide_eq_true (show (k : Int) - (i : Int) > 0 by omega), decide_eq_true (show ((n ^ i : Nat) : Int) ≤ 1296 by omega)] at hc11
      cases hc11
    subst ge_i
    refine snd_exit ?_
    apply sr tokTB (by kernel_rfl)
    · intro RR hRR
      refine w_move (by constructor) ?_
      refine w_assign (by constructor) ?_
      exact hRR
    refine snd_ret ?_
    exact rt (T := TB) (fun V => rfl)
theorem c_endsOk {k : Int} : ACalls Try.prog TB 98 [.int .i64 k] (.bool (decide (0 ≤ k) && decide (k ≤ 8))) [] := by
  refine acalls_of tokTB Try.func98 rfl rfl (Nat.le_of_ble_eq_true rfl) ?_
  apply sr tokTB (by kernel_rfl)
  · intro RR hRR
    refine w_assign (by constructor) ?_
    exact hRR
  apply sr tokTB (by kernel_rfl)
  · intro RR hRR
    refine w_move (by constructor) ?_
    refine y_call rfl (ec (ec (ec exn))) (c_in) ?_
    refine w_assign (by constructor) ?_
    exact hRR
  refine snd_ret ?_
  exact rt (T := TB) (fun V => rfl)
theorem c_digits {n m x : Nat} (hn : 1 ≤ n ∧ n ≤ 6) (hm : m ≤ 3) (hx : x ≤ 1000) : ACalls Try.prog TB 99 [.int .i64 (x : Int), .int .i64 (n : Int), .int .i64 (m : Int)] (.own 0 0 m 2) (HR m (dgF n m x)) := by
  refine acalls_of tokTB Try.func99 rfl rfl (Nat.le_of_ble_eq_true rfl) ?_
  apply sr tokTB (by kernel_rfl)
  · intro RR hRR
    refine w_assign (by constructor) ?_
    exact hRR
  apply sr tokTB (by kernel_rfl)
  · intro RR hRR
    refine w_move (by constructor) ?_
    refine w_mks und27 rfl rfl kn2 rfl (by omega) (by rw [by2]; omega) (by omega) rfl ?_
    refine w_assign (by constructor) ?_
    exact hRR
  refine snd_seq ?_
  apply sr tokTB (by kernel_rfl)
  · intro RR hRR
    refine w_move (by constructor) ?_
    refine y_sub rfl rfl ?_
    refine w_assign (by constructor) ?_
    exact hRR
  refine snd_block ?_
  refine snd_loop (S := Nat) (fun c => ([(0, .int .i64 ((x / n ^ c : Nat) : Int)), (1, .int .i64 (n : Int)), (7, .own 907 0 m 2), (8, .int .i64 ((m : Int) - 1 - (c : Int)))], [(907, .one (Z64 m) (C64 m (dgS n m x (m - c))))])) (fun c => c ≤ m) (fun c => m - c) (0) (fun k i => bif Nat.beq k 907 then (10, i) else (k, i)) ?_ ?_ ?_
  · exact ⟨⟨(by exact m_int (by simp)), (mi), (by first | exact ⟨rfl, rfl, rfl, rfl⟩ | exact ⟨rfl, by omega, rfl, rfl⟩), (mi), trivial⟩, ⟨⟨(by show AV.arr m (fun _ => TB.zero 2) = _; rw [zr2]), (sx), (by exact mt_vec (fun z hz => dgS_0 hz))⟩, trivial⟩, ⟨⟨(fun h => by first | exact ⟨rfl, rfl⟩ | exact absurd h (by decide)), trivial⟩, trivial⟩⟩
  · exact Nat.zero_le _
  intro c hi0
  refine sq (env2 := [(0, .int .i64 ((x / n ^ c : Nat) : Int)), (1, .int .i64 (n : Int)), (7, .own 907 0 m 2), (8, .int .i64 ((m : Int) - 1 - (c : Int)))]) (ol2 := [(907, .one (Z64 m) (C64 m (dgS n m x (m - c))))]) rfl rfl ?_
  have hxd := Nat.div_le_self x (n ^ c)
  refine snd_seq ?_
  apply sr tokTB (by kernel_rfl)
  · intro RR hRR
    refine w_move (by constructor) ?_
    refine w_geq rfl rfl ?_
    exact hRR
  refine snd_cond _ rfl (fun hc14 => ?_) (fun hc14 => ?_)
  · try simp only [hcs] at hc14
    have lt_c : c < m := by omega
    refine snd_skip ?_
    refine snd_seq ?_
    refine snd_block ?_
    apply sr tokTB (by kernel_rfl)
    · intro RR hRR
      refine w_move (by constructor) ?_
      refine w_move (by constructor) ?_
      refine w_move (by constructor) ?_
      refine w_move (by constructor) ?_
      refine w_remN rfl rfl (by omega) ?_
      refine w_iao rfl rfl und27 kn2 ?_ ?_
      · exact ⟨by omega, by omega⟩
      first | refine w_stw rfl (by constructor) kn2 rfl (by exact trivial) (sx) (by exact sz2.symm) ?_ | refine w_sti rfl rfl kn2 rfl (by exact trivial) (by exact sz2.symm) ?_ | refine w_store rfl (HV.eq (by constructor)) kn2 rfl (by exact trivial) (sx) (by exact sz2.symm) (put_in (by first | exact put_mat | exact put_tab | exact put_alg0 | exact put_pr0 | exact put_pr1 | exact put_pr2 | exact put_tn4 | exact put_alg1 | exact put_alg2 | exact put_alg3 | exact put_alg3i | exact put_alg2ij | exact put_alg2ijk | exact put_mat2 | exact put_tab2 | exact put_tab3)) ?_ | refine w_store rfl (HV.eq (by constructor)) kn2 rfl (by exact trivial) (by exact trivial) (by exact sz2.symm) rfl ?_
      exact hRR
    apply lr tokTB (by kernel_rfl)
    · intro RR hRR
      refine w_move (by constructor) ?_
      refine w_move (by constructor) ?_
      refine w_quoN rfl rfl (by omega) (by omega) ?_
      refine w_assign (by constructor) ?_
      exact hRR
    apply lr tokTB (by kernel_rfl)
    · intro RR hRR
      refine w_move (by constructor) ?_
      refine y_sub rfl rfl ?_
      refine w_assign (by constructor) ?_
      exact hRR
    refine ⟨c + 1, ρ0, ?_, (by omega), (by dsimp only; omega)⟩
    exact ⟨⟨(by exact m_int (by rw [Nat.pow_succ, Nat.div_div_eq_div_mul])), (mi), (by first | exact ⟨rfl, rfl, rfl, rfl⟩ | exact ⟨rfl, by omega, rfl, rfl⟩), (mi), trivial⟩, ⟨⟨rfl, (sx), (by exact mt_vec (fun z _ => dgS_step lt_c))⟩, trivial⟩, ⟨⟨(fun h => by first | exact ⟨rfl, rfl⟩ | exact absurd h (by decide)), trivial⟩, trivial⟩⟩
  · try simp only [hcs] at hc14
    have ge_c : m = c := by omega
    subst ge_c
    refine snd_exit ?_
    apply sr tokTB (by kernel_rfl)
    · intro RR hRR
      refine w_move (by constructor) ?_
      refine w_assign (by constructor) ?_
      exact hRR
    refine snd_ret ?_
    show retQ TB _ _ _ _ _ _
    exact rt_own rfl rfl rfl (fun _ => trivial) (fun V i hi => congrArg (AV.int .i64) dgS_n)
theorem c_tensor {p : Int} {n a b : Nat} {g nc : Nat} {caps : Nat → AV} {Q : Nat → Int} (hp8 : 2 ≤ p ∧ p ≤ 13) (hn : 1 ≤ n ∧ n ≤ 6) (hab : a + b ≤ 3) (hcl : (AV.fn g nc caps).closed) (hQ : ∀ x, 0 ≤ Q x ∧ Q x < p) (hf : ∀ x, x < n ^ (a + b) → ACalls Try.prog TB g (rowA a (dgF n (a + b) x) :: rowA b (fun j => dgF n (a + b) x (a + j)) :: capL nc caps) (.int .i64 (Q x)) []) : ACalls Try.prog TB 50 [.int .i64 p, .int .i64 (n : Int), .int .i64 (a : Int), .int .i64 (b : Int), .fn g nc caps] (.tup 2 (pairA (tnA p (n : Int) (a : Int) (b : Int) (.own 0 0 (n ^ (a + b)) 2)) (.int .i64 0))) [(0, .one (Z64 (n ^ (a + b))) (C64 (n ^ (a + b)) Q))] := by
  have hpw := pow216 hn hab
  refine acalls_of tokTB Try.func50 rfl rfl (Nat.le_of_ble_eq_true rfl) ?_
  apply sr tokTB (by kernel_rfl)
  · intro RR hRR
    refine w_alloc kn29 rfl zr29 ?_
    refine w_assign (by constructor) ?_
    exact hRR
  apply sr tokTB (by kernel_rfl)
  · intro RR hRR
    refine w_move (by constructor) ?_
    refine w_move (by constructor) ?_
    refine w_move (by constructor) ?_
    refine y_add rfl rfl ?_
    refine y_call rfl (exc (by exact rfl) (exc (by exact congrArg (AV.int .i64) (Int.natCast_add a b).symm) exn)) (c_powerOf (k := a + b) hn hab) ?_
    refine w_assign (by constructor) ?_
    exact hRR
  refine snd_seq ?_
  apply srG (env' := (32, .bool (decide (((n ^ (a + b) : Nat) : Int) > 1296))) :: (31, .any) :: (30, .any) :: (29, .bool (!true)) :: (28, .bool (!true)) :: (27, .any) :: (26, .any) :: (25, .any) :: (24, _) :: (23, _) :: (22, _) :: (21, _) :: _) tokTB (by kernel_rfl)
  · intro RR hRR
    refine w_move (by constructor) ?_
    refine y_call rfl (ec exn) (in_both (show (0 : Int) ≤ (a : Int) ∧ (a : Int) ≤ 8 by omega) ▸ c_endsOk) ?_
    refine w_not rfl ?_
    refine w_move (by constructor) ?_
    refine w_g_on rfl rfl rfl ?_
    refine w_move (by constructor) ?_
    refine w_g_on rfl rfl rfl ?_
    refine y_call rfl (ec exn) (in_both (show (0 : Int) ≤ (b : Int) ∧ (b : Int) ≤ 8 by omega) ▸ c_endsOk) ?_
    refine w_g_on rfl rfl rfl ?_
    refine w_not rfl ?_
    refine w_pick_0 rfl rfl (by constructor) ?_
    refine w_move (by constructor) ?_
    refine w_g_on rfl rfl rfl ?_
    refine w_move (by constructor) ?_
    refine w_g_on rfl rfl rfl ?_
    refine w_gtr rfl rfl ?_
    refine w_pick_0 rfl rfl (by constructor) ?_
    exact hRR _ (EL.cons (.inr (by first | rfl | (simp only [els]; done) | simp)) (EL.cons (.inl rfl) (EL.cons (.inl rfl) (EL.cons (.inr (by first | rfl | (simp only [els]; done) | simp)) (EL.cons (.inr (by first | rfl | (simp only [els]; done) | simp)) (EL.cons (.inl rfl) (EL.cons (.inl rfl) (EL.cons (.inl rfl) (EL.cons (.inr rfl) (EL.cons (.inr rfl) (EL.cons (.inr rfl) (EL.cons (.inr rfl) (EL.refl _)))))))))))))
  refine snd_cond_false (by exact congrArg AV.bool (decide_eq_false (by omega))) ?_
  refine snd_skip ?_
  apply sr tokTB (by kernel_rfl)
  · intro RR hRR
    refine w_move (by constructor) ?_
    refine w_move (by constructor) ?_
    refine w_move (by constructor) ?_
    refine w_move (by constructor) ?_
    refine w_bld_s kn29 zr29 und29 rfl (by exact ⟨rfl, kn2, sz2, rfl, kn2, sz2, rfl, kn2, sz2, rfl, kn2, sz2, rfl, kn27, sz27, trivial⟩) (by exact ⟨⟨by decide, trivial, rfl⟩, ⟨by decide, trivial, rfl⟩, ⟨by decide, trivial, rfl⟩, ⟨by decide, trivial, rfl⟩, trivial⟩) rfl ?_
    refine w_alloc kn29 rfl zr29 ?_
    refine w_stw rfl (by constructor) kn29 rfl (by exact trivial) (sx) (by exact sz29.symm) ?_
    exact hRR
  refine snd_seq ?_
  apply sr tokTB (by kernel_rfl)
  · intro RR hRR
    refine w_move (by constructor) ?_
    refine w_move (by constructor) ?_
    exact hRR
  refine snd_block ?_
  refine snd_loop (S := Nat) (fun x => ([(0, .int .i64 p), (1, .int .i64 (n : Int)), (2, .int .i64 (a : Int)), (3, .int .i64 (b : Int)), (4, .fn g nc caps), (10, .ptr 10 0 [] 0 (tnA 0 0 0 0 .nilsl)), (13, .ptr 13 0 [] 0 (tnA 0 0 0 0 .nilsl)), (39, .int .i64 ((n ^ (a + b) : Nat) : Int)), (40, .int .i64 (x : Int))], (if x = 0 then [(10, .one (tnA 0 0 0 0 .nilsl) (tnA 0 0 0 0 .nilsl)), (13, .one (tnA 0 0 0 0 .nilsl) (tnA p (n : Int) (a : Int) (b : Int) .nilsl))] else [(10, .one (tnA 0 0 0 0 .nilsl) (tnA 0 0 0 0 .nilsl)), (13, .one (tnA 0 0 0 0 .nilsl) (tnA p (n : Int) (a : Int) (b : Int) (.own 905 0 x 2))), (905, .one (Z64 x) (C64 x Q))]))) (fun x => x ≤ n ^ (a + b)) (fun x => n ^ (a + b) - x) (0) ρ0 ?_ ?_ ?_
  · show Emb _ _ _ _ [(10, .one (tnA 0 0 0 0 .nilsl) (tnA 0 0 0 0 .nilsl)), (13, .one (tnA 0 0 0 0 .nilsl) (tnA p (n : Int) (a : Int) (b : Int) .nilsl))]
    exact ⟨⟨(mi), (mi), (mi), (mi), (by exact Mt_closed (V := _) hcl (fun _ _ _ => trivial) (by simp)), ⟨rfl, rfl, rfl, rfl, rfl⟩, ⟨rfl, rfl, rfl, rfl, rfl⟩, (mi), (mi), trivial⟩, ⟨⟨rfl, (sx), (by exact mt_tn rfl)⟩, ⟨rfl, (sx), (by exact mt_tng rfl rfl rfl rfl rfl)⟩, trivial⟩, ⟨⟨(fun h => by first | exact ⟨rfl, rfl⟩ | exact absurd h (by decide)), (fun h => by first | exact ⟨rfl, rfl⟩ | exact absurd h (by decide)), trivial⟩, ⟨(fun h => by first | exact ⟨rfl, rfl⟩ | exact absurd h (by decide)), (fun h => by first | exact ⟨rfl, rfl⟩ | exact absurd h (by decide)), trivial⟩, trivial⟩⟩
  · exact Nat.zero_le _
  intro x hi0
  rcases Nat.eq_zero_or_pos x with hx0 | hx0
  · skip
    refine sq (env2 := [(0, .int .i64 p), (1, .int .i64 (n : Int)), (2, .int .i64 (a : Int)), (3, .int .i64 (b : Int)), (4, .fn g nc caps), (10, .ptr 10 0 [] 0 (tnA 0 0 0 0 .nilsl)), (13, .ptr 13 0 [] 0 (tnA 0 0 0 0 .nilsl)), (39, .int .i64 ((n ^ (a + b) : Nat) : Int)), (40, .int .i64 (x : Int))]) (ol2 := [(10, .one (tnA 0 0 0 0 .nilsl) (tnA 0 0 0 0 .nilsl)), (13, .one (tnA 0 0 0 0 .nilsl) (tnA p (n : Int) (a : Int) (b : Int) .nilsl))]) rfl (by exact if_pos hx0) ?_
    apply sr tokTB (by kernel_rfl)
    · intro RR hRR
      refine w_lss rfl rfl ?_
      exact hRR
    refine snd_seq ?_
    refine snd_cond _ rfl (fun hc41 => ?_) (fun hc41 => ?_)
    · try simp only [hcs] at hc41
      have lt_x : x < n ^ (a + b) := by omega
      refine snd_skip ?_
      refine snd_seq ?_
      refine snd_block ?_
      apply sr tokTB (by kernel_rfl)
      · intro RR hRR
        refine w_move (by constructor) ?_
        refine w_assign (by constructor) ?_
        exact hRR
      apply sr tokTB (by kernel_rfl)
      · intro RR hRR
        refine w_move (by constructor) ?_
        refine w_move (by constructor) ?_
        refine w_move (by constructor) ?_
        refine w_move (by constructor) ?_
        refine y_add rfl rfl ?_
        refine w_call rfl (exc (by exact rfl) (exc (by exact rfl) (exc (by exact congrArg (AV.int .i64) (Int.natCast_add a b).symm) exn))) (c_digits (x := x) (n := n) (m := a + b) hn hab (by omega)) (.inl ⟨trivial, ⟨fun _ => trivial, trivial⟩⟩) rfl (by constructor) rfl ?_
        refine w_assign (by constructor) ?_
        exact hRR
      refine snd_emb (ρ := ρ0) (env2 := [(0, .int .i64 p), (1, .int .i64 (n : Int)), (2, .int .i64 (a : Int)), (3, .int .i64 (b : Int)), (4, .fn g nc caps), (10, .ptr 10 0 [] 0 (tnA 0 0 0 0 .nilsl)), (13, .ptr 13 0 [] 0 (tnA 0 0 0 0 .nilsl)), (15, rowA (a + b) (dgF n (a + b) x)), (39, .int .i64 ((n ^ (a + b) : Nat) : Int)), (40, .int .i64 (x : Int))]) (ol2 := [(10, .one (tnA 0 0 0 0 .nilsl) (tnA 0 0 0 0 .nilsl)), (13, .one (tnA 0 0 0 0 .nilsl) (tnA p (n : Int) (a : Int) (b : Int) .nilsl))]) ?_ ?_
      · exact ⟨⟨m_int rfl, m_int rfl, m_int rfl, m_int rfl, Mt_closed hcl (fun _ _ _ => trivial) (by simp), ⟨rfl, rfl, rfl, rfl, rfl⟩, ⟨rfl, rfl, rfl, rfl, rfl⟩, mt_fz ⟨ne_fst rfl, ne_fst rfl, trivial⟩ rfl (fun _ _ => rfl), m_int rfl, m_int rfl, trivial⟩, ⟨⟨rfl, sshTn trivial, mt_tn rfl⟩, ⟨rfl, sshTn trivial, mt_tn rfl⟩, trivial⟩, ⟨⟨fun _ => ⟨rfl, rfl⟩, fun h => absurd h (by decide), trivial⟩, ⟨fun h => absurd h (by decide), fun _ => ⟨rfl, rfl⟩, trivial⟩, trivial⟩⟩
      apply ld tokTB mixed (by kernel_rfl) (by kernel_rfl)
      · intro RR hRR
        refine w_fap rfl und29 rfl kn27 nz27 rfl (by decide) rfl ?_
        first | refine w_ldc rfl kn27 (by constructor) (by exact sz27.symm) (by exact ag27.symm) ?_ | refine w_ldp rfl kn27 rfl (by constructor) (by exact sz27.symm) (by exact ag27.symm) ?_
        refine w_move (by constructor) ?_
        refine w_move (by constructor) ?_
        refine w_move (by constructor) ?_
        refine w_sl_rh rfl rfl und27 kn2 (by exact sz2.symm) (by omega) ?_
        refine w_move (by constructor) ?_
        refine w_move (by constructor) ?_
        refine w_sl_rl rfl rfl und27 kn2 (by exact sz2.symm) rfl (by omega) ?_
        refine y_call rfl (exc (by exact rfl) (exc (by show AV.ro (a + b - a) _ = _; rw [Nat.add_sub_cancel_left]; rfl) (exp_capL hcl))) (hf x lt_x) ?_
        refine w_move (by constructor) ?_
        refine y_call rfl (ec (ec exn)) (c_rest (x := Q x) (by omega) (by omega)) ?_
        refine w_bsl1 und27 kn2 (by rw [sz2]; rfl) rfl (by constructor) (by first | exact trivial | exact cel_cap2) (by exact sz2.symm) (by first | exact trivial | exact ssh_vec | exact ⟨rfl, fun _ => trivial⟩) ?_
        first | refine w_app_o und27 rfl rfl kn2 rfl rfl (fun C h => ⟨rfl, rfl, rfl, h⟩) (by rw [by2]; omega) (by omega) rfl ?_ | refine w_app_n und27 rfl rfl kn2 rfl (fun C h => ⟨rfl, rfl, rfl, h⟩) (by omega) (by rw [by2]; omega) (by omega) ?_
        refine w_fap rfl und29 rfl kn27 nz27 rfl (by decide) rfl ?_
        first | refine w_stw rfl (by constructor) kn27 rfl (by exact trivial) (sx) (by exact sz27.symm) ?_ | refine w_sti rfl rfl kn27 rfl (by exact trivial) (by exact sz27.symm) ?_ | refine w_store rfl (HV.eq (by constructor)) kn27 rfl (by exact trivial) (sx) (by exact sz27.symm) (put_in (by first | exact put_mat | exact put_tab | exact put_alg0 | exact put_pr0 | exact put_pr1 | exact put_pr2 | exact put_tn4 | exact put_alg1 | exact put_alg2 | exact put_alg3 | exact put_alg3i | exact put_alg2ij | exact put_alg2ijk | exact put_mat2 | exact put_tab2 | exact put_tab3)) ?_ | refine w_store rfl (HV.eq (by constructor)) kn27 rfl (by exact trivial) (by exact trivial) (by exact sz27.symm) rfl ?_
        exact hRR
      apply lr tokTB (by kernel_rfl)
      · intro RR hRR
        refine y_add rfl rfl ?_
        refine w_move (by constructor) ?_
        exact hRR
      refine ⟨x + 1, (fun k i => bif Nat.beq k 905 then (62, i) else (k, i)), ?_, (by omega), (by dsimp only; omega)⟩
      show Emb _ _ _ _ (if x + 1 = 0 then [(10, .one (tnA 0 0 0 0 .nilsl) (tnA 0 0 0 0 .nilsl)), (13, .one (tnA 0 0 0 0 .nilsl) (tnA p (n : Int) (a : Int) (b : Int) .nilsl))] else [(10, .one (tnA 0 0 0 0 .nilsl) (tnA 0 0 0 0 .nilsl)), (13, .one (tnA 0 0 0 0 .nilsl) (tnA p (n : Int) (a : Int) (b : Int) (.own 905 0 (x + 1) 2))), (905, .one (Z64 (x + 1)) (C64 (x + 1) Q))])
      rw [if_neg (Nat.succ_ne_zero x)]
      exact ⟨⟨(mi), (mi), (mi), (mi), (by exact Mt_closed (V := _) hcl (fun _ _ _ => trivial) (by simp)), ⟨rfl, rfl, rfl, rfl, rfl⟩, ⟨rfl, rfl, rfl, rfl, rfl⟩, (mi), (mi), trivial⟩, ⟨⟨rfl, (sx), (by exact mt_tn rfl)⟩, ⟨rfl, (sx), (by subst hx0; exact mt_tn ⟨rfl, rfl, rfl, rfl⟩)⟩, ⟨(by subst hx0; exact rfl), (sx), (by subst hx0; exact ⟨rfl, fun j hj => by obtain rfl : j = 0 := (by omega); exact congrArg (AV.int .i64) (Int.emod_eq_of_lt (hQ 0).1 (hQ 0).2)⟩)⟩, trivial⟩, ⟨⟨(fun h => by first | exact ⟨rfl, rfl⟩ | exact absurd h (by decide)), (fun h => by first | exact ⟨rfl, rfl⟩ | exact absurd h (by decide)), (fun h => by first | exact ⟨rfl, rfl⟩ | exact absurd h (by decide)), trivial⟩, ⟨(fun h => by first | exact ⟨rfl, rfl⟩ | exact absurd h (by decide)), (fun h => by first | exact ⟨rfl, rfl⟩ | exact absurd h (by decide)), (fun h => by first | exact ⟨rfl, rfl⟩ | exact absurd h (by decide)), trivial⟩, ⟨(fun h => by first | exact ⟨rfl, rfl⟩ | exact absurd h (by decide)), (fun h => by first | exact ⟨rfl, rfl⟩ | exact absurd h (by decide)), (fun h => by first | exact ⟨rfl, rfl⟩ | exact absurd h (by decide)), trivial⟩, trivial⟩⟩
    · try simp only [hcs] at hc41
      have ge_x : n ^ (a + b) = x := by omega
      subst ge_x
      omega
  · skip
    refine sq (env2 := [(0, .int .i64 p), (1, .int .i64 (n : Int)), (2, .int .i64 (a : Int)), (3, .int .i64 (b : Int)), (4, .fn g nc caps), (10, .ptr 10 0 [] 0 (tnA 0 0 0 0 .nilsl)), (13, .ptr 13 0 [] 0 (tnA 0 0 0 0 .nilsl)), (39, .int .i64 ((n ^ (a + b) : Nat) : Int)), (40, .int .i64 (x : Int))]) (ol2 := [(10, .one (tnA 0 0 0 0 .nilsl) (tnA 0 0 0 0 .nilsl)), (13, .one (tnA 0 0 0 0 .nilsl) (tnA p (n : Int) (a : Int) (b : Int) (.own 905 0 x 2))), (905, .one (Z64 x) (C64 x Q))]) rfl (by exact if_neg (by omega)) ?_
    apply sr tokTB (by kernel_rfl)
    · intro RR hRR
      refine w_lss rfl rfl ?_
      exact hRR
    refine snd_seq ?_
    refine snd_cond _ rfl (fun hc41 => ?_) (fun hc41 => ?_)
    · try simp only [hcs] at hc41
      have lt_x : x < n ^ (a + b) := by omega
      refine snd_skip ?_
      refine snd_seq ?_
      refine snd_block ?_
      apply sr tokTB (by kernel_rfl)
      · intro RR hRR
        refine w_move (by constructor) ?_
        refine w_assign (by constructor) ?_
        exact hRR
      apply sr tokTB (by kernel_rfl)
      · intro RR hRR
        refine w_move (by constructor) ?_
        refine w_move (by constructor) ?_
        refine w_move (by constructor) ?_
        refine w_move (by constructor) ?_
        refine y_add rfl rfl ?_
        refine w_call rfl (exc (by exact rfl) (exc (by exact rfl) (exc (by exact congrArg (AV.int .i64) (Int.natCast_add a b).symm) exn))) (c_digits (x := x) (n := n) (m := a + b) hn hab (by omega)) (.inl ⟨trivial, ⟨fun _ => trivial, trivial⟩⟩) rfl (by constructor) rfl ?_
        refine w_assign (by constructor) ?_
        exact hRR
      refine snd_emb (ρ := ρ0) (env2 := [(0, .int .i64 p), (1, .int .i64 (n : Int)), (2, .int .i64 (a : Int)), (3, .int .i64 (b : Int)), (4, .fn g nc caps), (10, .ptr 10 0 [] 0 (tnA 0 0 0 0 .nilsl)), (13, .ptr 13 0 [] 0 (tnA 0 0 0 0 .nilsl)), (15, rowA (a + b) (dgF n (a + b) x)), (39, .int .i64 ((n ^ (a + b) : Nat) : Int)), (40, .int .i64 (x : Int))]) (ol2 := [(10, .one (tnA 0 0 0 0 .nilsl) (tnA 0 0 0 0 .nilsl)), (13, .one (tnA 0 0 0 0 .nilsl) (tnA p (n : Int) (a : Int) (b : Int) (.own 905 0 x 2))), (905, .one (Z64 x) (C64 x Q))]) ?_ ?_
      · exact ⟨⟨m_int rfl, m_int rfl, m_int rfl, m_int rfl, Mt_closed hcl (fun _ _ _ => trivial) (by simp), ⟨rfl, rfl, rfl, rfl, rfl⟩, ⟨rfl, rfl, rfl, rfl, rfl⟩, mt_fz ⟨ne_fst rfl, ne_fst rfl, ne_fst rfl, trivial⟩ rfl (fun _ _ => rfl), m_int rfl, m_int rfl, trivial⟩, ⟨⟨rfl, sshTn trivial, mt_tn rfl⟩, ⟨rfl, sshTn trivial, mt_tn ⟨rfl, rfl, rfl, rfl⟩⟩, ⟨rfl, ⟨rfl, fun _ => trivial⟩, mt_vec (fun _ _ => rfl)⟩, trivial⟩, ⟨⟨fun _ => ⟨rfl, rfl⟩, fun h => absurd h (by decide), fun h => absurd h (by decide), trivial⟩, ⟨fun h => absurd h (by decide), fun _ => ⟨rfl, rfl⟩, fun h => absurd h (by decide), trivial⟩, ⟨fun h => absurd h (by decide), fun h => absurd h (by decide), fun _ => ⟨rfl, rfl⟩, trivial⟩, trivial⟩⟩
      apply ld tokTB mixed (by kernel_rfl) (by kernel_rfl)
      · intro RR hRR
        refine w_fap rfl und29 rfl kn27 nz27 rfl (by decide) rfl ?_
        first | refine w_ldc rfl kn27 (by constructor) (by exact sz27.symm) (by exact ag27.symm) ?_ | refine w_ldp rfl kn27 rfl (by constructor) (by exact sz27.symm) (by exact ag27.symm) ?_
        refine w_move (by constructor) ?_
        refine w_move (by constructor) ?_
        refine w_move (by constructor) ?_
        refine w_sl_rh rfl rfl und27 kn2 (by exact sz2.symm) (by omega) ?_
        refine w_move (by constructor) ?_
        refine w_move (by constructor) ?_
        refine w_sl_rl rfl rfl und27 kn2 (by exact sz2.symm) rfl (by omega) ?_
        refine y_call rfl (exc (by exact rfl) (exc (by show AV.ro (a + b - a) _ = _; rw [Nat.add_sub_cancel_left]; rfl) (exp_capL hcl))) (hf x lt_x) ?_
        refine w_move (by constructor) ?_
        refine y_call rfl (ec (ec exn)) (c_rest (x := Q x) (by omega) (by omega)) ?_
        refine w_bsl1 und27 kn2 (by rw [sz2]; rfl) rfl (by constructor) (by first | exact trivial | exact cel_cap2) (by exact sz2.symm) (by first | exact trivial | exact ssh_vec | exact ⟨rfl, fun _ => trivial⟩) ?_
        first | refine w_app_o und27 rfl rfl kn2 rfl rfl (fun C h => ⟨rfl, rfl, rfl, h⟩) (by rw [by2]; omega) (by omega) rfl ?_ | refine w_app_n und27 rfl rfl kn2 rfl (fun C h => ⟨rfl, rfl, rfl, h⟩) (by omega) (by rw [by2]; omega) (by omega) ?_
        refine w_fap rfl und29 rfl kn27 nz27 rfl (by decide) rfl ?_
        first | refine w_stw rfl (by constructor) kn27 rfl (by exact trivial) (sx) (by exact sz27.symm) ?_ | refine w_sti rfl rfl kn27 rfl (by exact trivial) (by exact sz27.symm) ?_ | refine w_store rfl (HV.eq (by constructor)) kn27 rfl (by exact trivial) (sx) (by exact sz27.symm) (put_in (by first | exact put_mat | exact put_tab | exact put_alg0 | exact put_pr0 | exact put_pr1 | exact put_pr2 | exact put_tn4 | exact put_alg1 | exact put_alg2 | exact put_alg3 | exact put_alg3i | exact put_alg2ij | exact put_alg2ijk | exact put_mat2 | exact put_tab2 | exact put_tab3)) ?_ | refine w_store rfl (HV.eq (by constructor)) kn27 rfl (by exact trivial) (by exact trivial) (by exact sz27.symm) rfl ?_
        exact hRR
      apply lr tokTB (by kernel_rfl)
      · intro RR hRR
        refine y_add rfl rfl ?_
        refine w_move (by constructor) ?_
        exact hRR
      refine ⟨x + 1, (fun k i => bif Nat.beq k 905 then (62, i) else (k, i)), ?_, (by omega), (by dsimp only; omega)⟩
      show Emb _ _ _ _ (if x + 1 = 0 then [(10, .one (tnA 0 0 0 0 .nilsl) (tnA 0 0 0 0 .nilsl)), (13, .one (tnA 0 0 0 0 .nilsl) (tnA p (n : Int) (a : Int) (b : Int) .nilsl))] else [(10, .one (tnA 0 0 0 0 .nilsl) (tnA 0 0 0 0 .nilsl)), (13, .one (tnA 0 0 0 0 .nilsl) (tnA p (n : Int) (a : Int) (b : Int) (.own 905 0 (x + 1) 2))), (905, .one (Z64 (x + 1)) (C64 (x + 1) Q))])
      rw [if_neg (Nat.succ_ne_zero x)]
      exact ⟨⟨(mi), (mi), (mi), (mi), (by exact Mt_closed (V := _) hcl (fun _ _ _ => trivial) (by simp)), ⟨rfl, rfl, rfl, rfl, rfl⟩, ⟨rfl, rfl, rfl, rfl, rfl⟩, (mi), (mi), trivial⟩, ⟨⟨rfl, (sx), (by exact mt_tn rfl)⟩, ⟨rfl, (sx), (by exact mt_tn ⟨rfl, rfl, rfl, rfl⟩)⟩, ⟨rfl, (sx), (by exact mt_app (fun _ _ => rfl) (congrArg (AV.int .i64) (Int.emod_eq_of_lt (hQ x).1 (hQ x).2)))⟩, trivial⟩, ⟨⟨(fun h => by first | exact ⟨rfl, rfl⟩ | exact absurd h (by decide)), (fun h => by first | exact ⟨rfl, rfl⟩ | exact absurd h (by decide)), (fun h => by first | exact ⟨rfl, rfl⟩ | exact absurd h (by decide)), trivial⟩, ⟨(fun h => by first | exact ⟨rfl, rfl⟩ | exact absurd h (by decide)), (fun h => by first | exact ⟨rfl, rfl⟩ | exact absurd h (by decide)), (fun h => by first | exact ⟨rfl, rfl⟩ | exact absurd h (by decide)), trivial⟩, ⟨(fun h => by first | exact ⟨rfl, rfl⟩ | exact absurd h (by decide)), (fun h => by first | exact ⟨rfl, rfl⟩ | exact absurd h (by decide)), (fun h => by first | exact ⟨rfl, rfl⟩ | exact absurd h (by decide)), trivial⟩, trivial⟩⟩
    · try simp only [hcs] at hc41
      have ge_x : n ^ (a + b) = x := by omega
      subst ge_x
      refine snd_exit ?_
      apply sr tokTB (by kernel_rfl)
      · intro RR hRR
        refine w_ldp rfl kn29 rfl (by constructor) (by exact sz29.symm) (by exact ag29.symm) ?_
        refine w_stw rfl (by constructor) kn29 rfl (by exact trivial) (sx) (by exact sz29.symm) ?_
        refine w_assign (by constructor) ?_
        exact hRR
      refine snd_ret ?_
      show retQ TB _ _ _ _ _ _
      exact rt_tnu (T := TB) (k := 905) rfl kn29 rfl sz29.symm ag29.symm mt_tn_own (fun V => rfl) rfl rfl
end Go.Am

set_option linter.unusedVariables false
set_option linter.unusedSimpArgs false
set_option maxRecDepth 4000
namespace Go.Am
attribute [local irreducible] retQ retQp
open Go.Proofs
theorem c_l03Empty {p : Int} {n a b : Nat} (hn : 1 ≤ n ∧ n ≤ 6) (hab : a + b ≤ 3) : ACalls Try.prog TB 55 [.int .i64 p, .int .i64 (n : Int), .int .i64 (a : Int), .int .i64 (b : Int)] (tnA p (n : Int) (a : Int) (b : Int) (.own 0 0 (n ^ (a + b)) 2)) [(0, .one (Z64 (n ^ (a + b))) (C64 (n ^ (a + b)) (fun _ => 0)))] := by
  have hpw := pow216 hn hab
  refine acalls_of tokTB Try.func55 rfl rfl (Nat.le_of_ble_eq_true rfl) ?_
  apply sr tokTB (by kernel_rfl)
  · intro RR hRR
    refine w_alloc kn29 rfl zr29 ?_
    exact hRR
  apply sr tokTB (by kernel_rfl)
  · intro RR hRR
    refine w_move (by constructor) ?_
    refine w_move (by constructor) ?_
    refine w_move (by constructor) ?_
    refine w_move (by constructor) ?_
    refine w_move (by constructor) ?_
    refine w_move (by constructor) ?_
    refine w_move (by constructor) ?_
    refine y_add rfl rfl ?_
    refine y_call rfl (exc (by exact rfl) (exc (by exact congrArg (AV.int .i64) (Int.natCast_add a b).symm) exn)) (c_l03Power (k := a + b) hn hab) ?_
    refine w_mks und27 rfl rfl kn2 rfl (by omega) (by rw [by2]; omega) (by omega) rfl ?_
    refine w_bld_s kn29 zr29 und29 rfl (by exact ⟨rfl, kn2, sz2, rfl, kn2, sz2, rfl, kn2, sz2, rfl, kn2, sz2, rfl, kn27, sz27, trivial⟩) (by exact ⟨⟨by decide, trivial, rfl⟩, ⟨by decide, trivial, rfl⟩, ⟨by decide, trivial, rfl⟩, ⟨by decide, trivial, rfl⟩, ⟨by decide, trivial, rfl⟩, trivial⟩) rfl ?_
    refine w_stw rfl (by constructor) kn29 rfl (by exact trivial) (sx) (by exact sz29.symm) ?_
    exact hRR
  refine snd_ret ?_
  show retQ TB _ _ _ _ _ _
  exact rt_tn (T := TB) (k := 18) rfl kn29 rfl sz29.symm ag29.symm (fun V h1 h2 => mt_tng rfl rfl rfl rfl ⟨h1, rfl, rfl, h2⟩) (by show some (AV.arr _ (fun _ => TB.zero 2), AV.arr _ (fun _ => TB.zero 2)) = _; rw [zr2]; rfl) rfl
end Go.Am

set_option linter.unusedVariables false
set_option linter.unusedSimpArgs false
set_option maxRecDepth 4000
namespace Go.Am
attribute [local irreducible] retQ retQp
open Go.Proofs
theorem c_eqTensor {p n i o : Int} {N : Nat} {F : Nat → Int} {G : Nat → Int} (hN : N ≤ 1000) (h : ∀ j, j < N → F j = G j) : ACalls Try.prog TB 17 [tnA p n i o (rowA N F), tnA p n i o (rowA N G)] (.bool true) [] := by
  refine acalls_of tokTB Try.func17 rfl rfl (Nat.le_of_ble_eq_true rfl) ?_
  apply sr tokTB (by kernel_rfl)
  · intro RR hRR
    refine w_boxc (HV.eq (by constructor)) (by exact trivial) ?_
    refine w_boxc (HV.eq (by constructor)) (by exact trivial) ?_
    refine w_assign (by constructor) ?_
    exact hRR
  refine snd_seq ?_
  apply sr tokTB (by kernel_rfl)
  · intro RR hRR
    refine w_fac rfl und29 rfl kn2 nz2 (by decide) rfl (by constructor) ?_
    refine w_ldc rfl kn2 (by constructor) (by exact sz2.symm) (by exact ag2.symm) ?_
    refine w_fac rfl und29 rfl kn2 nz2 (by decide) rfl (by constructor) ?_
    refine w_ldc rfl kn2 (by constructor) (by exact sz2.symm) (by exact ag2.symm) ?_
    refine w_neq rfl rfl ?_
    exact hRR
  refine snd_cond_false (by exact congrArg AV.bool (decide_eq_false (fun h => h rfl))) ?_
  refine snd_skip ?_
  refine snd_seq ?_
  apply sr tokTB (by kernel_rfl)
  · intro RR hRR
    refine w_fac rfl und29 rfl kn2 nz2 (by decide) rfl (by constructor) ?_
    refine w_ldc rfl kn2 (by constructor) (by exact sz2.symm) (by exact ag2.symm) ?_
    refine w_fac rfl und29 rfl kn2 nz2 (by decide) rfl (by constructor) ?_
    refine w_ldc rfl kn2 (by constructor) (by exact sz2.symm) (by exact ag2.symm) ?_
    refine w_neq rfl rfl ?_
    exact hRR
  refine snd_cond_false (by exact congrArg AV.bool (decide_eq_false (fun h => h rfl))) ?_
  refine snd_skip ?_
  refine snd_seq ?_
  apply sr tokTB (by kernel_rfl)
  · intro RR hRR
    refine w_fac rfl und29 rfl kn2 nz2 (by decide) rfl (by constructor) ?_
    refine w_ldc rfl kn2 (by constructor) (by exact sz2.symm) (by exact ag2.symm) ?_
    refine w_fac rfl und29 rfl kn2 nz2 (by decide) rfl (by constructor) ?_
    refine w_ldc rfl kn2 (by constructor) (by exact sz2.symm) (by exact ag2.symm) ?_
    refine w_neq rfl rfl ?_
    exact hRR
  refine snd_cond_false (by exact congrArg AV.bool (decide_eq_false (fun h => h rfl))) ?_
  refine snd_skip ?_
  refine snd_seq ?_
  apply sr tokTB (by kernel_rfl)
  · intro RR hRR
    refine w_fac rfl und29 rfl kn2 nz2 (by decide) rfl (by constructor) ?_
    refine w_ldc rfl kn2 (by constructor) (by exact sz2.symm) (by exact ag2.symm) ?_
    refine w_fac rfl und29 rfl kn2 nz2 (by decide) rfl (by constructor) ?_
    refine w_ldc rfl kn2 (by constructor) (by exact sz2.symm) (by exact ag2.symm) ?_
    refine w_neq rfl rfl ?_
    exact hRR
  refine snd_cond_false (by exact congrArg AV.bool (decide_eq_false (fun h => h rfl))) ?_
  refine snd_skip ?_
  refine snd_seq ?_
  apply sr tokTB (by kernel_rfl)
  · intro RR hRR
    refine w_fac rfl und29 rfl kn27 nz27 (by decide) rfl (by constructor) ?_
    refine w_ldc rfl kn27 (by constructor) (by exact sz27.symm) (by exact ag27.symm) ?_
    refine w_fac rfl und29 rfl kn27 nz27 (by decide) rfl (by constructor) ?_
    refine w_ldc rfl kn27 (by constructor) (by exact sz27.symm) (by exact ag27.symm) ?_
    refine y_call rfl (ec (ec exn)) (c_eqInt64S hN h) ?_
    refine w_not rfl ?_
    exact hRR
  refine snd_cond_false (by exact rfl) ?_
  refine snd_skip ?_
  apply sr tokTB (by kernel_rfl)
  · intro RR hRR
    refine w_assign (by constructor) ?_
    exact hRR
  refine snd_ret ?_
  exact rt (T := TB) (fun V => rfl)
theorem c_heldTensor {p n i o : Int} {N : Nat} {F : Nat → Int} {k : Int} (hN : N ≤ 1000) (hk : 0 ≤ k ∧ k ≤ 1000000) (h : ∀ j, j < N → F j = k + (j : Nat)) : ACalls Try.prog TB 19 [tnA p n i o (rowA N F), .int .i64 k] (.int .i64 (k + N)) [] := by
  refine acalls_of tokTB Try.func19 rfl rfl (Nat.le_of_ble_eq_true rfl) ?_
  apply sr tokTB (by kernel_rfl)
  · intro RR hRR
    refine w_boxc (HV.eq (by constructor)) (by exact trivial) ?_
    refine w_assign (by constructor) ?_
    exact hRR
  apply sr tokTB (by kernel_rfl)
  · intro RR hRR
    refine w_fac rfl und29 rfl kn27 nz27 (by decide) rfl (by constructor) ?_
    refine w_ldc rfl kn27 (by constructor) (by exact sz27.symm) (by exact ag27.symm) ?_
    refine w_move (by constructor) ?_
    refine y_call rfl (ec (ec exn)) (c_heldInt64S hN hk h) ?_
    refine w_assign (by constructor) ?_
    exact hRR
  refine snd_seq ?_
  apply sr tokTB (by kernel_rfl)
  · intro RR hRR
    refine w_move (by constructor) ?_
    refine w_lss rfl rfl ?_
    exact hRR
  refine snd_cond_false (by exact congrArg AV.bool (decide_eq_false (by omega))) ?_
  refine snd_skip ?_
  apply sr tokTB (by kernel_rfl)
  · intro RR hRR
    refine w_move (by constructor) ?_
    refine w_assign (by constructor) ?_
    exact hRR
  refine snd_ret ?_
  exact rt (T := TB) (fun V => rfl)
theorem c_markTensor {p n i o : Int} {N : Nat} {F : Nat → Int} {k : Int} (hN : N ≤ 1000) (hk : 0 ≤ k ∧ k ≤ 1000000) : MCalls Try.prog TB 18 [0] [tnA p n i o (.own 0 0 N 2), .int .i64 k] [(0, .one (Z64 N) (C64 N F))] (.int .i64 (k + N)) [(0, .one (Z64 N) (C64 N (fun j => k + (j : Nat))))] := by
  refine mcalls_of tokTB Try.func18 rfl rfl (Nat.le_of_ble_eq_true rfl) ⟨rfl, trivial⟩ ?_
  apply srp tokTB (by kernel_rfl)
  · intro RR hRR
    refine w_boxc (HV.eq (by constructor)) (by exact trivial) ?_
    refine w_assign (by constructor) ?_
    exact hRR
  apply srDp tokTB (ops1 := [_, _, _]) (ops2 := [_]) (by kernel_rfl) rfl rfl
  · intro RR hRR
    refine w_fac rfl und29 rfl kn27 nz27 (by decide) rfl (by constructor) ?_
    refine w_ldc rfl kn27 (by constructor) (by exact sz27.symm) (by exact ag27.symm) ?_
    refine w_move (by constructor) ?_
    exact hRR
  · exact mut_mid1 tokTB (c_markInt64S (m := N) (f := F) (k := k) hN hk) (args := [.tmp 7]) (k := 0) (i := 0) rfl rfl ⟨trivial, trivial⟩ trivial (fun _ => trivial) (fun _ => trivial) rfl
  · intro RR hRR
    refine w_assign (by constructor) ?_
    exact hRR
  apply srp tokTB (by kernel_rfl)
  · intro RR hRR
    refine w_move (by constructor) ?_
    refine w_assign (by constructor) ?_
    exact hRR
  refine snp_ret ?_
  exact rtp (ρ := ρ0) ⟨⟨m_int rfl, trivial⟩, ⟨⟨rfl, ⟨rfl, fun _ => trivial⟩, mt_vec (fun z hz => rfl)⟩, trivial⟩, ⟨⟨fun _ => ⟨rfl, rfl⟩, trivial⟩, trivial⟩⟩ ⟨⟨fun _ => rfl, rfl⟩, trivial⟩
theorem c_markNilTensor {p n i o k : Int} : ACalls Try.prog TB 18 [tnA p n i o (.nilsl), .int .i64 k] (.int .i64 k) [] := by
  refine acalls_of tokTB Try.func18 rfl rfl (Nat.le_of_ble_eq_true rfl) ?_
  apply sr tokTB (by kernel_rfl)
  · intro RR hRR
    refine w_boxc (HV.eq (by constructor)) (by exact trivial) ?_
    refine w_assign (by constructor) ?_
    exact hRR
  apply sr tokTB (by kernel_rfl)
  · intro RR hRR
    refine w_fac rfl und29 rfl kn27 nz27 (by decide) rfl (by constructor) ?_
    refine w_ldc rfl kn27 (by constructor) (by exact sz27.symm) (by exact ag27.symm) ?_
    refine w_move (by constructor) ?_
    refine y_call rfl (ec (ec exn)) (c_markNilInt64S (k := k)) ?_
    refine w_assign (by constructor) ?_
    exact hRR
  apply sr tokTB (by kernel_rfl)
  · intro RR hRR
    refine w_move (by constructor) ?_
    refine w_assign (by constructor) ?_
    exact hRR
  refine snd_ret ?_
  exact rt (T := TB) (fun V => rfl)
end Go.Am

set_option linter.unusedVariables false
set_option linter.unusedSimpArgs false
set_option maxRecDepth 4000
namespace Go.Am
attribute [local irreducible] retQ retQp
open Go.Proofs
theorem c_stated0_ok {p : Int} {n : Nat} {T : Nat → Nat → Nat → Int} {fo : Nat → Int} (hv0 : VN p n T fo) (hr : rankT p n T fo = n) : ACalls Try.prog TB 63 [algA p (n : Int) T fo, .nilsl] (.int .i64 0) [] := by
  refine acalls_of tokTB Try.func63 rfl rfl (Nat.le_of_ble_eq_true rfl) ?_
  apply sr tokTB (by kernel_rfl)
  · intro RR hRR
    refine w_boxc (HV.eq (by constructor)) (by exact trivial) ?_
    refine w_assign (by constructor) ?_
    exact hRR
  refine snd_seq ?_
  apply sr tokTB (by kernel_rfl)
  · intro RR hRR
    refine w_ldc rfl kn34 (by constructor) (by exact sz34.symm) (by exact ag34.symm) ?_
    refine w_move (by constructor) ?_
    refine y_call rfl (ec (ec exn)) (c_valid0_ok hv0) ?_
    refine w_assign (by constructor) ?_
    exact hRR
  apply sr tokTB (by kernel_rfl)
  · intro RR hRR
    refine w_move (by constructor) ?_
    refine w_neq rfl rfl ?_
    exact hRR
  refine snd_cond_false rfl ?_
  refine snd_skip ?_
  refine snd_seq ?_
  apply sr tokTB (by kernel_rfl)
  · intro RR hRR
    refine y_call rfl (ec exn) (c_frobenius hv0) ?_
    refine w_not rfl ?_
    exact hRR
  refine snd_cond_false (by exact not_t hr) ?_
  refine snd_skip ?_
  apply sr tokTB (by kernel_rfl)
  · intro RR hRR
    refine w_assign (by constructor) ?_
    exact hRR
  refine snd_ret ?_
  exact rt (T := TB) (fun V => rfl)
theorem c_stated0_nf {p : Int} {n : Nat} {T : Nat → Nat → Nat → Int} {fo : Nat → Int} (hv0 : VN p n T fo) (hr : ¬ rankT p n T fo = n) : ACalls Try.prog TB 63 [algA p (n : Int) T fo, .nilsl] (.int .i64 5) [] := by
  refine acalls_of tokTB Try.func63 rfl rfl (Nat.le_of_ble_eq_true rfl) ?_
  apply sr tokTB (by kernel_rfl)
  · intro RR hRR
    refine w_boxc (HV.eq (by constructor)) (by exact trivial) ?_
    refine w_assign (by constructor) ?_
    exact hRR
  refine snd_seq ?_
  apply sr tokTB (by kernel_rfl)
  · intro RR hRR
    refine w_ldc rfl kn34 (by constructor) (by exact sz34.symm) (by exact ag34.symm) ?_
    refine w_move (by constructor) ?_
    refine y_call rfl (ec (ec exn)) (c_valid0_ok hv0) ?_
    refine w_assign (by constructor) ?_
    exact hRR
  apply sr tokTB (by kernel_rfl)
  · intro RR hRR
    refine w_move (by constructor) ?_
    refine w_neq rfl rfl ?_
    exact hRR
  refine snd_cond_false rfl ?_
  refine snd_skip ?_
  refine snd_seq ?_
  apply sr tokTB (by kernel_rfl)
  · intro RR hRR
    refine y_call rfl (ec exn) (c_frobenius hv0) ?_
    refine w_not rfl ?_
    exact hRR
  refine snd_cond_true (by exact not_f hr) ?_
  apply sr tokTB (by kernel_rfl)
  · intro RR hRR
    refine w_assign (by constructor) ?_
    exact hRR
  refine snd_ret ?_
  exact rt (T := TB) (fun V => rfl)
theorem c_stated0_no {p n : Int} {T : Nat → Nat → Nat → Int} {fo : Nat → Int} (hT : RB T) (hf : RV fo) (hz : ¬ VZ p n T fo 0 (fun _ _ => 0)) : ACalls Try.prog TB 63 [algA p n T fo, .nilsl] (.int .i64 1) [] := by
  refine acalls_of tokTB Try.func63 rfl rfl (Nat.le_of_ble_eq_true rfl) ?_
  apply sr tokTB (by kernel_rfl)
  · intro RR hRR
    refine w_boxc (HV.eq (by constructor)) (by exact trivial) ?_
    refine w_assign (by constructor) ?_
    exact hRR
  refine snd_seq ?_
  apply sr tokTB (by kernel_rfl)
  · intro RR hRR
    refine w_ldc rfl kn34 (by constructor) (by exact sz34.symm) (by exact ag34.symm) ?_
    refine w_move (by constructor) ?_
    refine y_call rfl (ec (ec exn)) (c_valid0_no hT hf hz) ?_
    refine w_assign (by constructor) ?_
    exact hRR
  apply sr tokTB (by kernel_rfl)
  · intro RR hRR
    refine w_move (by constructor) ?_
    refine w_neq rfl rfl ?_
    exact hRR
  refine snd_cond_true rfl ?_
  apply sr tokTB (by kernel_rfl)
  · intro RR hRR
    refine w_move (by constructor) ?_
    refine w_assign (by constructor) ?_
    exact hRR
  refine snd_ret ?_
  exact rt (T := TB) (fun V => rfl)
theorem c_sCoproductTensor_ok {p : Int} {n : Nat} {T : Nat → Nat → Nat → Int} {fo : Nat → Int} (hv0 : VN p n T fo) (hr : rankT p n T fo = n) : ACalls Try.prog TB 24 [algA p (n : Int) T fo] (.tup 2 (pairA (tnA p (n : Int) 1 2 (.own 0 0 (n ^ (1 + 2)) 2)) (.int .i64 0))) [(0, .one (Z64 (n ^ (1 + 2))) (C64 (n ^ (1 + 2)) (cutF (coQ p n T fo) (n * n * n))))] := by
  have hp8 := hv0.p0
  have hn6 := hv0.n6
  have hn0 := hv0.n0
  have hn : 1 ≤ n ∧ n ≤ 6 := by omega
  have hEV : ∀ i, i < n → VV p n (eF i) := fun i hi => VV.eF (by omega) hi
  refine acalls_of tokTB Try.func24 rfl rfl (Nat.le_of_ble_eq_true rfl) ?_
  apply sr tokTB (by kernel_rfl)
  · intro RR hRR
    refine w_boxc (HV.eq (by constructor)) (by exact trivial) ?_
    refine w_alloc kn29 rfl zr29 ?_
    refine w_assign (by constructor) ?_
    exact hRR
  refine snd_seq ?_
  apply sr tokTB (by kernel_rfl)
  · intro RR hRR
    refine w_ldc rfl kn34 (by constructor) (by exact sz34.symm) (by exact ag34.symm) ?_
    refine y_call rfl (ec (ec exn)) (c_l01Code0_ok hv0) ?_
    refine w_assign (by constructor) ?_
    exact hRR
  apply sr tokTB (by kernel_rfl)
  · intro RR hRR
    refine w_move (by constructor) ?_
    refine w_neq rfl rfl ?_
    exact hRR
  refine snd_cond_false rfl ?_
  refine snd_skip ?_
  refine snd_seq ?_
  apply sr tokTB (by kernel_rfl)
  · intro RR hRR
    refine w_ldc rfl kn34 (by constructor) (by exact sz34.symm) (by exact ag34.symm) ?_
    refine y_call rfl (ec exn) (((decide_eq_true hr) ▸ c_l01Frobenius hv0)) ?_
    refine w_not rfl ?_
    exact hRR
  refine snd_cond_false (by exact rfl) ?_
  refine snd_skip ?_
  apply sr tokTB (by kernel_rfl)
  · intro RR hRR
    refine w_fac rfl und34 rfl kn2 nz2 (by decide) rfl (by constructor) ?_
    refine w_ldc rfl kn2 (by constructor) (by exact sz2.symm) (by exact ag2.symm) ?_
    refine w_assign (by constructor) ?_
    exact hRR
  apply sr tokTB (by kernel_rfl)
  · intro RR hRR
    refine w_fac rfl und34 rfl kn2 nz2 (by decide) rfl (by constructor) ?_
    refine w_ldc rfl kn2 (by constructor) (by exact sz2.symm) (by exact ag2.symm) ?_
    refine w_move (by constructor) ?_
    refine w_call rfl (exc (by exact rfl) (exc (by exact rfl) (exc (by exact rfl) (exc (by exact rfl) exn)))) (c_l03Empty (a := 1) (b := 2) hn (by omega)) (.inl ⟨nr_tn trivial, ⟨fun _ => trivial, trivial⟩⟩) rfl (by constructor) rfl ?_
    refine w_alloc kn29 rfl zr29 ?_
    refine w_stw rfl (by constructor) kn29 rfl (by exact trivial) (sx) (by exact sz29.symm) ?_
    exact hRR
  refine snd_seq ?_
  apply sr tokTB (by kernel_rfl)
  · intro RR hRR
    refine w_assign (by constructor) ?_
    exact hRR
  refine snd_block ?_
  refine snd_loop (S := Nat) (fun i => ([(1, .cptr (algA p (n : Int) T fo)), (2, .ptr 2 0 [] 0 (tnA 0 0 0 0 .nilsl)), (5, .int .i64 (n : Int)), (6, .ptr 6 0 [] 0 (tnA 0 0 0 0 .nilsl)), (7, .int .i64 (i : Int))], [(2, .one (tnA 0 0 0 0 .nilsl) (tnA 0 0 0 0 .nilsl)), (6, .one (tnA 0 0 0 0 .nilsl) (tnA p (n : Int) 1 2 (.own 905 0 (n ^ (1 + 2)) 2))), (905, .one (Z64 (n ^ (1 + 2))) (C64 (n ^ (1 + 2)) (cutF (coQ p n T fo) (i * n * n))))])) (fun i => i ≤ n) (fun i => n - i) (0) (fun k i => bif Nat.beq k 905 then (27000, i) else (k, i)) ?_ ?_ ?_
  · exact ⟨⟨m_calg, ⟨rfl, rfl, rfl, rfl, rfl⟩, (mi), ⟨rfl, rfl, rfl, rfl, rfl⟩, (mi), trivial⟩, ⟨⟨rfl, (sx), (by exact mt_tn rfl)⟩, ⟨rfl, (sx), (by exact mt_tng rfl rfl rfl rfl ⟨rfl, rfl, rfl, rfl⟩)⟩, ⟨rfl, (sx), (by exact mt_vec (fun z _ => by rw [Nat.zero_mul, Nat.zero_mul]; rfl))⟩, trivial⟩, ⟨⟨(fun h => by first | exact ⟨rfl, rfl⟩ | exact absurd h (by decide)), (fun h => by first | exact ⟨rfl, rfl⟩ | exact absurd h (by decide)), (fun h => by first | exact ⟨rfl, rfl⟩ | exact absurd h (by decide)), trivial⟩, ⟨(fun h => by first | exact ⟨rfl, rfl⟩ | exact absurd h (by decide)), (fun h => by first | exact ⟨rfl, rfl⟩ | exact absurd h (by decide)), (fun h => by first | exact ⟨rfl, rfl⟩ | exact absurd h (by decide)), trivial⟩, ⟨(fun h => by first | exact ⟨rfl, rfl⟩ | exact absurd h (by decide)), (fun h => by first | exact ⟨rfl, rfl⟩ | exact absurd h (by decide)), (fun h => by first | exact ⟨rfl, rfl⟩ | exact absurd h (by decide)), trivial⟩, trivial⟩⟩
  · exact Nat.zero_le _
  intro i hi0
  refine sq (env2 := [(1, .cptr (algA p (n : Int) T fo)), (2, .ptr 2 0 [] 0 (tnA 0 0 0 0 .nilsl)), (5, .int .i64 (n : Int)), (6, .ptr 6 0 [] 0 (tnA 0 0 0 0 .nilsl)), (7, .int .i64 (i : Int))]) (ol2 := [(2, .one (tnA 0 0 0 0 .nilsl) (tnA 0 0 0 0 .nilsl)), (6, .one (tnA 0 0 0 0 .nilsl) (tnA p (n : Int) 1 2 (.own 905 0 (n ^ (1 + 2)) 2))), (905, .one (Z64 (n ^ (1 + 2))) (C64 (n ^ (1 + 2)) (cutF (coQ p n T fo) (i * n * n))))]) rfl rfl ?_
  refine snd_seq ?_
  apply sr tokTB (by kernel_rfl)
  · intro RR hRR
    refine w_move (by constructor) ?_
    refine w_move (by constructor) ?_
    refine w_lss rfl rfl ?_
    exact hRR
  refine snd_cond _ rfl (fun hc29 => ?_) (fun hc29 => ?_)
  · try simp only [hcs] at hc29
    have lt_i : i < n := by omega
    refine snd_skip ?_
    refine snd_seq ?_
    refine snd_block ?_
    apply sd tokTB mixed (by kernel_rfl) (by kernel_rfl)
    · intro RR hRR
      refine w_ldc rfl kn34 (by constructor) (by exact sz34.symm) (by exact ag34.symm) ?_
      refine w_move (by constructor) ?_
      refine y_call rfl (ec exn) (c_l01Basis (i := i) (by omega)) ?_
      refine w_callc rfl (ec (ec exn)) (fam_cl (c_l02Coproduct hv0 (hEV i (by omega)) hr)) (by exact closed_rows) (by exact ⟨closed_alg, closed_vec (n := 6), trivial⟩) ?_
      refine w_assign (by constructor) ?_
      exact hRR
    apply sr tokTB (by kernel_rfl)
    · intro RR hRR
      refine w_assign (by constructor) ?_
      exact hRR
    refine snd_block ?_
    refine snd_loop (S := Nat) (fun j => ([(1, .cptr (algA p (n : Int) T fo)), (2, .ptr 2 0 [] 0 (tnA 0 0 0 0 .nilsl)), (5, .int .i64 (n : Int)), (6, .ptr 6 0 [] 0 (tnA 0 0 0 0 .nilsl)), (7, .int .i64 (i : Int)), (8, rowsA n n (cpD p (cpM p n (formT p T fo)) (fun q => timesF p n T (eF (i)) (eF q)) n)), (9, .int .i64 (j : Int))], [(2, .one (tnA 0 0 0 0 .nilsl) (tnA 0 0 0 0 .nilsl)), (6, .one (tnA 0 0 0 0 .nilsl) (tnA p (n : Int) 1 2 (.own 905 0 (n ^ (1 + 2)) 2))), (905, .one (Z64 (n ^ (1 + 2))) (C64 (n ^ (1 + 2)) (cutF (coQ p n T fo) ((i * n + j) * n))))])) (fun j => j ≤ n) (fun j => n - j) (0) ρ0 ?_ ?_ ?_
    · exact ⟨⟨m_calg, ⟨rfl, rfl, rfl, rfl, rfl⟩, (mi), ⟨rfl, rfl, rfl, rfl, rfl⟩, (mi), (mt_rows (V := _) (fun _ _ _ _ => rfl)), (mi), trivial⟩, ⟨⟨rfl, (sx), (by exact mt_tn rfl)⟩, ⟨rfl, (sx), (by exact mt_tn ⟨rfl, rfl, rfl, rfl⟩)⟩, ⟨rfl, (sx), (by exact mt_vec (fun z _ => by rw [Nat.add_zero]))⟩, trivial⟩, ⟨⟨(fun h => by first | exact ⟨rfl, rfl⟩ | exact absurd h (by decide)), (fun h => by first | exact ⟨rfl, rfl⟩ | exact absurd h (by decide)), (fun h => by first | exact ⟨rfl, rfl⟩ | exact absurd h (by decide)), trivial⟩, ⟨(fun h => by first | exact ⟨rfl, rfl⟩ | exact absurd h (by decide)), (fun h => by first | exact ⟨rfl, rfl⟩ | exact absurd h (by decide)), (fun h => by first | exact ⟨rfl, rfl⟩ | exact absurd h (by decide)), trivial⟩, ⟨(fun h => by first | exact ⟨rfl, rfl⟩ | exact absurd h (by decide)), (fun h => by first | exact ⟨rfl, rfl⟩ | exact absurd h (by decide)), (fun h => by first | exact ⟨rfl, rfl⟩ | exact absurd h (by decide)), trivial⟩, trivial⟩⟩
    · exact Nat.zero_le _
    intro j hi2
    refine sq (env2 := [(1, .cptr (algA p (n : Int) T fo)), (2, .ptr 2 0 [] 0 (tnA 0 0 0 0 .nilsl)), (5, .int .i64 (n : Int)), (6, .ptr 6 0 [] 0 (tnA 0 0 0 0 .nilsl)), (7, .int .i64 (i : Int)), (8, rowsA n n (cpD p (cpM p n (formT p T fo)) (fun q => timesF p n T (eF (i)) (eF q)) n)), (9, .int .i64 (j : Int))]) (ol2 := [(2, .one (tnA 0 0 0 0 .nilsl) (tnA 0 0 0 0 .nilsl)), (6, .one (tnA 0 0 0 0 .nilsl) (tnA p (n : Int) 1 2 (.own 905 0 (n ^ (1 + 2)) 2))), (905, .one (Z64 (n ^ (1 + 2))) (C64 (n ^ (1 + 2)) (cutF (coQ p n T fo) ((i * n + j) * n))))]) rfl rfl ?_
    refine snd_seq ?_
    apply sr tokTB (by kernel_rfl)
    · intro RR hRR
      refine w_move (by constructor) ?_
      refine w_move (by constructor) ?_
      refine w_lss rfl rfl ?_
      exact hRR
    refine snd_cond _ rfl (fun hc38 => ?_) (fun hc38 => ?_)
    · try simp only [hcs] at hc38
      have lt_j : j < n := by omega
      refine snd_skip ?_
      refine snd_seq ?_
      refine snd_block ?_
      apply sr tokTB (by kernel_rfl)
      · intro RR hRR
        refine w_assign (by constructor) ?_
        exact hRR
      refine snd_block ?_
      refine snd_loop (S := Nat) (fun k => ([(1, .cptr (algA p (n : Int) T fo)), (2, .ptr 2 0 [] 0 (tnA 0 0 0 0 .nilsl)), (5, .int .i64 (n : Int)), (6, .ptr 6 0 [] 0 (tnA 0 0 0 0 .nilsl)), (7, .int .i64 (i : Int)), (8, rowsA n n (cpD p (cpM p n (formT p T fo)) (fun q => timesF p n T (eF (i)) (eF q)) n)), (9, .int .i64 (j : Int)), (10, .int .i64 (k : Int))], [(2, .one (tnA 0 0 0 0 .nilsl) (tnA 0 0 0 0 .nilsl)), (6, .one (tnA 0 0 0 0 .nilsl) (tnA p (n : Int) 1 2 (.own 905 0 (n ^ (1 + 2)) 2))), (905, .one (Z64 (n ^ (1 + 2))) (C64 (n ^ (1 + 2)) (cutF (coQ p n T fo) ((i * n + j) * n + k))))])) (fun k => k ≤ n) (fun k => n - k) (0) ρ0 ?_ ?_ ?_
      · exact ⟨⟨m_calg, ⟨rfl, rfl, rfl, rfl, rfl⟩, (mi), ⟨rfl, rfl, rfl, rfl, rfl⟩, (mi), (mt_rows (V := _) (fun _ _ _ _ => rfl)), (mi), (mi), trivial⟩, ⟨⟨rfl, (sx), (by exact mt_tn rfl)⟩, ⟨rfl, (sx), (by exact mt_tn ⟨rfl, rfl, rfl, rfl⟩)⟩, ⟨rfl, (sx), (by exact mt_vec (fun z _ => rfl))⟩, trivial⟩, ⟨⟨(fun h => by first | exact ⟨rfl, rfl⟩ | exact absurd h (by decide)), (fun h => by first | exact ⟨rfl, rfl⟩ | exact absurd h (by decide)), (fun h => by first | exact ⟨rfl, rfl⟩ | exact absurd h (by decide)), trivial⟩, ⟨(fun h => by first | exact ⟨rfl, rfl⟩ | exact absurd h (by decide)), (fun h => by first | exact ⟨rfl, rfl⟩ | exact absurd h (by decide)), (fun h => by first | exact ⟨rfl, rfl⟩ | exact absurd h (by decide)), trivial⟩, ⟨(fun h => by first | exact ⟨rfl, rfl⟩ | exact absurd h (by decide)), (fun h => by first | exact ⟨rfl, rfl⟩ | exact absurd h (by decide)), (fun h => by first | exact ⟨rfl, rfl⟩ | exact absurd h (by decide)), trivial⟩, trivial⟩⟩
      · exact Nat.zero_le _
      intro k hi4
      refine sq (env2 := [(1, .cptr (algA p (n : Int) T fo)), (2, .ptr 2 0 [] 0 (tnA 0 0 0 0 .nilsl)), (5, .int .i64 (n : Int)), (6, .ptr 6 0 [] 0 (tnA 0 0 0 0 .nilsl)), (7, .int .i64 (i : Int)), (8, rowsA n n (cpD p (cpM p n (formT p T fo)) (fun q => timesF p n T (eF (i)) (eF q)) n)), (9, .int .i64 (j : Int)), (10, .int .i64 (k : Int))]) (ol2 := [(2, .one (tnA 0 0 0 0 .nilsl) (tnA 0 0 0 0 .nilsl)), (6, .one (tnA 0 0 0 0 .nilsl) (tnA p (n : Int) 1 2 (.own 905 0 (n ^ (1 + 2)) 2))), (905, .one (Z64 (n ^ (1 + 2))) (C64 (n ^ (1 + 2)) (cutF (coQ p n T fo) ((i * n + j) * n + k))))]) rfl rfl ?_
      refine snd_seq ?_
      apply sr tokTB (by kernel_rfl)
      · intro RR hRR
        refine w_move (by constructor) ?_
        refine w_move (by constructor) ?_
        refine w_lss rfl rfl ?_
        exact hRR
      refine snd_cond _ rfl (fun hc43 => ?_) (fun hc43 => ?_)
      · try simp only [hcs] at hc43
        have lt_k : k < n := by omega
        obtain ⟨⟨hc1, hc2⟩, hc3, hc4, hc5, hc6⟩ := cube_at hn6 (show i < n by omega) (show j < n by omega) (show k < n by omega)
        have hq : coQ p n T fo ((i * n + j) * n + k) = (cpD p (cpM p n (formT p T fo)) (fun q => timesF p n T (eF (i)) (eF q)) n) j k := by unfold coQ; rw [hc4, hc5, hc6]
        refine snd_skip ?_
        refine snd_seq ?_
        refine snd_block ?_
        apply ld tokTB mixed (by kernel_rfl) (by kernel_rfl)
        · intro RR hRR
          refine w_fap rfl und29 rfl kn27 nz27 rfl (by decide) rfl ?_
          first | refine w_ldc rfl kn27 (by constructor) (by exact sz27.symm) (by exact ag27.symm) ?_ | refine w_ldp rfl kn27 rfl (by constructor) (by exact sz27.symm) (by exact ag27.symm) ?_
          refine w_move (by constructor) ?_
          refine w_move (by constructor) ?_
          refine w_mul rfl rfl (by exact (w64 (n := (i : Int) * (n : Int)) (by rw [← Int.natCast_mul]; omega) (by rw [← Int.natCast_mul]; omega)).trans (Int.natCast_mul i n).symm) ?_
          refine w_move (by constructor) ?_
          refine y_add rfl rfl ?_
          refine w_move (by constructor) ?_
          refine w_mul rfl rfl (by exact (w64 (n := (((i * n : Nat) : Int) + (j : Int)) * (n : Int)) (by rw [← Int.natCast_add, ← Int.natCast_mul]; omega) (by rw [← Int.natCast_add, ← Int.natCast_mul]; omega)).trans (by rw [← Int.natCast_add]; exact (Int.natCast_mul _ n).symm : _ = (((i * n + j) * n : Nat) : Int))) ?_
          refine w_move (by constructor) ?_
          refine y_add rfl rfl ?_
          refine w_move (by constructor) ?_
          refine w_move (by constructor) ?_
          refine w_iar rfl rfl und78 kn27 (by exact sz27.symm) ?_ rfl ?_
          · exact ⟨by omega, by omega⟩
          first | refine w_ldc rfl kn27 (by constructor) (by exact sz27.symm) (by exact ag27.symm) ?_ | refine w_ldp rfl kn27 rfl (by constructor) (by exact sz27.symm) (by exact ag27.symm) ?_
          refine w_move (by constructor) ?_
          refine w_iar rfl rfl und27 kn2 (by exact sz2.symm) ?_ rfl ?_
          · exact ⟨by omega, by omega⟩
          first | refine w_ldc rfl kn2 (by constructor) (by exact sz2.symm) (by exact ag2.symm) ?_ | refine w_ldp rfl kn2 rfl (by constructor) (by exact sz2.symm) (by exact ag2.symm) ?_
          refine w_iao rfl rfl und27 kn2 ?_ ?_
          · exact ⟨by omega, by show _ < ((n ^ 3 : Nat) : Int); omega⟩
          first | refine w_stw rfl (by constructor) kn2 rfl (by exact trivial) (sx) (by exact sz2.symm) ?_ | refine w_sti rfl rfl kn2 rfl (by exact trivial) (by exact sz2.symm) ?_ | refine w_store rfl (HV.eq (by constructor)) kn2 rfl (by exact trivial) (sx) (by exact sz2.symm) (put_in (by first | exact put_mat | exact put_tab | exact put_alg0 | exact put_pr0 | exact put_pr1 | exact put_pr2 | exact put_tn4 | exact put_alg1 | exact put_alg2 | exact put_alg3 | exact put_alg3i | exact put_alg2ij | exact put_alg2ijk | exact put_mat2 | exact put_tab2 | exact put_tab3)) ?_ | refine w_store rfl (HV.eq (by constructor)) kn2 rfl (by exact trivial) (by exact trivial) (by exact sz2.symm) rfl ?_
          exact hRR
        apply lr tokTB (by kernel_rfl)
        · intro RR hRR
          refine w_move (by constructor) ?_
          refine y_add rfl rfl ?_
          refine w_assign (by constructor) ?_
          exact hRR
        refine ⟨k + 1, ρ0, ?_, (by omega), (by dsimp only; omega)⟩
        exact ⟨⟨m_calg, ⟨rfl, rfl, rfl, rfl, rfl⟩, (mi), ⟨rfl, rfl, rfl, rfl, rfl⟩, (mi), (mt_rows (V := _) (fun _ _ _ _ => rfl)), (mi), (mi), trivial⟩, ⟨⟨rfl, (sx), (by exact mt_tn rfl)⟩, ⟨rfl, (sx), (by exact mt_tn ⟨rfl, rfl, rfl, rfl⟩)⟩, ⟨rfl, (sx), (by exact mt_vec (fun z _ => by show upd (cutF (coQ p n T fo) ((i * n + j) * n + k)) ((i * n + j) * n + k) ((cpD p (cpM p n (formT p T fo)) (fun q => timesF p n T (eF (i)) (eF q)) n) j k) z = _; rw [← hq]; exact upd_cut _ _ z))⟩, trivial⟩, ⟨⟨(fun h => by first | exact ⟨rfl, rfl⟩ | exact absurd h (by decide)), (fun h => by first | exact ⟨rfl, rfl⟩ | exact absurd h (by decide)), (fun h => by first | exact ⟨rfl, rfl⟩ | exact absurd h (by decide)), trivial⟩, ⟨(fun h => by first | exact ⟨rfl, rfl⟩ | exact absurd h (by decide)), (fun h => by first | exact ⟨rfl, rfl⟩ | exact absurd h (by decide)), (fun h => by first | exact ⟨rfl, rfl⟩ | exact absurd h (by decide)), trivial⟩, ⟨(fun h => by first | exact ⟨rfl, rfl⟩ | exact absurd h (by decide)), (fun h => by first | exact ⟨rfl, rfl⟩ | exact absurd h (by decide)), (fun h => by first | exact ⟨rfl, rfl⟩ | exact absurd h (by decide)), trivial⟩, trivial⟩⟩
      · try simp only [hcs] at hc43
        have ge_k : n = k := by omega
        subst ge_k
        refine snd_exit ?_
        apply lr tokTB (by kernel_rfl)
        · intro RR hRR
          refine w_move (by constructor) ?_
          refine y_add rfl rfl ?_
          refine w_assign (by constructor) ?_
          exact hRR
        refine ⟨j + 1, ρ0, ?_, (by omega), (by dsimp only; omega)⟩
        exact ⟨⟨m_calg, ⟨rfl, rfl, rfl, rfl, rfl⟩, (mi), ⟨rfl, rfl, rfl, rfl, rfl⟩, (mi), (mt_rows (V := _) (fun _ _ _ _ => rfl)), (mi), trivial⟩, ⟨⟨rfl, (sx), (by exact mt_tn rfl)⟩, ⟨rfl, (sx), (by exact mt_tn ⟨rfl, rfl, rfl, rfl⟩)⟩, ⟨rfl, (sx), (by exact mt_vec (fun z _ => by rw [show (i * n + (j + 1)) * n = (i * n + j) * n + n by rw [← Nat.add_assoc, Nat.succ_mul]]))⟩, trivial⟩, ⟨⟨(fun h => by first | exact ⟨rfl, rfl⟩ | exact absurd h (by decide)), (fun h => by first | exact ⟨rfl, rfl⟩ | exact absurd h (by decide)), (fun h => by first | exact ⟨rfl, rfl⟩ | exact absurd h (by decide)), trivial⟩, ⟨(fun h => by first | exact ⟨rfl, rfl⟩ | exact absurd h (by decide)), (fun h => by first | exact ⟨rfl, rfl⟩ | exact absurd h (by decide)), (fun h => by first | exact ⟨rfl, rfl⟩ | exact absurd h (by decide)), trivial⟩, ⟨(fun h => by first | exact ⟨rfl, rfl⟩ | exact absurd h (by decide)), (fun h => by first | exact ⟨rfl, rfl⟩ | exact absurd h (by decide)), (fun h => by first | exact ⟨rfl, rfl⟩ | exact absurd h (by decide)), trivial⟩, trivial⟩⟩
    · try simp only [hcs] at hc38
      have ge_j : n = j := by omega
      subst ge_j
      refine snd_exit ?_
      apply lr tokTB (by kernel_rfl)
      · intro RR hRR
        refine w_move (by constructor) ?_
        refine y_add rfl rfl ?_
        refine w_assign (by constructor) ?_
        exact hRR
      refine ⟨i + 1, ρ0, ?_, (by omega), (by dsimp only; omega)⟩
      exact ⟨⟨m_calg, ⟨rfl, rfl, rfl, rfl, rfl⟩, (mi), ⟨rfl, rfl, rfl, rfl, rfl⟩, (mi), trivial⟩, ⟨⟨rfl, (sx), (by exact mt_tn rfl)⟩, ⟨rfl, (sx), (by exact mt_tn ⟨rfl, rfl, rfl, rfl⟩)⟩, ⟨rfl, (sx), (by exact mt_vec (fun z _ => by rw [show (i + 1) * n * n = (i * n + n) * n by rw [Nat.succ_mul]]))⟩, trivial⟩, ⟨⟨(fun h => by first | exact ⟨rfl, rfl⟩ | exact absurd h (by decide)), (fun h => by first | exact ⟨rfl, rfl⟩ | exact absurd h (by decide)), (fun h => by first | exact ⟨rfl, rfl⟩ | exact absurd h (by decide)), trivial⟩, ⟨(fun h => by first | exact ⟨rfl, rfl⟩ | exact absurd h (by decide)), (fun h => by first | exact ⟨rfl, rfl⟩ | exact absurd h (by decide)), (fun h => by first | exact ⟨rfl, rfl⟩ | exact absurd h (by decide)), trivial⟩, ⟨(fun h => by first | exact ⟨rfl, rfl⟩ | exact absurd h (by decide)), (fun h => by first | exact ⟨rfl, rfl⟩ | exact absurd h (by decide)), (fun h => by first | exact ⟨rfl, rfl⟩ | exact absurd h (by decide)), trivial⟩, trivial⟩⟩
  · try simp only [hcs] at hc29
    have ge_i : n = i := by omega
    subst ge_i
    refine snd_exit ?_
    apply sr tokTB (by kernel_rfl)
    · intro RR hRR
      refine w_ldp rfl kn29 rfl (by constructor) (by exact sz29.symm) (by exact ag29.symm) ?_
      refine w_stw rfl (by constructor) kn29 rfl (by exact trivial) (sx) (by exact sz29.symm) ?_
      refine w_assign (by constructor) ?_
      exact hRR
    refine snd_ret ?_
    show retQ TB _ _ _ _ _ _
    exact rt_tnu (T := TB) (k := 905) rfl kn29 rfl sz29.symm ag29.symm mt_tn_own (fun V => rfl) rfl rfl
theorem c_sCoproductTensor_nf {p : Int} {n : Nat} {T : Nat → Nat → Nat → Int} {fo : Nat → Int} (hv0 : VN p n T fo) (hr : ¬ rankT p n T fo = n) : ACalls Try.prog TB 24 [algA p (n : Int) T fo] (.tup 2 (pairA (tnA 0 0 0 0 .nilsl) (.int .i64 5))) [] := by
  refine acalls_of tokTB Try.func24 rfl rfl (Nat.le_of_ble_eq_true rfl) ?_
  apply sr tokTB (by kernel_rfl)
  · intro RR hRR
    refine w_boxc (HV.eq (by constructor)) (by exact trivial) ?_
    refine w_alloc kn29 rfl zr29 ?_
    refine w_assign (by constructor) ?_
    exact hRR
  refine snd_seq ?_
  apply sr tokTB (by kernel_rfl)
  · intro RR hRR
    refine w_ldc rfl kn34 (by constructor) (by exact sz34.symm) (by exact ag34.symm) ?_
    refine y_call rfl (ec (ec exn)) (c_l01Code0_ok hv0) ?_
    refine w_assign (by constructor) ?_
    exact hRR
  apply sr tokTB (by kernel_rfl)
  · intro RR hRR
    refine w_move (by constructor) ?_
    refine w_neq rfl rfl ?_
    exact hRR
  refine snd_cond_false rfl ?_
  refine snd_skip ?_
  refine snd_seq ?_
  apply sr tokTB (by kernel_rfl)
  · intro RR hRR
    refine w_ldc rfl kn34 (by constructor) (by exact sz34.symm) (by exact ag34.symm) ?_
    refine y_call rfl (ec exn) (((decide_eq_false hr) ▸ c_l01Frobenius hv0)) ?_
    refine w_not rfl ?_
    exact hRR
  refine snd_cond_true (by exact rfl) ?_
  apply sr tokTB (by kernel_rfl)
  · intro RR hRR
    refine w_bld_s kn29 zr29 und29 rfl (by exact ⟨rfl, kn2, sz2, rfl, kn2, sz2, rfl, kn2, sz2, rfl, kn2, sz2, rfl, kn27, sz27, trivial⟩) trivial rfl ?_
    refine w_stw rfl (by constructor) kn29 rfl (by exact trivial) (sx) (by exact sz29.symm) ?_
    refine w_assign (by constructor) ?_
    exact hRR
  refine snd_ret ?_
  show retQ TB _ _ _ _ _ _
  exact rt_ct (T := TB) rfl kn29 rfl sz29.symm ag29.symm (fun V => mt_tng rfl rfl rfl rfl rfl) (fun V => rfl)
theorem c_sCoproductTensor_no {p n : Int} {T : Nat → Nat → Nat → Int} {fo : Nat → Int} (hT : RB T) (hf : RV fo) (hz : ¬ VZ p n T fo 0 (fun _ _ => 0)) : ACalls Try.prog TB 24 [algA p n T fo] (.tup 2 (pairA (tnA 0 0 0 0 .nilsl) (.int .i64 1))) [] := by
  refine acalls_of tokTB Try.func24 rfl rfl (Nat.le_of_ble_eq_true rfl) ?_
  apply sr tokTB (by kernel_rfl)
  · intro RR hRR
    refine w_boxc (HV.eq (by constructor)) (by exact trivial) ?_
    refine w_alloc kn29 rfl zr29 ?_
    refine w_assign (by constructor) ?_
    exact hRR
  refine snd_seq ?_
  apply sr tokTB (by kernel_rfl)
  · intro RR hRR
    refine w_ldc rfl kn34 (by constructor) (by exact sz34.symm) (by exact ag34.symm) ?_
    refine y_call rfl (ec (ec exn)) (c_l01Code0_no hT hf hz) ?_
    refine w_assign (by constructor) ?_
    exact hRR
  apply sr tokTB (by kernel_rfl)
  · intro RR hRR
    refine w_move (by constructor) ?_
    refine w_neq rfl rfl ?_
    exact hRR
  refine snd_cond_true rfl ?_
  apply sr tokTB (by kernel_rfl)
  · intro RR hRR
    refine w_bld_s kn29 zr29 und29 rfl (by exact ⟨rfl, kn2, sz2, rfl, kn2, sz2, rfl, kn2, sz2, rfl, kn2, sz2, rfl, kn27, sz27, trivial⟩) trivial rfl ?_
    refine w_move (by constructor) ?_
    refine w_stw rfl (by constructor) kn29 rfl (by exact trivial) (sx) (by exact sz29.symm) ?_
    refine w_assign (by constructor) ?_
    exact hRR
  refine snd_ret ?_
  show retQ TB _ _ _ _ _ _
  exact rt_ct (T := TB) rfl kn29 rfl sz29.symm ag29.symm (fun V => mt_tng rfl rfl rfl rfl rfl) (fun V => rfl)
theorem c_CoproductTensor1 {p : Int} {n : Nat} {T : Nat → Nat → Nat → Int} {fo : Nat → Int} (hv0 : VN p n T fo) {x : Nat} {d e : Nat → Int} (h0 : d 0 = ((dgN n 3 x 0 : Nat) : Int)) (h1 : e 0 = ((dgN n 3 x 1 : Nat) : Int)) (h2 : e 1 = ((dgN n 3 x 2 : Nat) : Int)) : ACalls Try.prog TB 67 [rowA 1 d, rowA 2 e, .cptr (.ro n (fun r => rowsA n n (cpD p (cpM p n (formT p T fo)) (fun q => timesF p n T (eF (r)) (eF q)) n)))] (.int .i64 (coQ p n T fo x)) [] := by
  have hp8 := hv0.p0
  have hn6 := hv0.n6
  have hn0 := hv0.n0
  have hn : 1 ≤ n ∧ n ≤ 6 := by omega
  have hb0 := dgN_lt (m := 3) (x := x) (j := 0) hn0
  have hb1 := dgN_lt (m := 3) (x := x) (j := 1) hn0
  have hb2 := dgN_lt (m := 3) (x := x) (j := 2) hn0
  refine acalls_of tokTB Try.func67 rfl rfl (Nat.le_of_ble_eq_true rfl) ?_
  apply sr tokTB (by kernel_rfl)
  · intro RR hRR
    refine w_assign (by constructor) ?_
    exact hRR
  apply sd tokTB mixed (by kernel_rfl) (by kernel_rfl)
  · intro RR hRR
    refine w_ldc rfl kn81 (by constructor) (by exact sz81.symm) (by exact ag81.symm) ?_
    refine w_move (by constructor) ?_
    refine w_iar rfl rfl und27 kn2 (by exact sz2.symm) ?_ rfl ?_
    · exact ⟨by omega, by omega⟩
    refine w_ldc (v := .int .i64 ((dgN n 3 x 0 : Nat) : Int)) rfl kn2 (by show HV (.int .i64 (d 0)) _; rw [h0]; constructor) (by exact sz2.symm) (by exact ag2.symm) ?_
    refine w_iar rfl rfl und81 kn78 (by exact sz78.symm) ?_ rfl ?_
    · exact ⟨by omega, by omega⟩
    first | refine w_ldc rfl kn78 (by constructor) (by exact sz78.symm) (by exact ag78.symm) ?_ | refine w_ldp rfl kn78 rfl (by constructor) (by exact sz78.symm) (by exact ag78.symm) ?_
    refine w_move (by constructor) ?_
    refine w_iar rfl rfl und27 kn2 (by exact sz2.symm) ?_ rfl ?_
    · exact ⟨by omega, by omega⟩
    refine w_ldc (v := .int .i64 ((dgN n 3 x 1 : Nat) : Int)) rfl kn2 (by show HV (.int .i64 (e 0)) _; rw [h1]; constructor) (by exact sz2.symm) (by exact ag2.symm) ?_
    refine w_iar rfl rfl und78 kn27 (by exact sz27.symm) ?_ rfl ?_
    · exact ⟨by omega, by omega⟩
    first | refine w_ldc rfl kn27 (by constructor) (by exact sz27.symm) (by exact ag27.symm) ?_ | refine w_ldp rfl kn27 rfl (by constructor) (by exact sz27.symm) (by exact ag27.symm) ?_
    refine w_move (by constructor) ?_
    refine w_iar rfl rfl und27 kn2 (by exact sz2.symm) ?_ rfl ?_
    · exact ⟨by omega, by omega⟩
    refine w_ldc (v := .int .i64 ((dgN n 3 x 2 : Nat) : Int)) rfl kn2 (by show HV (.int .i64 (e 1)) _; rw [h2]; constructor) (by exact sz2.symm) (by exact ag2.symm) ?_
    refine w_iar rfl rfl und27 kn2 (by exact sz2.symm) ?_ rfl ?_
    · exact ⟨by omega, by omega⟩
    first | refine w_ldc rfl kn2 (by constructor) (by exact sz2.symm) (by exact ag2.symm) ?_ | refine w_ldp rfl kn2 rfl (by constructor) (by exact sz2.symm) (by exact ag2.symm) ?_
    refine w_assign (by constructor) ?_
    exact hRR
  refine snd_ret ?_
  exact rt (T := TB) (fun V => rfl)
theorem c_iCoproductTensor_ok {p : Int} {n : Nat} {T : Nat → Nat → Nat → Int} {fo : Nat → Int} (hv0 : VN p n T fo) (hr : rankT p n T fo = n) : ACalls Try.prog TB 25 [algA p (n : Int) T fo] (.tup 2 (pairA (tnA p (n : Int) 1 2 (.own 0 0 (n ^ (1 + 2)) 2)) (.int .i64 0))) [(0, .one (Z64 (n ^ (1 + 2))) (C64 (n ^ (1 + 2)) (coQ p n T fo)))] := by
  have hp8 := hv0.p0
  have hn6 := hv0.n6
  have hn0 := hv0.n0
  have hn : 1 ≤ n ∧ n ≤ 6 := by omega
  have hEV : ∀ i, i < n → VV p n (eF i) := fun i hi => VV.eF (by omega) hi
  refine acalls_of tokTB Try.func25 rfl rfl (Nat.le_of_ble_eq_true rfl) ?_
  apply sr tokTB (by kernel_rfl)
  · intro RR hRR
    refine w_boxc (HV.eq (by constructor)) (by exact trivial) ?_
    refine w_alloc kn29 rfl zr29 ?_
    refine w_assign (by constructor) ?_
    exact hRR
  refine snd_seq ?_
  apply sr tokTB (by kernel_rfl)
  · intro RR hRR
    refine w_ldc rfl kn34 (by constructor) (by exact sz34.symm) (by exact ag34.symm) ?_
    refine y_call rfl (ec (ec exn)) (c_stated0_ok hv0 hr) ?_
    refine w_assign (by constructor) ?_
    exact hRR
  apply sr tokTB (by kernel_rfl)
  · intro RR hRR
    refine w_move (by constructor) ?_
    refine w_neq rfl rfl ?_
    exact hRR
  refine snd_cond_false rfl ?_
  refine snd_skip ?_
  apply sr tokTB (by kernel_rfl)
  · intro RR hRR
    refine w_bsl und81 kn78 (by rw [sz78]; rfl) rfl trivial trivial rfl ?_
    refine w_alloc kn81 rfl zr81 ?_
    refine w_stw rfl (by constructor) kn81 rfl (by exact trivial) (sx) (by exact sz81.symm) ?_
    exact hRR
  refine snd_seq ?_
  apply sr tokTB (by kernel_rfl)
  · intro RR hRR
    refine y_call rfl (ec exn) (c_n) ?_
    refine w_move (by constructor) ?_
    exact hRR
  refine snd_block ?_
  refine snd_loop (S := Nat) (fun x => ([(1, .cptr (algA p (n : Int) T fo)), (2, .ptr 2 0 [] 0 (tnA 0 0 0 0 .nilsl)), (5, .ptr 5 0 [] 0 (.nilsl)), (14, .int .i64 (n : Int)), (15, .int .i64 (x : Int))], [(2, .one (tnA 0 0 0 0 .nilsl) (tnA 0 0 0 0 .nilsl)), (5, .one (.nilsl) (.own 905 0 x 78)), (905, .one (.arr x (fun _ => TB.zero 78)) (.arr x (fun r => rowsA n n (cpD p (cpM p n (formT p T fo)) (fun q => timesF p n T (eF (r)) (eF q)) n))))])) (fun x => x ≤ n) (fun x => n - x) (0) (fun k i => bif Nat.beq k 905 then (13, i) else (k, i)) ?_ ?_ ?_
  · exact ⟨⟨m_calg, ⟨rfl, rfl, rfl, rfl, rfl⟩, ⟨rfl, rfl, rfl, rfl, rfl⟩, (mi), (mi), trivial⟩, ⟨⟨rfl, (sx), (by exact mt_tn rfl)⟩, ⟨rfl, (sx), (by exact ⟨rfl, rfl, rfl, rfl⟩)⟩, ⟨rfl, (sx), (by exact mt_arr0)⟩, trivial⟩, ⟨⟨(fun h => by first | exact ⟨rfl, rfl⟩ | exact absurd h (by decide)), (fun h => by first | exact ⟨rfl, rfl⟩ | exact absurd h (by decide)), (fun h => by first | exact ⟨rfl, rfl⟩ | exact absurd h (by decide)), trivial⟩, ⟨(fun h => by first | exact ⟨rfl, rfl⟩ | exact absurd h (by decide)), (fun h => by first | exact ⟨rfl, rfl⟩ | exact absurd h (by decide)), (fun h => by first | exact ⟨rfl, rfl⟩ | exact absurd h (by decide)), trivial⟩, ⟨(fun h => by first | exact ⟨rfl, rfl⟩ | exact absurd h (by decide)), (fun h => by first | exact ⟨rfl, rfl⟩ | exact absurd h (by decide)), (fun h => by first | exact ⟨rfl, rfl⟩ | exact absurd h (by decide)), trivial⟩, trivial⟩⟩
  · exact Nat.zero_le _
  intro x hi0
  refine sq (env2 := [(1, .cptr (algA p (n : Int) T fo)), (2, .ptr 2 0 [] 0 (tnA 0 0 0 0 .nilsl)), (5, .ptr 5 0 [] 0 (.nilsl)), (14, .int .i64 (n : Int)), (15, .int .i64 (x : Int))]) (ol2 := [(2, .one (tnA 0 0 0 0 .nilsl) (tnA 0 0 0 0 .nilsl)), (5, .one (.nilsl) (.own 905 0 x 78)), (905, .one (.arr x (fun _ => TB.zero 78)) (.arr x (fun r => rowsA n n (cpD p (cpM p n (formT p T fo)) (fun q => timesF p n T (eF (r)) (eF q)) n))))]) rfl rfl ?_
  apply sr tokTB (by kernel_rfl)
  · intro RR hRR
    refine w_lss rfl rfl ?_
    exact hRR
  refine snd_seq ?_
  refine snd_cond _ rfl (fun hc16 => ?_) (fun hc16 => ?_)
  · try simp only [hcs] at hc16
    have lt_x : x < n := by omega
    refine snd_skip ?_
    refine snd_seq ?_
    refine snd_block ?_
    apply sr tokTB (by kernel_rfl)
    · intro RR hRR
      refine w_move (by constructor) ?_
      refine w_assign (by constructor) ?_
      exact hRR
    apply ld tokTB mixed (by kernel_rfl) (by kernel_rfl)
    · intro RR hRR
      refine w_ldp rfl kn81 rfl (by constructor) (by exact sz81.symm) (by exact ag81.symm) ?_
      refine w_move (by constructor) ?_
      refine y_call rfl (ec exn) (c_basis (i := x) (by omega)) ?_
      refine w_callc rfl (ec (ec exn)) (fam_cl (c_coproduct hv0 (hEV x (by omega)) hr)) (by exact closed_rows) (by exact ⟨closed_calg, closed_vec (n := 6), trivial⟩) ?_
      refine w_bsl1 und81 kn78 (by rw [sz78]; rfl) rfl (by constructor) (by first | exact trivial | exact cel_cap2) (by exact sz78.symm) (by first | exact trivial | exact ssh_vec | exact ⟨rfl, fun _ => trivial⟩) ?_
      refine w_app_o und81 rfl rfl kn78 rfl rfl (fun C h => ⟨rfl, rfl, rfl, h⟩) (by rw [by78]; omega) (by omega) rfl ?_
      refine w_stw rfl (by constructor) kn81 rfl (by exact trivial) (sx) (by exact sz81.symm) ?_
      exact hRR
    apply lr tokTB (by kernel_rfl)
    · intro RR hRR
      refine y_add rfl rfl ?_
      refine w_move (by constructor) ?_
      exact hRR
    refine ⟨x + 1, (fun k i => bif Nat.beq k 905 then (23, i) else (k, i)), ?_, (by omega), (by dsimp only; omega)⟩
    exact ⟨⟨m_calg, ⟨rfl, rfl, rfl, rfl, rfl⟩, ⟨rfl, rfl, rfl, rfl, rfl⟩, (mi), (mi), trivial⟩, ⟨⟨rfl, (sx), (by exact mt_tn rfl)⟩, ⟨rfl, (sx), (by exact ⟨rfl, rfl, rfl, rfl⟩)⟩, ⟨rfl, (sx), (by exact mt_app (fun _ _ => mt_rows (V := _) (fun _ _ _ _ => rfl)) (mt_rows (V := _) (fun _ _ _ _ => rfl)))⟩, trivial⟩, ⟨⟨(fun h => by first | exact ⟨rfl, rfl⟩ | exact absurd h (by decide)), (fun h => by first | exact ⟨rfl, rfl⟩ | exact absurd h (by decide)), (fun h => by first | exact ⟨rfl, rfl⟩ | exact absurd h (by decide)), trivial⟩, ⟨(fun h => by first | exact ⟨rfl, rfl⟩ | exact absurd h (by decide)), (fun h => by first | exact ⟨rfl, rfl⟩ | exact absurd h (by decide)), (fun h => by first | exact ⟨rfl, rfl⟩ | exact absurd h (by decide)), trivial⟩, ⟨(fun h => by first | exact ⟨rfl, rfl⟩ | exact absurd h (by decide)), (fun h => by first | exact ⟨rfl, rfl⟩ | exact absurd h (by decide)), (fun h => by first | exact ⟨rfl, rfl⟩ | exact absurd h (by decide)), trivial⟩, trivial⟩⟩
  · try simp only [hcs] at hc16
    have ge_x : n = x := by omega
    subst ge_x
    refine snd_exit ?_
    apply sr tokTB (by kernel_rfl)
    · intro RR hRR
      refine w_fac rfl und34 rfl kn2 nz2 (by decide) rfl (by constructor) ?_
      refine w_ldc rfl kn2 (by constructor) (by exact sz2.symm) (by exact ag2.symm) ?_
      refine w_fac rfl und34 rfl kn2 nz2 (by decide) rfl (by constructor) ?_
      refine w_ldc rfl kn2 (by constructor) (by exact sz2.symm) (by exact ag2.symm) ?_
      refine w_mkf1 (by constructor) ?_
      refine w_call rfl (exc (by exact rfl) (exc (by exact rfl) (exc (by exact rfl) (exc (by exact rfl) (exc (by refine congrArg (AV.fn _ 1) (funext fun i => ?_); match i with | 0 => rfl | n + 1 => rfl) exn))))) (c_tensor (a := 1) (b := 2) (g := 67) (nc := 1) (caps := cap1 (.cptr (.ro n (fun r => rowsA n n (cpD p (cpM p n (formT p T fo)) (fun q => timesF p n T (eF (r)) (eF q)) n))))) (Q := (coQ p n T fo)) hp8 hn (by omega) (closed_cap1 (a := .cptr (.ro n (fun r => rowsA n n (cpD p (cpM p n (formT p T fo)) (fun q => timesF p n T (eF (r)) (eF q)) n)))) (fun r => closed_rows)) (fun x => cpD_Bp (by omega) _ _ _ _ _) (fun x hx => c_CoproductTensor1 hv0 rfl rfl rfl)) (.inl ⟨nr_pair (nr_tn trivial) trivial, ⟨fun _ => trivial, trivial⟩⟩) rfl (by constructor) rfl ?_
      refine w_ext rfl (by decide) (by constructor) ?_
      refine w_ext rfl (by decide) (by constructor) ?_
      refine w_stw rfl (by constructor) kn29 rfl (by exact trivial) (sx) (by exact sz29.symm) ?_
      refine w_assign (by constructor) ?_
      exact hRR
    refine snd_ret ?_
    show retQ TB _ _ _ _ _ _
    exact rt_tnu (T := TB) (k := 31000) rfl kn29 rfl sz29.symm ag29.symm (fun V h1 h2 => mt_tng rfl rfl rfl rfl ⟨h1, rfl, rfl, h2⟩) (fun V => rfl) rfl rfl
theorem c_iCoproductTensor_nf {p : Int} {n : Nat} {T : Nat → Nat → Nat → Int} {fo : Nat → Int} (hv0 : VN p n T fo) (hr : ¬ rankT p n T fo = n) : ACalls Try.prog TB 25 [algA p (n : Int) T fo] (.tup 2 (pairA (tnA 0 0 0 0 .nilsl) (.int .i64 5))) [] := by
  refine acalls_of tokTB Try.func25 rfl rfl (Nat.le_of_ble_eq_true rfl) ?_
  apply sr tokTB (by kernel_rfl)
  · intro RR hRR
    refine w_boxc (HV.eq (by constructor)) (by exact trivial) ?_
    refine w_alloc kn29 rfl zr29 ?_
    refine w_assign (by constructor) ?_
    exact hRR
  refine snd_seq ?_
  apply sr tokTB (by kernel_rfl)
  · intro RR hRR
    refine w_ldc rfl kn34 (by constructor) (by exact sz34.symm) (by exact ag34.symm) ?_
    refine y_call rfl (ec (ec exn)) (c_stated0_nf hv0 hr) ?_
    refine w_assign (by constructor) ?_
    exact hRR
  apply sr tokTB (by kernel_rfl)
  · intro RR hRR
    refine w_move (by constructor) ?_
    refine w_neq rfl rfl ?_
    exact hRR
  refine snd_cond_true rfl ?_
  apply sr tokTB (by kernel_rfl)
  · intro RR hRR
    refine w_bld_s kn29 zr29 und29 rfl (by exact ⟨rfl, kn2, sz2, rfl, kn2, sz2, rfl, kn2, sz2, rfl, kn2, sz2, rfl, kn27, sz27, trivial⟩) trivial rfl ?_
    refine w_move (by constructor) ?_
    refine w_stw rfl (by constructor) kn29 rfl (by exact trivial) (sx) (by exact sz29.symm) ?_
    refine w_assign (by constructor) ?_
    exact hRR
  refine snd_ret ?_
  show retQ TB _ _ _ _ _ _
  exact rt_ct (T := TB) rfl kn29 rfl sz29.symm ag29.symm (fun V => mt_tng rfl rfl rfl rfl rfl) (fun V => rfl)
theorem c_iCoproductTensor_no {p n : Int} {T : Nat → Nat → Nat → Int} {fo : Nat → Int} (hT : RB T) (hf : RV fo) (hz : ¬ VZ p n T fo 0 (fun _ _ => 0)) : ACalls Try.prog TB 25 [algA p n T fo] (.tup 2 (pairA (tnA 0 0 0 0 .nilsl) (.int .i64 1))) [] := by
  refine acalls_of tokTB Try.func25 rfl rfl (Nat.le_of_ble_eq_true rfl) ?_
  apply sr tokTB (by kernel_rfl)
  · intro RR hRR
    refine w_boxc (HV.eq (by constructor)) (by exact trivial) ?_
    refine w_alloc kn29 rfl zr29 ?_
    refine w_assign (by constructor) ?_
    exact hRR
  refine snd_seq ?_
  apply sr tokTB (by kernel_rfl)
  · intro RR hRR
    refine w_ldc rfl kn34 (by constructor) (by exact sz34.symm) (by exact ag34.symm) ?_
    refine y_call rfl (ec (ec exn)) (c_stated0_no hT hf hz) ?_
    refine w_assign (by constructor) ?_
    exact hRR
  apply sr tokTB (by kernel_rfl)
  · intro RR hRR
    refine w_move (by constructor) ?_
    refine w_neq rfl rfl ?_
    exact hRR
  refine snd_cond_true rfl ?_
  apply sr tokTB (by kernel_rfl)
  · intro RR hRR
    refine w_bld_s kn29 zr29 und29 rfl (by exact ⟨rfl, kn2, sz2, rfl, kn2, sz2, rfl, kn2, sz2, rfl, kn2, sz2, rfl, kn27, sz27, trivial⟩) trivial rfl ?_
    refine w_move (by constructor) ?_
    refine w_stw rfl (by constructor) kn29 rfl (by exact trivial) (sx) (by exact sz29.symm) ?_
    refine w_assign (by constructor) ?_
    exact hRR
  refine snd_ret ?_
  show retQ TB _ _ _ _ _ _
  exact rt_ct (T := TB) rfl kn29 rfl sz29.symm ag29.symm (fun V => mt_tng rfl rfl rfl rfl rfl) (fun V => rfl)
theorem lCoproductTensor_ok {p : Int} {n : Nat} {T : Nat → Nat → Nat → Int} {fo : Nat → Int} (hv0 : VN p n T fo) (hr : rankT p n T fo = n) : ACalls Try.prog TB 6 [algA p (n : Int) T fo] (.bool true) [] := by
  refine acalls_of tokTB Try.func6 rfl rfl (Nat.le_of_ble_eq_true rfl) ?_
  apply sr tokTB (by kernel_rfl)
  · intro RR hRR
    refine w_boxc (HV.eq (by constructor)) (by exact trivial) ?_
    refine w_assign (by constructor) ?_
    exact hRR
  apply sr tokTB (by kernel_rfl)
  · intro RR hRR
    refine w_ldc rfl kn26 (by constructor) (by exact sz26.symm) (by exact ag26.symm) ?_
    refine y_call rfl (ec exn) (c_toAlgebra) ?_
    refine w_call rfl (ec exn) (c_sCoproductTensor_ok hv0 hr) (.inl ⟨nr_pair (nr_tn trivial) trivial, ⟨fun _ => trivial, trivial⟩⟩) rfl (by constructor) rfl ?_
    refine w_move (by constructor) ?_
    refine w_ext rfl (by decide) (by constructor) ?_
    refine w_ext rfl (by decide) (by constructor) ?_
    refine w_alloc kn29 rfl zr29 ?_
    refine w_stw rfl (by constructor) kn29 rfl (by exact trivial) (sx) (by exact sz29.symm) ?_
    refine w_assign (by constructor) ?_
    exact hRR
  apply sr tokTB (by kernel_rfl)
  · intro RR hRR
    refine w_ldc rfl kn26 (by constructor) (by exact sz26.symm) (by exact ag26.symm) ?_
    refine y_call rfl (ec exn) (c_toAlgebra) ?_
    refine w_call rfl (ec exn) (c_iCoproductTensor_ok hv0 hr) (.inl ⟨nr_pair (nr_tn trivial) trivial, ⟨fun _ => trivial, trivial⟩⟩) rfl (by constructor) rfl ?_
    refine w_move (by constructor) ?_
    refine w_ext rfl (by decide) (by constructor) ?_
    refine w_ext rfl (by decide) (by constructor) ?_
    refine w_alloc kn29 rfl zr29 ?_
    refine w_stw rfl (by constructor) kn29 rfl (by exact trivial) (sx) (by exact sz29.symm) ?_
    refine w_assign (by constructor) ?_
    exact hRR
  refine snd_seq ?_
  apply srG (env' := (31, .bool (!true || decide ((0 : Int) ≠ 0))) :: (30, .any) :: (29, .any) :: (28, .any) :: (27, _) :: (26, _) :: (25, _) :: (24, _) :: (23, _) :: _) tokTB (by kernel_rfl)
  · intro RR hRR
    refine w_ldp rfl kn29 rfl (by constructor) (by exact sz29.symm) (by exact ag29.symm) ?_
    refine w_ldp rfl kn29 rfl (by constructor) (by exact sz29.symm) (by exact ag29.symm) ?_
    refine y_call rfl rfl ((c_eqTensor (N := n ^ (1 + 2)) (F := (coQ p n T fo)) (G := (cutF (coQ p n T fo) (n * n * n))) (by have := (pow216 (n := n) (i := 3) (by have := hv0.n6; have := hv0.n0; omega) (by omega)).2; have e : n ^ (1 + 2) = n ^ 3 := rfl; omega) (fun j hj => (if_pos (by rw [show n * n * n = n ^ (1 + 2) by rw [Nat.pow_succ, Nat.pow_succ, Nat.pow_one]]; exact hj) : cutF (coQ p n T fo) (n * n * n) j = coQ p n T fo j).symm)).mt ⟨mt_tn0 rfl, mt_tn0 rfl, trivial⟩) ?_
    refine w_not rfl ?_
    refine w_move (by constructor) ?_
    refine w_g rfl rfl (fun hg4 => ?_) (fun hg4 => ?_)
    · skip
      refine w_move (by constructor) ?_
      refine w_g_on rfl rfl hg4 ?_
      refine w_move (by constructor) ?_
      refine w_g_on rfl rfl hg4 ?_
      refine w_neq rfl rfl ?_
      refine w_pick_0 rfl hg4 (by constructor) ?_
      try simp only [Int.toNat_natCast] at hg4
      exact hRR _ (EL.cons (.inr (by first | rfl | (simp only [hg4, els]; done) | (simp only [hg4, els]; rfl) | simp [hg4])) (EL.cons (.inl rfl) (EL.cons (.inl rfl) (EL.cons (.inl rfl) (EL.cons (.inr rfl) (EL.cons (.inr rfl) (EL.cons (.inr rfl) (EL.cons (.inr rfl) (EL.cons (.inr rfl) (EL.refl _))))))))))
    · have hg4 := eq_true_of_ne_false hg4
      refine w_g_off rfl rfl (by rw [hg4]; decide) ?_
      refine w_g_off rfl rfl (by rw [hg4]; decide) ?_
      refine w_pick_1 rfl hg4 (by constructor) ?_
      try simp only [Int.toNat_natCast] at hg4
      exact hRR _ (EL.cons (.inr (by first | rfl | (simp only [hg4, els]; done) | (simp only [hg4, els]; rfl) | simp [hg4])) (EL.cons (.inl rfl) (EL.cons (.inl rfl) (EL.cons (.inl rfl) (EL.cons (.inr rfl) (EL.cons (.inr rfl) (EL.cons (.inr rfl) (EL.cons (.inr rfl) (EL.cons (.inr rfl) (EL.refl _))))))))))
  refine snd_cond _ rfl (fun hc31 => ?_) (fun hc31 => ?_)
  · skip
    exact absurd hc31 (by simp)
  · skip
    refine snd_skip ?_
    apply sr tokTB (by kernel_rfl)
    · intro RR hRR
      refine w_assign (by constructor) ?_
      exact hRR
    refine snd_emb (ρ := (fun k i => bif Nat.beq k 0 then (21000, i) else (k, i))) (env2 := [(1, .cptr (algA p (n : Int) T fo)), (3, .cptr (tnA p (n : Int) 1 2 (rowA (n ^ (1 + 2)) (cutF (coQ p n T fo) (n * n * n))))), (4, .int .i64 0), (5, .cptr (tnA p (n : Int) 1 2 (.own 0 0 (n ^ (1 + 2)) 2))), (7, .int .i64 1)]) (ol2 := [(0, .one (Z64 (n ^ (1 + 2))) (C64 (n ^ (1 + 2)) (coQ p n T fo)))]) ?_ ?_
    · exact ⟨⟨m_calg, ⟨⟨ne_fst rfl, trivial⟩, mt_tng rfl rfl rfl rfl (mt_fz ⟨ne_fst rfl, trivial⟩ rfl (fun _ _ => rfl))⟩, m_int rfl, ⟨⟨ne_fst rfl, trivial⟩, mt_tng rfl rfl rfl rfl ⟨rfl, rfl, rfl, rfl⟩⟩, m_int rfl, trivial⟩, ⟨⟨rfl, ⟨rfl, fun _ => trivial⟩, mt_vec (fun _ _ => rfl)⟩, trivial⟩, ⟨⟨fun _ => ⟨rfl, rfl⟩, trivial⟩, trivial⟩⟩
    apply srD tokTB (ops1 := [_, _]) (ops2 := [_]) (by kernel_rfl) rfl rfl
    · intro RR hRR
      refine w_ldc rfl kn29 (by constructor) (by exact sz29.symm) (by exact ag29.symm) ?_
      refine w_move (by constructor) ?_
      exact hRR
    · exact mut_tn tokTB (c_markTensor (N := n ^ (1 + 2)) (F := (coQ p n T fo)) (k := 1) (by have := (pow216 (n := n) (i := 3) (by have := hv0.n6; have := hv0.n0; omega) (by omega)).2; have e : n ^ (1 + 2) = n ^ 3 := rfl; omega) (by omega)) rfl ⟨trivial, trivial⟩ trivial (ol := [])
    · intro RR hRR
      refine w_assign (by constructor) ?_
      exact hRR
    apply sr tokTB (by kernel_rfl)
    · intro RR hRR
      refine w_assign (by constructor) ?_
      exact hRR
    apply sr tokTB (by kernel_rfl)
    · intro RR hRR
      refine w_ldc rfl kn29 (by constructor) (by exact sz29.symm) (by exact ag29.symm) ?_
      refine w_move (by constructor) ?_
      refine y_call rfl rfl ((c_heldTensor (N := n ^ (1 + 2)) (F := fun j => 1 + (j : Nat)) (k := 1) (by have := (pow216 (n := n) (i := 3) (by have := hv0.n6; have := hv0.n0; omega) (by omega)).2; have e : n ^ (1 + 2) = n ^ 3 := rfl; omega) (by omega) (fun j _ => rfl)).mt ⟨mt_tn0 rfl, mt_int0, trivial⟩) ?_
      refine w_assign (by constructor) ?_
      exact hRR
    refine snd_seq ?_
    apply sr tokTB (by kernel_rfl)
    · intro RR hRR
      refine w_move (by constructor) ?_
      refine w_lss rfl rfl ?_
      exact hRR
    refine snd_cond_false (by exact congrArg AV.bool (decide_eq_false (by omega))) ?_
    refine snd_skip ?_
    refine snd_seq ?_
    apply sr tokTB (by kernel_rfl)
    · intro RR hRR
      refine w_move (by constructor) ?_
      refine w_move (by constructor) ?_
      refine w_neq rfl rfl ?_
      exact hRR
    refine snd_cond_false (by exact congrArg AV.bool (decide_eq_false (by simp))) ?_
    refine snd_skip ?_
    apply sr tokTB (by kernel_rfl)
    · intro RR hRR
      refine w_ldc rfl kn26 (by constructor) (by exact sz26.symm) (by exact ag26.symm) ?_
      refine y_call rfl (ec exn) (c_toAlgebra) ?_
      refine w_call rfl (ec exn) (c_iCoproductTensor_ok hv0 hr) (.inl ⟨nr_pair (nr_tn trivial) trivial, ⟨fun _ => trivial, trivial⟩⟩) rfl (by constructor) rfl ?_
      refine w_move (by constructor) ?_
      refine w_ext rfl (by decide) (by constructor) ?_
      refine w_ext rfl (by decide) (by constructor) ?_
      refine w_alloc kn29 rfl zr29 ?_
      refine w_stw rfl (by constructor) kn29 rfl (by exact trivial) (sx) (by exact sz29.symm) ?_
      refine w_assign (by constructor) ?_
      exact hRR
    refine snd_seq ?_
    apply srG (env' := (57, .bool (!true || decide ((0 : Int) ≠ 0))) :: (56, .any) :: (55, .any) :: (54, .any) :: (53, _) :: (52, _) :: (51, _) :: (50, _) :: (49, _) :: _) tokTB (by kernel_rfl)
    · intro RR hRR
      refine w_ldp rfl kn29 rfl (by constructor) (by exact sz29.symm) (by exact ag29.symm) ?_
      refine w_ldc rfl kn29 (by constructor) (by exact sz29.symm) (by exact ag29.symm) ?_
      refine y_call rfl rfl ((c_eqTensor (N := n ^ (1 + 2)) (F := (coQ p n T fo)) (G := (cutF (coQ p n T fo) (n * n * n))) (by have := (pow216 (n := n) (i := 3) (by have := hv0.n6; have := hv0.n0; omega) (by omega)).2; have e : n ^ (1 + 2) = n ^ 3 := rfl; omega) (fun j hj => (if_pos (by rw [show n * n * n = n ^ (1 + 2) by rw [Nat.pow_succ, Nat.pow_succ, Nat.pow_one]]; exact hj) : cutF (coQ p n T fo) (n * n * n) j = coQ p n T fo j).symm)).mt ⟨mt_tn0 rfl, mt_expc (closed_tn (fun _ => trivial)) (by simp), trivial⟩) ?_
      refine w_not rfl ?_
      refine w_move (by constructor) ?_
      refine w_g rfl rfl (fun hg4 => ?_) (fun hg4 => ?_)
      · skip
        refine w_move (by constructor) ?_
        refine w_g_on rfl rfl hg4 ?_
        refine w_move (by constructor) ?_
        refine w_g_on rfl rfl hg4 ?_
        refine w_neq rfl rfl ?_
        refine w_pick_0 rfl hg4 (by constructor) ?_
        try simp only [Int.toNat_natCast] at hg4
        exact hRR _ (EL.cons (.inr (by first | rfl | (simp only [hg4, els]; done) | (simp only [hg4, els]; rfl) | simp [hg4])) (EL.cons (.inl rfl) (EL.cons (.inl rfl) (EL.cons (.inl rfl) (EL.cons (.inr rfl) (EL.cons (.inr rfl) (EL.cons (.inr rfl) (EL.cons (.inr rfl) (EL.cons (.inr rfl) (EL.refl _))))))))))
      · have hg4 := eq_true_of_ne_false hg4
        refine w_g_off rfl rfl (by rw [hg4]; decide) ?_
        refine w_g_off rfl rfl (by rw [hg4]; decide) ?_
        refine w_pick_1 rfl hg4 (by constructor) ?_
        try simp only [Int.toNat_natCast] at hg4
        exact hRR _ (EL.cons (.inr (by first | rfl | (simp only [hg4, els]; done) | (simp only [hg4, els]; rfl) | simp [hg4])) (EL.cons (.inl rfl) (EL.cons (.inl rfl) (EL.cons (.inl rfl) (EL.cons (.inr rfl) (EL.cons (.inr rfl) (EL.cons (.inr rfl) (EL.cons (.inr rfl) (EL.cons (.inr rfl) (EL.refl _))))))))))
    refine snd_cond _ rfl (fun hc57 => ?_) (fun hc57 => ?_)
    · skip
      exact absurd hc57 (by simp)
    · skip
      refine snd_skip ?_
      apply sr tokTB (by kernel_rfl)
      · intro RR hRR
        refine w_assign (by constructor) ?_
        exact hRR
      apply sr tokTB (by kernel_rfl)
      · intro RR hRR
        refine w_ldc rfl kn29 (by constructor) (by exact sz29.symm) (by exact ag29.symm) ?_
        refine w_move (by constructor) ?_
        refine y_call rfl rfl ((c_heldTensor (N := n ^ (1 + 2)) (F := fun j => 1 + (j : Nat)) (k := 1) (by have := (pow216 (n := n) (i := 3) (by have := hv0.n6; have := hv0.n0; omega) (by omega)).2; have e : n ^ (1 + 2) = n ^ 3 := rfl; omega) (by omega) (fun j _ => rfl)).mt ⟨mt_tn0 rfl, mt_int0, trivial⟩) ?_
        refine w_assign (by constructor) ?_
        exact hRR
      refine snd_seq ?_
      apply sr tokTB (by kernel_rfl)
      · intro RR hRR
        refine w_move (by constructor) ?_
        refine w_lss rfl rfl ?_
        exact hRR
      refine snd_cond_false (by exact congrArg AV.bool (decide_eq_false (by omega))) ?_
      refine snd_skip ?_
      refine snd_seq ?_
      apply sr tokTB (by kernel_rfl)
      · intro RR hRR
        refine w_move (by constructor) ?_
        refine w_move (by constructor) ?_
        refine w_neq rfl rfl ?_
        exact hRR
      refine snd_cond_false (by exact congrArg AV.bool (decide_eq_false (by simp))) ?_
      refine snd_skip ?_
      apply sr tokTB (by kernel_rfl)
      · intro RR hRR
        refine w_assign (by constructor) ?_
        exact hRR
      refine snd_ret ?_
      exact rt (T := TB) (fun V => rfl)
theorem lCoproductTensor_nf {p : Int} {n : Nat} {T : Nat → Nat → Nat → Int} {fo : Nat → Int} (hv0 : VN p n T fo) (hr : ¬ rankT p n T fo = n) : ACalls Try.prog TB 6 [algA p (n : Int) T fo] (.bool true) [] := by
  refine acalls_of tokTB Try.func6 rfl rfl (Nat.le_of_ble_eq_true rfl) ?_
  apply sr tokTB (by kernel_rfl)
  · intro RR hRR
    refine w_boxc (HV.eq (by constructor)) (by exact trivial) ?_
    refine w_assign (by constructor) ?_
    exact hRR
  apply sr tokTB (by kernel_rfl)
  · intro RR hRR
    refine w_ldc rfl kn26 (by constructor) (by exact sz26.symm) (by exact ag26.symm) ?_
    refine y_call rfl (ec exn) (c_toAlgebra) ?_
    refine w_call0 rfl (ec exn) (c_sCoproductTensor_nf hv0 hr) (by exact nr_pair (nr_tn trivial) trivial) (fun _ => by exact shift_pair shift_tn rfl) ?_
    refine w_move (by constructor) ?_
    refine w_ext rfl (by decide) (by constructor) ?_
    refine w_ext rfl (by decide) (by constructor) ?_
    refine w_alloc kn29 rfl zr29 ?_
    refine w_stw rfl (by constructor) kn29 rfl (by exact trivial) (sx) (by exact sz29.symm) ?_
    refine w_assign (by constructor) ?_
    exact hRR
  apply sr tokTB (by kernel_rfl)
  · intro RR hRR
    refine w_ldc rfl kn26 (by constructor) (by exact sz26.symm) (by exact ag26.symm) ?_
    refine y_call rfl (ec exn) (c_toAlgebra) ?_
    refine w_call0 rfl (ec exn) (c_iCoproductTensor_nf hv0 hr) (by exact nr_pair (nr_tn trivial) trivial) (fun _ => by exact shift_pair shift_tn rfl) ?_
    refine w_move (by constructor) ?_
    refine w_ext rfl (by decide) (by constructor) ?_
    refine w_ext rfl (by decide) (by constructor) ?_
    refine w_alloc kn29 rfl zr29 ?_
    refine w_stw rfl (by constructor) kn29 rfl (by exact trivial) (sx) (by exact sz29.symm) ?_
    refine w_assign (by constructor) ?_
    exact hRR
  refine snd_seq ?_
  apply srG (env' := (31, .bool (!true || decide ((5 : Int) ≠ 5))) :: (30, .any) :: (29, .any) :: (28, .any) :: (27, _) :: (26, _) :: (25, _) :: (24, _) :: (23, _) :: _) tokTB (by kernel_rfl)
  · intro RR hRR
    refine w_ldp rfl kn29 rfl (by constructor) (by exact sz29.symm) (by exact ag29.symm) ?_
    refine w_ldp rfl kn29 rfl (by constructor) (by exact sz29.symm) (by exact ag29.symm) ?_
    refine y_call rfl rfl ((c_eqTensor (N := 0) (F := fun _ => 0) (G := fun _ => 0) (by omega) (fun j h => absurd h (by omega))).mt ⟨mt_tnn, mt_tnn, trivial⟩) ?_
    refine w_not rfl ?_
    refine w_move (by constructor) ?_
    refine w_g rfl rfl (fun hg4 => ?_) (fun hg4 => ?_)
    · skip
      refine w_move (by constructor) ?_
      refine w_g_on rfl rfl hg4 ?_
      refine w_move (by constructor) ?_
      refine w_g_on rfl rfl hg4 ?_
      refine w_neq rfl rfl ?_
      refine w_pick_0 rfl hg4 (by constructor) ?_
      try simp only [Int.toNat_natCast] at hg4
      exact hRR _ (EL.cons (.inr (by first | rfl | (simp only [hg4, els]; done) | (simp only [hg4, els]; rfl) | simp [hg4])) (EL.cons (.inl rfl) (EL.cons (.inl rfl) (EL.cons (.inl rfl) (EL.cons (.inr rfl) (EL.cons (.inr rfl) (EL.cons (.inr rfl) (EL.cons (.inr rfl) (EL.cons (.inr rfl) (EL.refl _))))))))))
    · have hg4 := eq_true_of_ne_false hg4
      refine w_g_off rfl rfl (by rw [hg4]; decide) ?_
      refine w_g_off rfl rfl (by rw [hg4]; decide) ?_
      refine w_pick_1 rfl hg4 (by constructor) ?_
      try simp only [Int.toNat_natCast] at hg4
      exact hRR _ (EL.cons (.inr (by first | rfl | (simp only [hg4, els]; done) | (simp only [hg4, els]; rfl) | simp [hg4])) (EL.cons (.inl rfl) (EL.cons (.inl rfl) (EL.cons (.inl rfl) (EL.cons (.inr rfl) (EL.cons (.inr rfl) (EL.cons (.inr rfl) (EL.cons (.inr rfl) (EL.cons (.inr rfl) (EL.refl _))))))))))
  refine snd_cond _ rfl (fun hc31 => ?_) (fun hc31 => ?_)
  · skip
    exact absurd hc31 (by simp)
  · skip
    refine snd_skip ?_
    apply sr tokTB (by kernel_rfl)
    · intro RR hRR
      refine w_assign (by constructor) ?_
      exact hRR
    apply sr tokTB (by kernel_rfl)
    · intro RR hRR
      refine w_ldp rfl kn29 rfl (by constructor) (by exact sz29.symm) (by exact ag29.symm) ?_
      refine w_move (by constructor) ?_
      refine y_call rfl rfl ((c_markNilTensor (p := 0) (n := 0) (i := 0) (o := 0) (k := 1)).mt ⟨mt_tnl, mt_int0, trivial⟩) ?_
      refine w_assign (by constructor) ?_
      exact hRR
    apply sr tokTB (by kernel_rfl)
    · intro RR hRR
      refine w_assign (by constructor) ?_
      exact hRR
    apply sr tokTB (by kernel_rfl)
    · intro RR hRR
      refine w_ldp rfl kn29 rfl (by constructor) (by exact sz29.symm) (by exact ag29.symm) ?_
      refine w_move (by constructor) ?_
      refine y_call rfl rfl ((c_heldTensor (N := 0) (F := fun _ => 0) (k := 1) (by omega) (by omega) (fun j h => absurd h (by omega))).mt ⟨mt_tnn, mt_int0, trivial⟩) ?_
      refine w_assign (by constructor) ?_
      exact hRR
    refine snd_seq ?_
    apply sr tokTB (by kernel_rfl)
    · intro RR hRR
      refine w_move (by constructor) ?_
      refine w_lss rfl rfl ?_
      exact hRR
    refine snd_cond_false (by exact congrArg AV.bool (decide_eq_false (by omega))) ?_
    refine snd_skip ?_
    refine snd_seq ?_
    apply sr tokTB (by kernel_rfl)
    · intro RR hRR
      refine w_move (by constructor) ?_
      refine w_move (by constructor) ?_
      refine w_neq rfl rfl ?_
      exact hRR
    refine snd_cond_false (by exact congrArg AV.bool (decide_eq_false (by simp))) ?_
    refine snd_skip ?_
    apply sr tokTB (by kernel_rfl)
    · intro RR hRR
      refine w_ldc rfl kn26 (by constructor) (by exact sz26.symm) (by exact ag26.symm) ?_
      refine y_call rfl (ec exn) (c_toAlgebra) ?_
      refine w_call0 rfl (ec exn) (c_iCoproductTensor_nf hv0 hr) (by exact nr_pair (nr_tn trivial) trivial) (fun _ => by exact shift_pair shift_tn rfl) ?_
      refine w_move (by constructor) ?_
      refine w_ext rfl (by decide) (by constructor) ?_
      refine w_ext rfl (by decide) (by constructor) ?_
      refine w_alloc kn29 rfl zr29 ?_
      refine w_stw rfl (by constructor) kn29 rfl (by exact trivial) (sx) (by exact sz29.symm) ?_
      refine w_assign (by constructor) ?_
      exact hRR
    refine snd_seq ?_
    apply srG (env' := (57, .bool (!true || decide ((5 : Int) ≠ 5))) :: (56, .any) :: (55, .any) :: (54, .any) :: (53, _) :: (52, _) :: (51, _) :: (50, _) :: (49, _) :: _) tokTB (by kernel_rfl)
    · intro RR hRR
      refine w_ldp rfl kn29 rfl (by constructor) (by exact sz29.symm) (by exact ag29.symm) ?_
      refine w_ldp rfl kn29 rfl (by constructor) (by exact sz29.symm) (by exact ag29.symm) ?_
      refine y_call rfl rfl ((c_eqTensor (N := 0) (F := fun _ => 0) (G := fun _ => 0) (by omega) (fun j h => absurd h (by omega))).mt ⟨mt_tnn, mt_tnn, trivial⟩) ?_
      refine w_not rfl ?_
      refine w_move (by constructor) ?_
      refine w_g rfl rfl (fun hg4 => ?_) (fun hg4 => ?_)
      · skip
        refine w_move (by constructor) ?_
        refine w_g_on rfl rfl hg4 ?_
        refine w_move (by constructor) ?_
        refine w_g_on rfl rfl hg4 ?_
        refine w_neq rfl rfl ?_
        refine w_pick_0 rfl hg4 (by constructor) ?_
        try simp only [Int.toNat_natCast] at hg4
        exact hRR _ (EL.cons (.inr (by first | rfl | (simp only [hg4, els]; done) | (simp only [hg4, els]; rfl) | simp [hg4])) (EL.cons (.inl rfl) (EL.cons (.inl rfl) (EL.cons (.inl rfl) (EL.cons (.inr rfl) (EL.cons (.inr rfl) (EL.cons (.inr rfl) (EL.cons (.inr rfl) (EL.cons (.inr rfl) (EL.refl _))))))))))
      · have hg4 := eq_true_of_ne_false hg4
        refine w_g_off rfl rfl (by rw [hg4]; decide) ?_
        refine w_g_off rfl rfl (by rw [hg4]; decide) ?_
        refine w_pick_1 rfl hg4 (by constructor) ?_
        try simp only [Int.toNat_natCast] at hg4
        exact hRR _ (EL.cons (.inr (by first | rfl | (simp only [hg4, els]; done) | (simp only [hg4, els]; rfl) | simp [hg4])) (EL.cons (.inl rfl) (EL.cons (.inl rfl) (EL.cons (.inl rfl) (EL.cons (.inr rfl) (EL.cons (.inr rfl) (EL.cons (.inr rfl) (EL.cons (.inr rfl) (EL.cons (.inr rfl) (EL.refl _))))))))))
    refine snd_cond _ rfl (fun hc57 => ?_) (fun hc57 => ?_)
    · skip
      exact absurd hc57 (by simp)
    · skip
      refine snd_skip ?_
      apply sr tokTB (by kernel_rfl)
      · intro RR hRR
        refine w_assign (by constructor) ?_
        exact hRR
      apply sr tokTB (by kernel_rfl)
      · intro RR hRR
        refine w_ldp rfl kn29 rfl (by constructor) (by exact sz29.symm) (by exact ag29.symm) ?_
        refine w_move (by constructor) ?_
        refine y_call rfl rfl ((c_heldTensor (N := 0) (F := fun _ => 0) (k := 1) (by omega) (by omega) (fun j h => absurd h (by omega))).mt ⟨mt_tnn, mt_int0, trivial⟩) ?_
        refine w_assign (by constructor) ?_
        exact hRR
      refine snd_seq ?_
      apply sr tokTB (by kernel_rfl)
      · intro RR hRR
        refine w_move (by constructor) ?_
        refine w_lss rfl rfl ?_
        exact hRR
      refine snd_cond_false (by exact congrArg AV.bool (decide_eq_false (by omega))) ?_
      refine snd_skip ?_
      refine snd_seq ?_
      apply sr tokTB (by kernel_rfl)
      · intro RR hRR
        refine w_move (by constructor) ?_
        refine w_move (by constructor) ?_
        refine w_neq rfl rfl ?_
        exact hRR
      refine snd_cond_false (by exact congrArg AV.bool (decide_eq_false (by simp))) ?_
      refine snd_skip ?_
      apply sr tokTB (by kernel_rfl)
      · intro RR hRR
        refine w_assign (by constructor) ?_
        exact hRR
      refine snd_ret ?_
      exact rt (T := TB) (fun V => rfl)
theorem lCoproductTensor_no {p n : Int} {T : Nat → Nat → Nat → Int} {fo : Nat → Int} (hT : RB T) (hf : RV fo) (hz : ¬ VZ p n T fo 0 (fun _ _ => 0)) : ACalls Try.prog TB 6 [algA p n T fo] (.bool true) [] := by
  refine acalls_of tokTB Try.func6 rfl rfl (Nat.le_of_ble_eq_true rfl) ?_
  apply sr tokTB (by kernel_rfl)
  · intro RR hRR
    refine w_boxc (HV.eq (by constructor)) (by exact trivial) ?_
    refine w_assign (by constructor) ?_
    exact hRR
  apply sr tokTB (by kernel_rfl)
  · intro RR hRR
    refine w_ldc rfl kn26 (by constructor) (by exact sz26.symm) (by exact ag26.symm) ?_
    refine y_call rfl (ec exn) (c_toAlgebra) ?_
    refine w_call0 rfl (ec exn) (c_sCoproductTensor_no hT hf hz) (by exact nr_pair (nr_tn trivial) trivial) (fun _ => by exact shift_pair shift_tn rfl) ?_
    refine w_move (by constructor) ?_
    refine w_ext rfl (by decide) (by constructor) ?_
    refine w_ext rfl (by decide) (by constructor) ?_
    refine w_alloc kn29 rfl zr29 ?_
    refine w_stw rfl (by constructor) kn29 rfl (by exact trivial) (sx) (by exact sz29.symm) ?_
    refine w_assign (by constructor) ?_
    exact hRR
  apply sr tokTB (by kernel_rfl)
  · intro RR hRR
    refine w_ldc rfl kn26 (by constructor) (by exact sz26.symm) (by exact ag26.symm) ?_
    refine y_call rfl (ec exn) (c_toAlgebra) ?_
    refine w_call0 rfl (ec exn) (c_iCoproductTensor_no hT hf hz) (by exact nr_pair (nr_tn trivial) trivial) (fun _ => by exact shift_pair shift_tn rfl) ?_
    refine w_move (by constructor) ?_
    refine w_ext rfl (by decide) (by constructor) ?_
    refine w_ext rfl (by decide) (by constructor) ?_
    refine w_alloc kn29 rfl zr29 ?_
    refine w_stw rfl (by constructor) kn29 rfl (by exact trivial) (sx) (by exact sz29.symm) ?_
    refine w_assign (by constructor) ?_
    exact hRR
  refine snd_seq ?_
  apply srG (env' := (31, .bool (!true || decide ((1 : Int) ≠ 1))) :: (30, .any) :: (29, .any) :: (28, .any) :: (27, _) :: (26, _) :: (25, _) :: (24, _) :: (23, _) :: _) tokTB (by kernel_rfl)
  · intro RR hRR
    refine w_ldp rfl kn29 rfl (by constructor) (by exact sz29.symm) (by exact ag29.symm) ?_
    refine w_ldp rfl kn29 rfl (by constructor) (by exact sz29.symm) (by exact ag29.symm) ?_
    refine y_call rfl rfl ((c_eqTensor (N := 0) (F := fun _ => 0) (G := fun _ => 0) (by omega) (fun j h => absurd h (by omega))).mt ⟨mt_tnn, mt_tnn, trivial⟩) ?_
    refine w_not rfl ?_
    refine w_move (by constructor) ?_
    refine w_g rfl rfl (fun hg4 => ?_) (fun hg4 => ?_)
    · skip
      refine w_move (by constructor) ?_
      refine w_g_on rfl rfl hg4 ?_
      refine w_move (by constructor) ?_
      refine w_g_on rfl rfl hg4 ?_
      refine w_neq rfl rfl ?_
      refine w_pick_0 rfl hg4 (by constructor) ?_
      try simp only [Int.toNat_natCast] at hg4
      exact hRR _ (EL.cons (.inr (by first | rfl | (simp only [hg4, els]; done) | (simp only [hg4, els]; rfl) | simp [hg4])) (EL.cons (.inl rfl) (EL.cons (.inl rfl) (EL.cons (.inl rfl) (EL.cons (.inr rfl) (EL.cons (.inr rfl) (EL.cons (.inr rfl) (EL.cons (.inr rfl) (EL.cons (.inr rfl) (EL.refl _))))))))))
    · have hg4 := eq_true_of_ne_false hg4
      refine w_g_off rfl rfl (by rw [hg4]; decide) ?_
      refine w_g_off rfl rfl (by rw [hg4]; decide) ?_
      refine w_pick_1 rfl hg4 (by constructor) ?_
      try simp only [Int.toNat_natCast] at hg4
      exact hRR _ (EL.cons (.inr (by first | rfl | (simp only [hg4, els]; done) | (simp only [hg4, els]; rfl) | simp [hg4])) (EL.cons (.inl rfl) (EL.cons (.inl rfl) (EL.cons (.inl rfl) (EL.cons (.inr rfl) (EL.cons (.inr rfl) (EL.cons (.inr rfl) (EL.cons (.inr rfl) (EL.cons (.inr rfl) (EL.refl _))))))))))
  refine snd_cond _ rfl (fun hc31 => ?_) (fun hc31 => ?_)
  · skip
    exact absurd hc31 (by simp)
  · skip
    refine snd_skip ?_
    apply sr tokTB (by kernel_rfl)
    · intro RR hRR
      refine w_assign (by constructor) ?_
      exact hRR
    apply sr tokTB (by kernel_rfl)
    · intro RR hRR
      refine w_ldp rfl kn29 rfl (by constructor) (by exact sz29.symm) (by exact ag29.symm) ?_
      refine w_move (by constructor) ?_
      refine y_call rfl rfl ((c_markNilTensor (p := 0) (n := 0) (i := 0) (o := 0) (k := 1)).mt ⟨mt_tnl, mt_int0, trivial⟩) ?_
      refine w_assign (by constructor) ?_
      exact hRR
    apply sr tokTB (by kernel_rfl)
    · intro RR hRR
      refine w_assign (by constructor) ?_
      exact hRR
    apply sr tokTB (by kernel_rfl)
    · intro RR hRR
      refine w_ldp rfl kn29 rfl (by constructor) (by exact sz29.symm) (by exact ag29.symm) ?_
      refine w_move (by constructor) ?_
      refine y_call rfl rfl ((c_heldTensor (N := 0) (F := fun _ => 0) (k := 1) (by omega) (by omega) (fun j h => absurd h (by omega))).mt ⟨mt_tnn, mt_int0, trivial⟩) ?_
      refine w_assign (by constructor) ?_
      exact hRR
    refine snd_seq ?_
    apply sr tokTB (by kernel_rfl)
    · intro RR hRR
      refine w_move (by constructor) ?_
      refine w_lss rfl rfl ?_
      exact hRR
    refine snd_cond_false (by exact congrArg AV.bool (decide_eq_false (by omega))) ?_
    refine snd_skip ?_
    refine snd_seq ?_
    apply sr tokTB (by kernel_rfl)
    · intro RR hRR
      refine w_move (by constructor) ?_
      refine w_move (by constructor) ?_
      refine w_neq rfl rfl ?_
      exact hRR
    refine snd_cond_false (by exact congrArg AV.bool (decide_eq_false (by simp))) ?_
    refine snd_skip ?_
    apply sr tokTB (by kernel_rfl)
    · intro RR hRR
      refine w_ldc rfl kn26 (by constructor) (by exact sz26.symm) (by exact ag26.symm) ?_
      refine y_call rfl (ec exn) (c_toAlgebra) ?_
      refine w_call0 rfl (ec exn) (c_iCoproductTensor_no hT hf hz) (by exact nr_pair (nr_tn trivial) trivial) (fun _ => by exact shift_pair shift_tn rfl) ?_
      refine w_move (by constructor) ?_
      refine w_ext rfl (by decide) (by constructor) ?_
      refine w_ext rfl (by decide) (by constructor) ?_
      refine w_alloc kn29 rfl zr29 ?_
      refine w_stw rfl (by constructor) kn29 rfl (by exact trivial) (sx) (by exact sz29.symm) ?_
      refine w_assign (by constructor) ?_
      exact hRR
    refine snd_seq ?_
    apply srG (env' := (57, .bool (!true || decide ((1 : Int) ≠ 1))) :: (56, .any) :: (55, .any) :: (54, .any) :: (53, _) :: (52, _) :: (51, _) :: (50, _) :: (49, _) :: _) tokTB (by kernel_rfl)
    · intro RR hRR
      refine w_ldp rfl kn29 rfl (by constructor) (by exact sz29.symm) (by exact ag29.symm) ?_
      refine w_ldp rfl kn29 rfl (by constructor) (by exact sz29.symm) (by exact ag29.symm) ?_
      refine y_call rfl rfl ((c_eqTensor (N := 0) (F := fun _ => 0) (G := fun _ => 0) (by omega) (fun j h => absurd h (by omega))).mt ⟨mt_tnn, mt_tnn, trivial⟩) ?_
      refine w_not rfl ?_
      refine w_move (by constructor) ?_
      refine w_g rfl rfl (fun hg4 => ?_) (fun hg4 => ?_)
      · skip
        refine w_move (by constructor) ?_
        refine w_g_on rfl rfl hg4 ?_
        refine w_move (by constructor) ?_
        refine w_g_on rfl rfl hg4 ?_
        refine w_neq rfl rfl ?_
        refine w_pick_0 rfl hg4 (by constructor) ?_
        try simp only [Int.toNat_natCast] at hg4
        exact hRR _ (EL.cons (.inr (by first | rfl | (simp only [hg4, els]; done) | (simp only [hg4, els]; rfl) | simp [hg4])) (EL.cons (.inl rfl) (EL.cons (.inl rfl) (EL.cons (.inl rfl) (EL.cons (.inr rfl) (EL.cons (.inr rfl) (EL.cons (.inr rfl) (EL.cons (.inr rfl) (EL.cons (.inr rfl) (EL.refl _))))))))))
      · have hg4 := eq_true_of_ne_false hg4
        refine w_g_off rfl rfl (by rw [hg4]; decide) ?_
        refine w_g_off rfl rfl (by rw [hg4]; decide) ?_
        refine w_pick_1 rfl hg4 (by constructor) ?_
        try simp only [Int.toNat_natCast] at hg4
        exact hRR _ (EL.cons (.inr (by first | rfl | (simp only [hg4, els]; done) | (simp only [hg4, els]; rfl) | simp [hg4])) (EL.cons (.inl rfl) (EL.cons (.inl rfl) (EL.cons (.inl rfl) (EL.cons (.inr rfl) (EL.cons (.inr rfl) (EL.cons (.inr rfl) (EL.cons (.inr rfl) (EL.cons (.inr rfl) (EL.refl _))))))))))
    refine snd_cond _ rfl (fun hc57 => ?_) (fun hc57 => ?_)
    · skip
      exact absurd hc57 (by simp)
    · skip
      refine snd_skip ?_
      apply sr tokTB (by kernel_rfl)
      · intro RR hRR
        refine w_assign (by constructor) ?_
        exact hRR
      apply sr tokTB (by kernel_rfl)
      · intro RR hRR
        refine w_ldp rfl kn29 rfl (by constructor) (by exact sz29.symm) (by exact ag29.symm) ?_
        refine w_move (by constructor) ?_
        refine y_call rfl rfl ((c_heldTensor (N := 0) (F := fun _ => 0) (k := 1) (by omega) (by omega) (fun j h => absurd h (by omega))).mt ⟨mt_tnn, mt_int0, trivial⟩) ?_
        refine w_assign (by constructor) ?_
        exact hRR
      refine snd_seq ?_
      apply sr tokTB (by kernel_rfl)
      · intro RR hRR
        refine w_move (by constructor) ?_
        refine w_lss rfl rfl ?_
        exact hRR
      refine snd_cond_false (by exact congrArg AV.bool (decide_eq_false (by omega))) ?_
      refine snd_skip ?_
      refine snd_seq ?_
      apply sr tokTB (by kernel_rfl)
      · intro RR hRR
        refine w_move (by constructor) ?_
        refine w_move (by constructor) ?_
        refine w_neq rfl rfl ?_
        exact hRR
      refine snd_cond_false (by exact congrArg AV.bool (decide_eq_false (by simp))) ?_
      refine snd_skip ?_
      apply sr tokTB (by kernel_rfl)
      · intro RR hRR
        refine w_assign (by constructor) ?_
        exact hRR
      refine snd_ret ?_
      exact rt (T := TB) (fun V => rfl)
theorem law_CoproductTensor {p n : Int} {T : Nat → Nat → Nat → Int} {fo : Nat → Int} (hT : RB T) (hf : RV fo) : ACalls Try.prog TB 6 [algA p n T fo] (.bool true) [] := by
  by_cases hz : VZ p n T fo 0 (fun _ _ => 0)
  · have h1 := VZ_0.1 hz
    obtain ⟨hv0, hn⟩ := VN_of hT hf h1
    obtain ⟨m, rfl⟩ : ∃ m : Nat, n = (m : Int) := ⟨n.toNat, hn⟩
    have hv0 : VN p m T fo := hv0
    have hp0 : 0 < p := by have := hv0.p0; omega
    by_cases hr : rankT p m T fo = m
    · exact lCoproductTensor_ok hv0 hr
    · exact lCoproductTensor_nf hv0 hr
  · exact lCoproductTensor_no hT hf hz
end Go.Am

