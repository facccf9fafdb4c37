/- Part 7 of what the law stands on: abstract values, their walk, contracts of functions. My own work. Conditions: none. -/
import Derived.Test.YtadeodcgnbmpnaaPart6
set_option linter.unusedVariables false
set_option linter.unusedSimpArgs false
set_option maxRecDepth 4000
namespace Go.Am
attribute [local irreducible] retQ retQp
open Go.Proofs
theorem c_valid0_ok {p : Int} {n : Nat} {T : Nat → Nat → Nat → Int} {fo : Nat → Int} (hv0 : VN p n T fo) : ACalls Try.prog TB 57 [algA p (n : Int) T fo, .nilsl] (.int .i64 0) [] := by
  have hp : p ≤ 256 := by have := hv0.p0; omega
  have h := c_valid0 hv0.rb hv0.rv (p := p) (n := (n : Int)) (T := T) (fo := fo)
  rwa [cZ_ok (VZ_0.2 hv0.va)] at h
theorem c_valid0_no {p n : Int} {T : Nat → Nat → Nat → Int} {fo : Nat → Int} (hT : RB T) (hf : RV fo) (hz : ¬ VZ p n T fo 0 (fun _ _ => 0)) : ACalls Try.prog TB 57 [algA p n T fo, .nilsl] (.int .i64 1) [] := by
  have h := c_valid0 hT hf (p := p) (n := n) (T := T) (fo := fo)
  rwa [cZ_no hz] at h
theorem c_l01Code0_ok {p : Int} {n : Nat} {T : Nat → Nat → Nat → Int} {fo : Nat → Int} (hv0 : VN p n T fo) : ACalls Try.prog TB 54 [algA p (n : Int) T fo, .nilsl] (.int .i64 0) [] := by
  have hp : p ≤ 256 := by have := hv0.p0; omega
  have h := c_l01Code0 hv0.rb hv0.rv (p := p) (n := (n : Int)) (T := T) (fo := fo)
  rwa [cZ_ok (VZ_0.2 hv0.va)] at h
theorem c_l01Code0_no {p n : Int} {T : Nat → Nat → Nat → Int} {fo : Nat → Int} (hT : RB T) (hf : RV fo) (hz : ¬ VZ p n T fo 0 (fun _ _ => 0)) : ACalls Try.prog TB 54 [algA p n T fo, .nilsl] (.int .i64 1) [] := by
  have h := c_l01Code0 hT hf (p := p) (n := n) (T := T) (fo := fo)
  rwa [cZ_no hz] at h
end Go.Am

set_option linter.unusedVariables false
set_option linter.unusedSimpArgs false
set_option maxRecDepth 4000
namespace Go.Am
attribute [local irreducible] retQ retQp
open Go.Proofs
theorem c_eqVector {u v : Nat → Int} : ACalls Try.prog TB 27 [vecA u, vecA v] (.bool (decide (eqN 6 u v))) [] := by
  refine acalls_of tokTB Try.func27 rfl rfl (Nat.le_of_ble_eq_true rfl) ?_
  apply sr tokTB (by kernel_rfl)
  · intro RR hRR
    refine w_boxc (HV.eq (by constructor)) (by exact trivial) ?_
    refine w_boxc (HV.eq (by constructor)) (by exact trivial) ?_
    refine w_assign (by constructor) ?_
    exact hRR
  refine snd_seq ?_
  apply sr tokTB (by kernel_rfl)
  · intro RR hRR
    refine w_assign (by constructor) ?_
    exact hRR
  refine snd_block ?_
  refine snd_loop (S := Nat) (fun i => ([(2, .cptr (vecA u)), (3, .cptr (vecA v)), (5, .int .i64 (i : Int))], [])) (fun i => i ≤ 6 ∧ (∀ a, a < i → u a = v a)) (fun i => 6 - i) (0) ρ0 ?_ ?_ ?_
  · exact ⟨⟨(m_cvec (fun _ _ => rfl)), (m_cvec (fun _ _ => rfl)), (by first | exact m_int rfl | exact m_int (by omega) | exact m_int (by simp; done) | (exact m_int (by simp; omega))), trivial⟩, trivial, trivial⟩
  · exact ⟨Nat.zero_le _, fun j hj => absurd hj (Nat.not_lt_zero _)⟩
  intro i hi0
  refine sq (env2 := [(2, .cptr (vecA u)), (3, .cptr (vecA v)), (5, .int .i64 (i : Int))]) (ol2 := []) rfl rfl ?_
  obtain ⟨le_i, inv_i⟩ := hi0
  refine snd_seq ?_
  apply sr tokTB (by kernel_rfl)
  · intro RR hRR
    refine w_move (by constructor) ?_
    refine w_lss rfl rfl ?_
    exact hRR
  refine snd_cond _ rfl (fun hc7 => ?_) (fun hc7 => ?_)
  · try simp only [hcs] at hc7
    have lt_i : i < 6 := by omega
    refine snd_skip ?_
    refine snd_seq ?_
    refine snd_block ?_
    apply sd tokTB mixed (by kernel_rfl) (by kernel_rfl)
    · intro RR hRR
      refine w_move (by constructor) ?_
      refine w_iac rfl rfl und30 kn5 (by exact sz5.symm) ?_ rfl ?_
      · exact ⟨by omega, by omega⟩
      first | refine w_ldc rfl kn5 (by constructor) (by exact sz5.symm) (by exact ag5.symm) ?_ | refine w_ldp rfl kn5 rfl (by constructor) (by exact sz5.symm) (by exact ag5.symm) ?_
      refine w_move (by constructor) ?_
      refine w_iac rfl rfl und30 kn5 (by exact sz5.symm) ?_ rfl ?_
      · exact ⟨by omega, by omega⟩
      first | refine w_ldc rfl kn5 (by constructor) (by exact sz5.symm) (by exact ag5.symm) ?_ | refine w_ldp rfl kn5 rfl (by constructor) (by exact sz5.symm) (by exact ag5.symm) ?_
      refine w_neq rfl rfl ?_
      exact hRR
    refine snd_cond _ rfl (fun hc16 => ?_) (fun hc16 => ?_)
    · skip
      apply sr tokTB (by kernel_rfl)
      · intro RR hRR
        refine w_assign (by constructor) ?_
        exact hRR
      refine snd_ret ?_
      exact rt (T := TB) (fun V => m_bool (by symm; rw [decide_eq_false_iff_not]; intro h; exact of_decide_eq_true hc16 (h i (by omega))))
    · skip
      refine snd_skip ?_
      apply lr tokTB (by kernel_rfl)
      · intro RR hRR
        refine w_move (by constructor) ?_
        refine y_add rfl rfl ?_
        refine w_assign (by constructor) ?_
        exact hRR
      refine ⟨i + 1, ρ0, ?_, ⟨by omega, all_step inv_i (Classical.not_not.1 (of_decide_eq_false hc16))⟩, (by dsimp only; omega)⟩
      exact ⟨⟨(m_cvec (fun _ _ => rfl)), (m_cvec (fun _ _ => rfl)), (by first | exact m_int rfl | exact m_int (by omega) | exact m_int (by simp; done) | (exact m_int (by simp; omega))), trivial⟩, trivial, trivial⟩
  · try simp only [hcs] at hc7
    have ge_i : 6 = i := by omega
    subst ge_i
    refine snd_exit ?_
    apply sr tokTB (by kernel_rfl)
    · intro RR hRR
      refine w_assign (by constructor) ?_
      exact hRR
    refine snd_ret ?_
    exact rt (T := TB) (fun V => m_bool (by symm; rw [decide_eq_true_eq]; exact inv_i))
end Go.Am

set_option linter.unusedVariables false
set_option linter.unusedSimpArgs false
set_option maxRecDepth 4000
namespace Go.Am
attribute [local irreducible] retQ retQp
open Go.Proofs
theorem c_table {p : Int} {n : Nat} {T : Nat → Nat → Nat → Int} {fo : Nat → Int} (hv0 : VN p n T fo) : ACalls Try.prog TB 78 [.cptr (algA p (n : Int) T fo)] (.own 0 0 n 57) [(0, .one (ZR n) (CO 1 n (fun _ => n) 2)), (1, .many (famF n (fun _ => n) (formT p T fo)))] := by
  have hp8 := hv0.p0
  have hn6 := hv0.n6
  have hn0 := hv0.n0
  refine acalls_of tokTB Try.func78 rfl rfl (Nat.le_of_ble_eq_true rfl) ?_
  apply sr tokTB (by kernel_rfl)
  · intro RR hRR
    refine w_assign (by constructor) ?_
    exact hRR
  apply sr tokTB (by kernel_rfl)
  · intro RR hRR
    refine w_bsl und52 kn57 (by rw [sz57]; rfl) rfl trivial trivial rfl ?_
    refine w_assign (by constructor) ?_
    exact hRR
  refine snd_seq ?_
  apply sr tokTB (by kernel_rfl)
  · intro RR hRR
    refine w_move (by constructor) ?_
    refine y_call rfl (ec exn) (c_n) ?_
    refine w_move (by constructor) ?_
    exact hRR
  refine snd_block ?_
  refine snd_loop (S := Nat) (fun i => ([(0, .cptr (algA p (n : Int) T fo)), (3, .own 905 0 i 57), (9, .int .i64 (n : Int)), (10, .int .i64 (i : Int))], [(905, .one (ZR (i)) (CO 1 (i) ((fun _ => n)) 2)), (1, .many (famF (i) ((fun _ => n)) (formT p T fo)))])) (fun i => i ≤ n) (fun i => n - i) (0) (ρP 905 1 7 912 0) ?_ ?_ ?_
  · exact emb_fam (by decide) (by decide) (by decide) (by decide) rfl (fun j hj => absurd hj (by omega)) (fun h => absurd h (by omega)) (fun h => absurd h (by omega)) (fun r hr => absurd hr (by omega)) ⟨m_calg, (by first | exact ⟨rfl, rfl, rfl, rfl⟩ | exact ⟨rfl, by omega, rfl, rfl⟩), (by first | exact m_int rfl | exact m_int (by omega) | exact m_int (by simp; done) | (exact m_int (by simp; omega))), (by first | exact m_int rfl | exact m_int (by omega) | exact m_int (by simp; done) | (exact m_int (by simp; omega))), trivial⟩
  · exact Nat.zero_le _
  intro i hi0
  refine sq (env2 := [(0, .cptr (algA p (n : Int) T fo)), (3, .own 905 0 i 57), (9, .int .i64 (n : Int)), (10, .int .i64 (i : Int))]) (ol2 := [(905, .one (ZR (i)) (CO 1 (i) ((fun _ => n)) 2)), (1, .many (famF (i) ((fun _ => n)) (formT p T fo)))]) rfl rfl ?_
  apply sr tokTB (by kernel_rfl)
  · intro RR hRR
    refine w_lss rfl rfl ?_
    exact hRR
  refine snd_seq ?_
  refine snd_cond _ rfl (fun hc11 => ?_) (fun hc11 => ?_)
  · try simp only [hcs] at hc11
    have lt_i : i < n := by omega
    refine snd_skip ?_
    refine snd_seq ?_
    refine snd_block ?_
    apply sr tokTB (by kernel_rfl)
    · intro RR hRR
      refine w_move (by constructor) ?_
      refine w_assign (by constructor) ?_
      exact hRR
    apply sr tokTB (by kernel_rfl)
    · intro RR hRR
      refine w_bsl und57 kn2 (by rw [sz2]; rfl) rfl trivial trivial rfl ?_
      refine w_assign (by constructor) ?_
      exact hRR
    refine snd_seq ?_
    apply sr tokTB (by kernel_rfl)
    · intro RR hRR
      refine w_move (by constructor) ?_
      refine y_call rfl (ec exn) (c_n) ?_
      refine w_move (by constructor) ?_
      exact hRR
    refine snd_block ?_
    refine snd_loop (S := Nat) (fun j => ([(0, .cptr (algA p (n : Int) T fo)), (3, .own 905 0 i 57), (4, .int .i64 (i : Int)), (5, .own 909 0 j 2), (9, .int .i64 (n : Int)), (10, .int .i64 (i : Int)), (15, .int .i64 (n : Int)), (16, .int .i64 (j : Int))], [(905, .one (ZR (i)) (CO 1 (i) ((fun _ => n)) 2)), (1, .many (famF (i) ((fun _ => n)) (formT p T fo))), (909, .one (Z64 j) (C64 j (formT p T fo i)))])) (fun j => j ≤ n) (fun j => n - j) (0) (ρQ 905 1 905 912 i 909 13) ?_ ?_ ?_
    · exact emb_fam1 (by decide) (by decide) (by decide) (by decide) (by decide) (by decide) (by decide) (by decide) (by decide) rfl (fun j hj hne => rfl) (fun h => absurd h (by omega)) (fun h => absurd h (by omega)) (fun r hr hne => famF_at (c := i) (w := (fun _ => n)) (F := formT p T fo) (by omega)) ⟨_, rfl, ⟨rfl, fun _ => trivial⟩, fun V => mt_arr0⟩ ⟨m_calg, (by first | exact ⟨rfl, rfl, rfl, rfl⟩ | exact ⟨rfl, by omega, rfl, rfl⟩), (by first | exact m_int rfl | exact m_int (by omega) | exact m_int (by simp; done) | (exact m_int (by simp; omega))), (by first | exact ⟨rfl, rfl, rfl, rfl⟩ | exact ⟨rfl, by omega, rfl, rfl⟩), (by first | exact m_int rfl | exact m_int (by omega) | exact m_int (by simp; done) | (exact m_int (by simp; omega))), (by first | exact m_int rfl | exact m_int (by omega) | exact m_int (by simp; done) | (exact m_int (by simp; omega))), (by first | exact m_int rfl | exact m_int (by omega) | exact m_int (by simp; done) | (exact m_int (by simp; omega))), (by first | exact m_int rfl | exact m_int (by omega) | exact m_int (by simp; done) | (exact m_int (by simp; omega))), trivial⟩
    · exact Nat.zero_le _
    intro j hi2
    refine sq (env2 := [(0, .cptr (algA p (n : Int) T fo)), (3, .own 905 0 i 57), (4, .int .i64 (i : Int)), (5, .own 909 0 j 2), (9, .int .i64 (n : Int)), (10, .int .i64 (i : Int)), (15, .int .i64 (n : Int)), (16, .int .i64 (j : Int))]) (ol2 := [(905, .one (ZR (i)) (CO 1 (i) ((fun _ => n)) 2)), (1, .many (famF (i) ((fun _ => n)) (formT p T fo))), (909, .one (Z64 j) (C64 j (formT p T fo i)))]) rfl rfl ?_
    apply sr tokTB (by kernel_rfl)
    · intro RR hRR
      refine w_lss rfl rfl ?_
      exact hRR
    refine snd_seq ?_
    refine snd_cond _ rfl (fun hc17 => ?_) (fun hc17 => ?_)
    · try simp only [hcs] at hc17
      have lt_j : j < n := by omega
      refine snd_skip ?_
      refine snd_seq ?_
      refine snd_block ?_
      apply sr tokTB (by kernel_rfl)
      · intro RR hRR
        refine w_move (by constructor) ?_
        refine w_assign (by constructor) ?_
        exact hRR
      apply lr tokTB (by kernel_rfl)
      · intro RR hRR
        refine w_move (by constructor) ?_
        refine w_move (by constructor) ?_
        refine w_move (by constructor) ?_
        refine w_move (by constructor) ?_
        refine w_move (by constructor) ?_
        refine w_nilc rfl ?_
        refine w_fac rfl und32 rfl kn24 nz24 (by decide) rfl (by constructor) ?_
        refine w_iac rfl rfl und24 kn23 (by exact sz23.symm) ?_ rfl ?_
        · exact ⟨by omega, by omega⟩
        refine w_iac rfl rfl und23 kn22 (by exact sz22.symm) ?_ rfl ?_
        · exact ⟨by omega, by omega⟩
        refine w_ldc rfl kn22 (by constructor) (by exact sz22.symm) (by exact ag22.symm) ?_
        refine y_call rfl (ec (ec exn)) (c_form (v := T i j) (by omega) hv0.f8 (hv0.T8 i j)) ?_
        refine w_bsl1 und57 kn2 (by rw [sz2]; rfl) rfl (by constructor) (by exact trivial) (by exact sz2.symm) (by first | exact trivial | exact ssh_vec | exact ⟨rfl, fun _ => trivial⟩) ?_
        refine w_app_o und57 rfl rfl kn2 rfl rfl (fun C h => ⟨rfl, rfl, rfl, h⟩) (by rw [by2]; omega) (by omega) rfl ?_
        refine w_assign (by constructor) ?_
        exact hRR
      apply lr tokTB (by kernel_rfl)
      · intro RR hRR
        refine y_add rfl rfl ?_
        refine w_move (by constructor) ?_
        exact hRR
      refine ⟨j + 1, (ρQ 905 1 905 912 i 909 31), ?_, (by omega), (by dsimp only; omega)⟩
      exact emb_fam1 (by decide) (by decide) (by decide) (by decide) (by decide) (by decide) (by decide) (by decide) (by decide) rfl (fun j hj hne => rfl) (fun h => absurd h (by omega)) (fun h => absurd h (by omega)) (fun r hr hne => famF_at (c := i) (w := (fun _ => n)) (F := formT p T fo) (by omega)) ⟨_, rfl, ⟨rfl, fun _ => trivial⟩, fun V => mt_app (fun _ _ => rfl) rfl⟩ ⟨m_calg, (by first | exact ⟨rfl, rfl, rfl, rfl⟩ | exact ⟨rfl, by omega, rfl, rfl⟩), (by first | exact m_int rfl | exact m_int (by omega) | exact m_int (by simp; done) | (exact m_int (by simp; omega))), (by first | exact ⟨rfl, rfl, rfl, rfl⟩ | exact ⟨rfl, by omega, rfl, rfl⟩), (by first | exact m_int rfl | exact m_int (by omega) | exact m_int (by simp; done) | (exact m_int (by simp; omega))), (by first | exact m_int rfl | exact m_int (by omega) | exact m_int (by simp; done) | (exact m_int (by simp; omega))), (by first | exact m_int rfl | exact m_int (by omega) | exact m_int (by simp; done) | (exact m_int (by simp; omega))), (by first | exact m_int rfl | exact m_int (by omega) | exact m_int (by simp; done) | (exact m_int (by simp; omega))), trivial⟩
    · try simp only [hcs] at hc17
      have ge_j : n = j := by omega
      subst ge_j
      refine snd_exit ?_
      apply lr tokTB (by kernel_rfl)
      · intro RR hRR
        refine w_move (by constructor) ?_
        refine w_move (by constructor) ?_
        refine w_bsl1 und52 kn57 (by rw [sz57]; rfl) rfl (by constructor) (by exact trivial) (by exact sz57.symm) (by first | exact trivial | exact ssh_vec | exact ⟨rfl, fun _ => trivial⟩) ?_
        refine w_app_o und52 rfl rfl kn57 rfl rfl (fun C h => ⟨rfl, rfl, rfl, h⟩) (by rw [by57]; omega) (by omega) rfl ?_
        refine w_assign (by constructor) ?_
        exact hRR
      apply lr tokTB (by kernel_rfl)
      · intro RR hRR
        refine y_add rfl rfl ?_
        refine w_move (by constructor) ?_
        exact hRR
      refine ⟨i + 1, (ρP 905 1 36 909 i), ?_, (by omega), (by dsimp only; omega)⟩
      exact emb_fam (by decide) (by decide) (by decide) (by decide) rfl (fun j hj hne => appF_lt (by omega)) (fun h => (appF_ge (Nat.le_refl _) (by omega)).trans (by rw [Nat.sub_self]; rfl)) (fun h => ⟨_, rfl, fun V => mt_vec (fun j hj => rfl)⟩) (fun r hr hne => famF_at (c := i) (w := (fun _ => n)) (F := formT p T fo) (by omega)) ⟨m_calg, (by first | exact ⟨rfl, rfl, rfl, rfl⟩ | exact ⟨rfl, by omega, rfl, rfl⟩), (by first | exact m_int rfl | exact m_int (by omega) | exact m_int (by simp; done) | (exact m_int (by simp; omega))), (by first | exact m_int rfl | exact m_int (by omega) | exact m_int (by simp; done) | (exact m_int (by simp; omega))), trivial⟩
  · try simp only [hcs] at hc11
    have ge_i : n = i := by omega
    subst ge_i
    refine snd_exit ?_
    apply sr tokTB (by kernel_rfl)
    · intro RR hRR
      refine w_move (by constructor) ?_
      refine w_assign (by constructor) ?_
      exact hRR
    refine snd_ret ?_
    show retQ TB _ _ _ _ _ _
    exact rt_fam (T := TB) (a := 905) rfl (by decide) rfl rfl (fun r hr => famF_at (c := n) (w := fun _ => n) (F := formT p T fo) hr)
theorem c_frobenius {p : Int} {n : Nat} {T : Nat → Nat → Nat → Int} {fo : Nat → Int} (hv0 : VN p n T fo) : ACalls Try.prog TB 113 [.cptr (algA p (n : Int) T fo)] (.bool (decide (rankT p n T fo = n))) [] := by
  have hp8 := hv0.p0
  have hn6 := hv0.n6
  have hn0 := hv0.n0
  refine acalls_of tokTB Try.func113 rfl rfl (Nat.le_of_ble_eq_true rfl) ?_
  apply sr tokTB (by kernel_rfl)
  · intro RR hRR
    refine w_assign (by constructor) ?_
    exact hRR
  apply sd tokTB mixed (by kernel_rfl) (by kernel_rfl)
  · intro RR hRR
    refine w_move (by constructor) ?_
    refine w_call rfl (ec exn) (c_table hv0) (.inl ⟨trivial, ⟨fun _ => trivial, fun i sh c h => (by obtain ⟨_, _, rfl⟩ := famF_some h; exact fun _ => trivial), trivial⟩⟩) rfl (by constructor) rfl ?_
    refine w_move (by constructor) ?_
    refine w_nilc rfl ?_
    refine w_fac rfl und32 rfl kn2 nz2 (by decide) rfl (by constructor) ?_
    refine w_ldc rfl kn2 (by constructor) (by exact sz2.symm) (by exact ag2.symm) ?_
    refine w_call rfl rfl ((rows_len (c_reduce (n := n) (m := n) (R := formT p T fo) hv0.hp (by omega) (by omega) (fun i => B8_of (by omega) (formT_Bp (by omega) i)))).mt ⟨mt_fam0 rfl (fun r hr => by show (match famF n (fun _ => n) (formT p T fo) r with | some (sh, c) => some (sh, Am.shift 5000 c) | none => none) = _; rw [famF_at hr]; rfl) (fun _ _ => rfl) (fun _ _ _ _ => rfl), rfl, trivial⟩) (.inl ⟨trivial, ⟨fun _ => trivial, trivial⟩⟩) rfl (by constructor) rfl ?_
    refine w_len_o rfl rfl und52 ?_
    refine w_move (by constructor) ?_
    refine y_call rfl (ec exn) (c_n) ?_
    refine w_eql rfl rfl ?_
    refine w_assign (by constructor) ?_
    exact hRR
  refine snd_ret ?_
  exact rt (T := TB) (fun V => m_bool (decide_eq_decide.2 (by unfold rankT; omega)))
theorem c_l01Frobenius {p : Int} {n : Nat} {T : Nat → Nat → Nat → Int} {fo : Nat → Int} (hv0 : VN p n T fo) : ACalls Try.prog TB 109 [algA p (n : Int) T fo] (.bool (decide (rankT p n T fo = n))) [] := by
  have hp8 := hv0.p0
  have hn6 := hv0.n6
  have hn0 := hv0.n0
  refine acalls_of tokTB Try.func109 rfl rfl (Nat.le_of_ble_eq_true rfl) ?_
  apply sr tokTB (by kernel_rfl)
  · intro RR hRR
    refine w_boxc (HV.eq (by constructor)) (by exact trivial) ?_
    refine w_assign (by constructor) ?_
    exact hRR
  apply sr tokTB (by kernel_rfl)
  · intro RR hRR
    refine w_bsl und52 kn57 (by rw [sz57]; rfl) rfl trivial trivial rfl ?_
    refine w_assign (by constructor) ?_
    exact hRR
  refine snd_seq ?_
  apply sr tokTB (by kernel_rfl)
  · intro RR hRR
    refine w_assign (by constructor) ?_
    exact hRR
  refine snd_block ?_
  refine snd_loop (S := Nat) (fun i => ([(1, .cptr (algA p (n : Int) T fo)), (3, .own 905 0 i 57), (4, .int .i64 (i : Int))], [(905, .one (ZR (i)) (CO 1 (i) ((fun _ => n)) 2)), (1, .many (famF (i) ((fun _ => n)) (formT p T fo)))])) (fun i => i ≤ n) (fun i => n - i) (0) (ρP 905 1 7 912 0) ?_ ?_ ?_
  · exact emb_fam (by decide) (by decide) (by decide) (by decide) rfl (fun j hj => absurd hj (by omega)) (fun h => absurd h (by omega)) (fun h => absurd h (by omega)) (fun r hr => absurd hr (by omega)) ⟨m_calg, (by first | exact ⟨rfl, rfl, rfl, rfl⟩ | exact ⟨rfl, by omega, rfl, rfl⟩), (by first | exact m_int rfl | exact m_int (by omega) | exact m_int (by simp; done) | (exact m_int (by simp; omega))), trivial⟩
  · exact Nat.zero_le _
  intro i hi0
  refine sq (env2 := [(1, .cptr (algA p (n : Int) T fo)), (3, .own 905 0 i 57), (4, .int .i64 (i : Int))]) (ol2 := [(905, .one (ZR (i)) (CO 1 (i) ((fun _ => n)) 2)), (1, .many (famF (i) ((fun _ => n)) (formT p T fo)))]) rfl rfl ?_
  refine snd_seq ?_
  apply sr tokTB (by kernel_rfl)
  · intro RR hRR
    refine w_move (by constructor) ?_
    refine w_fac rfl und32 rfl kn2 nz2 (by decide) rfl (by constructor) ?_
    refine w_ldc rfl kn2 (by constructor) (by exact sz2.symm) (by exact ag2.symm) ?_
    refine w_lss rfl rfl ?_
    exact hRR
  refine snd_cond _ rfl (fun hc11 => ?_) (fun hc11 => ?_)
  · try simp only [hcs] at hc11
    have lt_i : i < n := by omega
    refine snd_skip ?_
    refine snd_seq ?_
    refine snd_block ?_
    apply sr tokTB (by kernel_rfl)
    · intro RR hRR
      refine w_bsl und57 kn2 (by rw [sz2]; rfl) rfl trivial trivial rfl ?_
      refine w_assign (by constructor) ?_
      exact hRR
    refine snd_seq ?_
    apply sr tokTB (by kernel_rfl)
    · intro RR hRR
      refine w_assign (by constructor) ?_
      exact hRR
    refine snd_block ?_
    refine snd_loop (S := Nat) (fun j => ([(1, .cptr (algA p (n : Int) T fo)), (3, .own 905 0 i 57), (4, .int .i64 (i : Int)), (5, .own 909 0 j 2), (6, .int .i64 (j : Int))], [(905, .one (ZR (i)) (CO 1 (i) ((fun _ => n)) 2)), (1, .many (famF (i) ((fun _ => n)) (formT p T fo))), (909, .one (Z64 j) (C64 j (formT p T fo i)))])) (fun j => j ≤ n) (fun j => n - j) (0) (ρQ 905 1 905 912 i 909 14) ?_ ?_ ?_
    · exact emb_fam1 (by decide) (by decide) (by decide) (by decide) (by decide) (by decide) (by decide) (by decide) (by decide) rfl (fun j hj hne => rfl) (fun h => absurd h (by omega)) (fun h => absurd h (by omega)) (fun r hr hne => famF_at (c := i) (w := (fun _ => n)) (F := formT p T fo) (by omega)) ⟨_, rfl, ⟨rfl, fun _ => trivial⟩, fun V => mt_arr0⟩ ⟨m_calg, (by first | exact ⟨rfl, rfl, rfl, rfl⟩ | exact ⟨rfl, by omega, rfl, rfl⟩), (by first | exact m_int rfl | exact m_int (by omega) | exact m_int (by simp; done) | (exact m_int (by simp; omega))), (by first | exact ⟨rfl, rfl, rfl, rfl⟩ | exact ⟨rfl, by omega, rfl, rfl⟩), (by first | exact m_int rfl | exact m_int (by omega) | exact m_int (by simp; done) | (exact m_int (by simp; omega))), trivial⟩
    · exact Nat.zero_le _
    intro j hi2
    refine sq (env2 := [(1, .cptr (algA p (n : Int) T fo)), (3, .own 905 0 i 57), (4, .int .i64 (i : Int)), (5, .own 909 0 j 2), (6, .int .i64 (j : Int))]) (ol2 := [(905, .one (ZR (i)) (CO 1 (i) ((fun _ => n)) 2)), (1, .many (famF (i) ((fun _ => n)) (formT p T fo))), (909, .one (Z64 j) (C64 j (formT p T fo i)))]) rfl rfl ?_
    refine snd_seq ?_
    apply sr tokTB (by kernel_rfl)
    · intro RR hRR
      refine w_move (by constructor) ?_
      refine w_fac rfl und32 rfl kn2 nz2 (by decide) rfl (by constructor) ?_
      refine w_ldc rfl kn2 (by constructor) (by exact sz2.symm) (by exact ag2.symm) ?_
      refine w_lss rfl rfl ?_
      exact hRR
    refine snd_cond _ rfl (fun hc18 => ?_) (fun hc18 => ?_)
    · try simp only [hcs] at hc18
      have lt_j : j < n := by omega
      refine snd_skip ?_
      refine snd_seq ?_
      refine snd_block ?_
      apply ld tokTB mixed (by kernel_rfl) (by kernel_rfl)
      · intro RR hRR
        refine w_move (by constructor) ?_
        refine w_ldc rfl kn32 (by constructor) (by exact sz32.symm) (by exact ag32.symm) ?_
        refine w_move (by constructor) ?_
        refine w_move (by constructor) ?_
        refine w_fac rfl und32 rfl kn24 nz24 (by decide) rfl (by constructor) ?_
        refine w_iac rfl rfl und24 kn23 (by exact sz23.symm) ?_ rfl ?_
        · exact ⟨by omega, by omega⟩
        refine w_iac rfl rfl und23 kn22 (by exact sz22.symm) ?_ rfl ?_
        · exact ⟨by omega, by omega⟩
        refine w_ldc rfl kn22 (by constructor) (by exact sz22.symm) (by exact ag22.symm) ?_
        refine y_call rfl (ec (ec exn)) (c_l01Form (v := T i j) (by omega) hv0.f8 (hv0.T8 i j)) ?_
        refine w_bsl1 und57 kn2 (by rw [sz2]; rfl) rfl (by constructor) (by exact trivial) (by exact sz2.symm) (by first | exact trivial | exact ssh_vec | exact ⟨rfl, fun _ => trivial⟩) ?_
        refine w_app_o und57 rfl rfl kn2 rfl rfl (fun C h => ⟨rfl, rfl, rfl, h⟩) (by rw [by2]; omega) (by omega) rfl ?_
        refine w_assign (by constructor) ?_
        exact hRR
      apply lr tokTB (by kernel_rfl)
      · intro RR hRR
        refine w_move (by constructor) ?_
        refine y_add rfl rfl ?_
        refine w_assign (by constructor) ?_
        exact hRR
      refine ⟨j + 1, (ρQ 905 1 905 912 i 909 31), ?_, (by omega), (by dsimp only; omega)⟩
      exact emb_fam1 (by decide) (by decide) (by decide) (by decide) (by decide) (by decide) (by decide) (by decide) (by decide) rfl (fun j hj hne => rfl) (fun h => absurd h (by omega)) (fun h => absurd h (by omega)) (fun r hr hne => famF_at (c := i) (w := (fun _ => n)) (F := formT p T fo) (by omega)) ⟨_, rfl, ⟨rfl, fun _ => trivial⟩, fun V => mt_app (fun _ _ => rfl) rfl⟩ ⟨m_calg, (by first | exact ⟨rfl, rfl, rfl, rfl⟩ | exact ⟨rfl, by omega, rfl, rfl⟩), (by first | exact m_int rfl | exact m_int (by omega) | exact m_int (by simp; done) | (exact m_int (by simp; omega))), (by first | exact ⟨rfl, rfl, rfl, rfl⟩ | exact ⟨rfl, by omega, rfl, rfl⟩), (by first | exact m_int rfl | exact m_int (by omega) | exact m_int (by simp; done) | (exact m_int (by simp; omega))), trivial⟩
    · try simp only [hcs] at hc18
      have ge_j : n = j := by omega
      subst ge_j
      refine snd_exit ?_
      apply lr tokTB (by kernel_rfl)
      · intro RR hRR
        refine w_move (by constructor) ?_
        refine w_move (by constructor) ?_
        refine w_bsl1 und52 kn57 (by rw [sz57]; rfl) rfl (by constructor) (by exact trivial) (by exact sz57.symm) (by first | exact trivial | exact ssh_vec | exact ⟨rfl, fun _ => trivial⟩) ?_
        refine w_app_o und52 rfl rfl kn57 rfl rfl (fun C h => ⟨rfl, rfl, rfl, h⟩) (by rw [by57]; omega) (by omega) rfl ?_
        refine w_assign (by constructor) ?_
        exact hRR
      apply lr tokTB (by kernel_rfl)
      · intro RR hRR
        refine w_move (by constructor) ?_
        refine y_add rfl rfl ?_
        refine w_assign (by constructor) ?_
        exact hRR
      refine ⟨i + 1, (ρP 905 1 35 909 i), ?_, (by omega), (by dsimp only; omega)⟩
      exact emb_fam (by decide) (by decide) (by decide) (by decide) rfl (fun j hj hne => appF_lt (by omega)) (fun h => (appF_ge (Nat.le_refl _) (by omega)).trans (by rw [Nat.sub_self]; rfl)) (fun h => ⟨_, rfl, fun V => mt_vec (fun j hj => rfl)⟩) (fun r hr hne => famF_at (c := i) (w := (fun _ => n)) (F := formT p T fo) (by omega)) ⟨m_calg, (by first | exact ⟨rfl, rfl, rfl, rfl⟩ | exact ⟨rfl, by omega, rfl, rfl⟩), (by first | exact m_int rfl | exact m_int (by omega) | exact m_int (by simp; done) | (exact m_int (by simp; omega))), trivial⟩
  · try simp only [hcs] at hc11
    have ge_i : n = i := by omega
    subst ge_i
    refine snd_exit ?_
    apply sd tokTB mixed (by kernel_rfl) (by kernel_rfl)
    · intro RR hRR
      refine w_fac rfl und32 rfl kn2 nz2 (by decide) rfl (by constructor) ?_
      refine w_ldc rfl kn2 (by constructor) (by exact sz2.symm) (by exact ag2.symm) ?_
      refine w_move (by constructor) ?_
      refine w_call rfl rfl ((rows_len (c_l01Echelon (n := n) (m := n) (R := formT p T fo) hv0.hp (by omega) (by omega) hn0 (fun i => formT_Bp (by omega) i))).mt ⟨rfl, mt_fam0 rfl (fun r hr => famF_at (w := fun _ => n) (F := formT p T fo) hr) (fun _ _ => rfl) (fun _ _ _ _ => rfl), trivial⟩) (.inl ⟨trivial, ⟨fun _ => trivial, trivial⟩⟩) rfl (by constructor) rfl ?_
      refine w_len_o rfl rfl und52 ?_
      refine w_fac rfl und32 rfl kn2 nz2 (by decide) rfl (by constructor) ?_
      refine w_ldc rfl kn2 (by constructor) (by exact sz2.symm) (by exact ag2.symm) ?_
      refine w_eql rfl rfl ?_
      refine w_assign (by constructor) ?_
      exact hRR
    refine snd_ret ?_
    exact rt (T := TB) (fun V => m_bool (decide_eq_decide.2 (by rw [rank_ech hv0.hp]; omega)))
end Go.Am

set_option linter.unusedVariables false
set_option linter.unusedSimpArgs false
set_option maxRecDepth 4000
namespace Go.Am
attribute [local irreducible] retQ retQp
open Go.Proofs
end Go.Am

set_option linter.unusedVariables false
set_option linter.unusedSimpArgs false
set_option maxRecDepth 4000
namespace Go.Am
attribute [local irreducible] retQ retQp
open Go.Proofs
theorem c_l02Table {p : Int} {n : Nat} {T : Nat → Nat → Nat → Int} {fo : Nat → Int} (hv0 : VN p n T fo) : ACalls Try.prog TB 75 [algA p (n : Int) T fo] (.own 0 0 n 57) [(0, .one (ZR n) (CO 1 n (fun _ => n) 2)), (1, .many (famF n (fun _ => n) (formT p T fo)))] := by
  have hp8 := hv0.p0
  have hn6 := hv0.n6
  have hn0 := hv0.n0
  refine acalls_of tokTB Try.func75 rfl rfl (Nat.le_of_ble_eq_true rfl) ?_
  apply sr tokTB (by kernel_rfl)
  · intro RR hRR
    refine w_boxc (HV.eq (by constructor)) (by exact trivial) ?_
    refine w_assign (by constructor) ?_
    exact hRR
  apply sr tokTB (by kernel_rfl)
  · intro RR hRR
    refine w_bsl und52 kn57 (by rw [sz57]; rfl) rfl trivial trivial rfl ?_
    refine w_assign (by constructor) ?_
    exact hRR
  refine snd_seq ?_
  apply sr tokTB (by kernel_rfl)
  · intro RR hRR
    refine w_assign (by constructor) ?_
    exact hRR
  refine snd_block ?_
  refine snd_loop (S := Nat) (fun i => ([(1, .cptr (algA p (n : Int) T fo)), (3, .own 905 0 i 57), (4, .int .i64 (i : Int))], [(905, .one (ZR (i)) (CO 1 (i) ((fun _ => n)) 2)), (1, .many (famF (i) ((fun _ => n)) (formT p T fo)))])) (fun i => i ≤ n) (fun i => n - i) (0) (ρP 905 1 7 912 0) ?_ ?_ ?_
  · exact emb_fam (by decide) (by decide) (by decide) (by decide) rfl (fun j hj => absurd hj (by omega)) (fun h => absurd h (by omega)) (fun h => absurd h (by omega)) (fun r hr => absurd hr (by omega)) ⟨m_calg, (by first | exact ⟨rfl, rfl, rfl, rfl⟩ | exact ⟨rfl, by omega, rfl, rfl⟩), (by first | exact m_int rfl | exact m_int (by omega) | exact m_int (by simp; done) | (exact m_int (by simp; omega))), trivial⟩
  · exact Nat.zero_le _
  intro i hi0
  refine sq (env2 := [(1, .cptr (algA p (n : Int) T fo)), (3, .own 905 0 i 57), (4, .int .i64 (i : Int))]) (ol2 := [(905, .one (ZR (i)) (CO 1 (i) ((fun _ => n)) 2)), (1, .many (famF (i) ((fun _ => n)) (formT p T fo)))]) rfl rfl ?_
  refine snd_seq ?_
  apply sr tokTB (by kernel_rfl)
  · intro RR hRR
    refine w_move (by constructor) ?_
    refine w_fac rfl und32 rfl kn2 nz2 (by decide) rfl (by constructor) ?_
    refine w_ldc rfl kn2 (by constructor) (by exact sz2.symm) (by exact ag2.symm) ?_
    refine w_lss rfl rfl ?_
    exact hRR
  refine snd_cond _ rfl (fun hc11 => ?_) (fun hc11 => ?_)
  · try simp only [hcs] at hc11
    have lt_i : i < n := by omega
    refine snd_skip ?_
    refine snd_seq ?_
    refine snd_block ?_
    apply sr tokTB (by kernel_rfl)
    · intro RR hRR
      refine w_bsl und57 kn2 (by rw [sz2]; rfl) rfl trivial trivial rfl ?_
      refine w_assign (by constructor) ?_
      exact hRR
    refine snd_seq ?_
    apply sr tokTB (by kernel_rfl)
    · intro RR hRR
      refine w_assign (by constructor) ?_
      exact hRR
    refine snd_block ?_
    refine snd_loop (S := Nat) (fun j => ([(1, .cptr (algA p (n : Int) T fo)), (3, .own 905 0 i 57), (4, .int .i64 (i : Int)), (5, .own 909 0 j 2), (6, .int .i64 (j : Int))], [(905, .one (ZR (i)) (CO 1 (i) ((fun _ => n)) 2)), (1, .many (famF (i) ((fun _ => n)) (formT p T fo))), (909, .one (Z64 j) (C64 j (formT p T fo i)))])) (fun j => j ≤ n) (fun j => n - j) (0) (ρQ 905 1 905 912 i 909 14) ?_ ?_ ?_
    · exact emb_fam1 (by decide) (by decide) (by decide) (by decide) (by decide) (by decide) (by decide) (by decide) (by decide) rfl (fun j hj hne => rfl) (fun h => absurd h (by omega)) (fun h => absurd h (by omega)) (fun r hr hne => famF_at (c := i) (w := (fun _ => n)) (F := formT p T fo) (by omega)) ⟨_, rfl, ⟨rfl, fun _ => trivial⟩, fun V => mt_arr0⟩ ⟨m_calg, (by first | exact ⟨rfl, rfl, rfl, rfl⟩ | exact ⟨rfl, by omega, rfl, rfl⟩), (by first | exact m_int rfl | exact m_int (by omega) | exact m_int (by simp; done) | (exact m_int (by simp; omega))), (by first | exact ⟨rfl, rfl, rfl, rfl⟩ | exact ⟨rfl, by omega, rfl, rfl⟩), (by first | exact m_int rfl | exact m_int (by omega) | exact m_int (by simp; done) | (exact m_int (by simp; omega))), trivial⟩
    · exact Nat.zero_le _
    intro j hi2
    refine sq (env2 := [(1, .cptr (algA p (n : Int) T fo)), (3, .own 905 0 i 57), (4, .int .i64 (i : Int)), (5, .own 909 0 j 2), (6, .int .i64 (j : Int))]) (ol2 := [(905, .one (ZR (i)) (CO 1 (i) ((fun _ => n)) 2)), (1, .many (famF (i) ((fun _ => n)) (formT p T fo))), (909, .one (Z64 j) (C64 j (formT p T fo i)))]) rfl rfl ?_
    refine snd_seq ?_
    apply sr tokTB (by kernel_rfl)
    · intro RR hRR
      refine w_move (by constructor) ?_
      refine w_fac rfl und32 rfl kn2 nz2 (by decide) rfl (by constructor) ?_
      refine w_ldc rfl kn2 (by constructor) (by exact sz2.symm) (by exact ag2.symm) ?_
      refine w_lss rfl rfl ?_
      exact hRR
    refine snd_cond _ rfl (fun hc18 => ?_) (fun hc18 => ?_)
    · try simp only [hcs] at hc18
      have lt_j : j < n := by omega
      refine snd_skip ?_
      refine snd_seq ?_
      refine snd_block ?_
      apply ld tokTB mixed (by kernel_rfl) (by kernel_rfl)
      · intro RR hRR
        refine w_move (by constructor) ?_
        refine w_ldc rfl kn32 (by constructor) (by exact sz32.symm) (by exact ag32.symm) ?_
        refine w_ldc rfl kn32 (by constructor) (by exact sz32.symm) (by exact ag32.symm) ?_
        refine w_move (by constructor) ?_
        refine y_call rfl (ec exn) (c_l01Basis (i := i) (by omega)) ?_
        refine w_move (by constructor) ?_
        refine y_call rfl (ec exn) (c_l01Basis (i := j) (by omega)) ?_
        refine y_call rfl (ec (ec (ec exn))) ((hv0.ee (i := i) (j := j) (by omega) (by omega)) ▸ (c_l01Times (u := eF i) (v := eF j) (by omega) (by omega) hv0.n6 hv0.T8 (eF_B8 i) (eF_B8 j))) ?_
        refine y_call rfl (ec (ec exn)) (c_l01Form (v := T i j) (by omega) hv0.f8 (hv0.T8 i j)) ?_
        refine w_bsl1 und57 kn2 (by rw [sz2]; rfl) rfl (by constructor) (by exact trivial) (by exact sz2.symm) (by first | exact trivial | exact ssh_vec | exact ⟨rfl, fun _ => trivial⟩) ?_
        refine w_app_o und57 rfl rfl kn2 rfl rfl (fun C h => ⟨rfl, rfl, rfl, h⟩) (by rw [by2]; omega) (by omega) rfl ?_
        refine w_assign (by constructor) ?_
        exact hRR
      apply lr tokTB (by kernel_rfl)
      · intro RR hRR
        refine w_move (by constructor) ?_
        refine y_add rfl rfl ?_
        refine w_assign (by constructor) ?_
        exact hRR
      refine ⟨j + 1, (ρQ 905 1 905 912 i 909 31), ?_, (by omega), (by dsimp only; omega)⟩
      exact emb_fam1 (by decide) (by decide) (by decide) (by decide) (by decide) (by decide) (by decide) (by decide) (by decide) rfl (fun j hj hne => rfl) (fun h => absurd h (by omega)) (fun h => absurd h (by omega)) (fun r hr hne => famF_at (c := i) (w := (fun _ => n)) (F := formT p T fo) (by omega)) ⟨_, rfl, ⟨rfl, fun _ => trivial⟩, fun V => mt_app (fun _ _ => rfl) rfl⟩ ⟨m_calg, (by first | exact ⟨rfl, rfl, rfl, rfl⟩ | exact ⟨rfl, by omega, rfl, rfl⟩), (by first | exact m_int rfl | exact m_int (by omega) | exact m_int (by simp; done) | (exact m_int (by simp; omega))), (by first | exact ⟨rfl, rfl, rfl, rfl⟩ | exact ⟨rfl, by omega, rfl, rfl⟩), (by first | exact m_int rfl | exact m_int (by omega) | exact m_int (by simp; done) | (exact m_int (by simp; omega))), trivial⟩
    · try simp only [hcs] at hc18
      have ge_j : n = j := by omega
      subst ge_j
      refine snd_exit ?_
      apply lr tokTB (by kernel_rfl)
      · intro RR hRR
        refine w_move (by constructor) ?_
        refine w_move (by constructor) ?_
        refine w_bsl1 und52 kn57 (by rw [sz57]; rfl) rfl (by constructor) (by exact trivial) (by exact sz57.symm) (by first | exact trivial | exact ssh_vec | exact ⟨rfl, fun _ => trivial⟩) ?_
        refine w_app_o und52 rfl rfl kn57 rfl rfl (fun C h => ⟨rfl, rfl, rfl, h⟩) (by rw [by57]; omega) (by omega) rfl ?_
        refine w_assign (by constructor) ?_
        exact hRR
      apply lr tokTB (by kernel_rfl)
      · intro RR hRR
        refine w_move (by constructor) ?_
        refine y_add rfl rfl ?_
        refine w_assign (by constructor) ?_
        exact hRR
      refine ⟨i + 1, (ρP 905 1 35 909 i), ?_, (by omega), (by dsimp only; omega)⟩
      exact emb_fam (by decide) (by decide) (by decide) (by decide) rfl (fun j hj hne => appF_lt (by omega)) (fun h => (appF_ge (Nat.le_refl _) (by omega)).trans (by rw [Nat.sub_self]; rfl)) (fun h => ⟨_, rfl, fun V => mt_vec (fun j hj => rfl)⟩) (fun r hr hne => famF_at (c := i) (w := (fun _ => n)) (F := formT p T fo) (by omega)) ⟨m_calg, (by first | exact ⟨rfl, rfl, rfl, rfl⟩ | exact ⟨rfl, by omega, rfl, rfl⟩), (by first | exact m_int rfl | exact m_int (by omega) | exact m_int (by simp; done) | (exact m_int (by simp; omega))), trivial⟩
  · try simp only [hcs] at hc11
    have ge_i : n = i := by omega
    subst ge_i
    refine snd_exit ?_
    apply sr tokTB (by kernel_rfl)
    · intro RR hRR
      refine w_move (by constructor) ?_
      refine w_assign (by constructor) ?_
      exact hRR
    refine snd_ret ?_
    show retQ TB _ _ _ _ _ _
    exact rt_fam (T := TB) (a := 905) rfl (by decide) rfl rfl (fun r hr => famF_at (c := n) (w := fun _ => n) (F := formT p T fo) hr)
end Go.Am

set_option linter.unusedVariables false
set_option linter.unusedSimpArgs false
set_option maxRecDepth 4000
namespace Go.Am
attribute [local irreducible] retQ retQp
open Go.Proofs
theorem c_markNilVectorS {k : Int} : ACalls Try.prog TB 19 [.nilsl, .int .i64 k] (.int .i64 k) [] := by
  refine acalls_of tokTB Try.func19 rfl rfl (Nat.le_of_ble_eq_true rfl) ?_
  apply sr tokTB (by kernel_rfl)
  · intro RR hRR
    refine w_assign (by constructor) ?_
    exact hRR
  refine snd_seq ?_
  apply sr tokTB (by kernel_rfl)
  · intro RR hRR
    refine w_assign (by constructor) ?_
    exact hRR
  refine snd_block ?_
  refine snd_loop (S := Nat) (fun i => ([(0, .nilsl), (1, .int .i64 k), (5, .int .i64 (i : Int))], [])) (fun i => i ≤ 0) (fun i => 0 - i) (0) ρ0 ?_ ?_ ?_
  · exact ⟨⟨rfl, (by first | exact m_int rfl | exact m_int (by omega) | exact m_int (by simp; done) | (exact m_int (by simp; omega))), (by first | exact m_int rfl | exact m_int (by omega) | exact m_int (by simp; done) | (exact m_int (by simp; omega))), trivial⟩, trivial, trivial⟩
  · exact Nat.zero_le _
  intro i hi0
  refine sq (env2 := [(0, .nilsl), (1, .int .i64 k), (5, .int .i64 (i : Int))]) (ol2 := []) rfl rfl ?_
  refine snd_seq ?_
  apply sr tokTB (by kernel_rfl)
  · intro RR hRR
    refine w_move (by constructor) ?_
    refine w_move (by constructor) ?_
    refine w_len_n rfl rfl und27 ?_
    refine w_lss rfl rfl ?_
    exact hRR
  refine snd_cond _ rfl (fun hc10 => ?_) (fun hc10 => ?_)
  · try simp only [hcs] at hc10
    have lt_i : i < 0 := by omega
    omega
  · try simp only [hcs] at hc10
    have ge_i : 0 = i := by omega
    subst ge_i
    refine snd_exit ?_
    apply sr tokTB (by kernel_rfl)
    · intro RR hRR
      refine w_move (by constructor) ?_
      refine w_assign (by constructor) ?_
      exact hRR
    refine snd_ret ?_
    exact rt (T := TB) (fun V => rfl)
end Go.Am

set_option linter.unusedVariables false
set_option linter.unusedSimpArgs false
set_option maxRecDepth 4000
namespace Go.Am
attribute [local irreducible] retQ retQp
open Go.Proofs
theorem c_eqVectorS {N : Nat} {R S : Nat → Nat → Int} (hN : N ≤ 16777216) (h : ∀ i, i < N → eqN 6 (R i) (S i)) : ACalls Try.prog TB 18 [vlA N R, vlA N S] (.bool true) [] := by
  refine acalls_of tokTB Try.func18 rfl rfl (Nat.le_of_ble_eq_true rfl) ?_
  apply sr tokTB (by kernel_rfl)
  · intro RR hRR
    refine w_assign (by constructor) ?_
    exact hRR
  refine snd_seq ?_
  apply sr tokTB (by kernel_rfl)
  · intro RR hRR
    refine w_move (by constructor) ?_
    refine w_len_r rfl rfl und27 ?_
    refine w_move (by constructor) ?_
    refine w_len_r rfl rfl und27 ?_
    refine w_neq rfl rfl ?_
    exact hRR
  refine snd_cond_false (by exact congrArg AV.bool (decide_eq_false (by simp))) ?_
  refine snd_skip ?_
  refine snd_seq ?_
  apply sr tokTB (by kernel_rfl)
  · intro RR hRR
    refine w_assign (by constructor) ?_
    exact hRR
  refine snd_block ?_
  refine snd_loop (S := Nat) (fun i => ([(0, vlA N R), (1, vlA N S), (5, .int .i64 (i : Int))], [])) (fun i => i ≤ N) (fun i => N - i) (0) ρ0 ?_ ?_ ?_
  · exact ⟨⟨(by first | exact m_vl | exact mt_fz (by exact trivial) rfl (fun _ _ => mt_vec (fun _ _ => rfl))), (by first | exact m_vl | exact mt_fz (by exact trivial) rfl (fun _ _ => mt_vec (fun _ _ => rfl))), (by first | exact m_int rfl | exact m_int (by omega) | exact m_int (by simp; done) | (exact m_int (by simp; omega))), trivial⟩, trivial, trivial⟩
  · exact Nat.zero_le _
  intro i hi0
  refine sq (env2 := [(0, vlA N R), (1, vlA N S), (5, .int .i64 (i : Int))]) (ol2 := []) rfl rfl ?_
  refine snd_seq ?_
  apply sr tokTB (by kernel_rfl)
  · intro RR hRR
    refine w_move (by constructor) ?_
    refine w_move (by constructor) ?_
    refine w_len_r rfl rfl und27 ?_
    refine w_lss rfl rfl ?_
    exact hRR
  refine snd_cond _ rfl (fun hc14 => ?_) (fun hc14 => ?_)
  · try simp only [hcs] at hc14
    have lt_i : i < N := by omega
    refine snd_skip ?_
    refine snd_seq ?_
    refine snd_block ?_
    apply sd tokTB mixed (by kernel_rfl) (by kernel_rfl)
    · intro RR hRR
      refine w_move (by constructor) ?_
      refine w_move (by constructor) ?_
      refine w_iar rfl rfl und27 kn30 (by exact sz30.symm) ?_ rfl ?_
      · exact ⟨by omega, by omega⟩
      first | refine w_ldc rfl kn30 (by constructor) (by exact sz30.symm) (by exact ag30.symm) ?_ | refine w_ldp rfl kn30 rfl (by constructor) (by exact sz30.symm) (by exact ag30.symm) ?_
      refine w_move (by constructor) ?_
      refine w_move (by constructor) ?_
      refine w_iar rfl rfl und27 kn30 (by exact sz30.symm) ?_ rfl ?_
      · exact ⟨by omega, by omega⟩
      first | refine w_ldc rfl kn30 (by constructor) (by exact sz30.symm) (by exact ag30.symm) ?_ | refine w_ldp rfl kn30 rfl (by constructor) (by exact sz30.symm) (by exact ag30.symm) ?_
      refine y_call rfl (ec (ec exn)) ((decide_eq_true (h i (by omega)) ▸ c_eqVector (u := R i) (v := S i))) ?_
      refine w_not rfl ?_
      exact hRR
    refine snd_cond_false (by exact rfl) ?_
    refine snd_skip ?_
    apply lr tokTB (by kernel_rfl)
    · intro RR hRR
      refine w_move (by constructor) ?_
      refine y_add rfl rfl ?_
      refine w_assign (by constructor) ?_
      exact hRR
    refine ⟨i + 1, ρ0, ?_, (by omega), (by dsimp only; omega)⟩
    exact ⟨⟨(by first | exact m_vl | exact mt_fz (by exact trivial) rfl (fun _ _ => mt_vec (fun _ _ => rfl))), (by first | exact m_vl | exact mt_fz (by exact trivial) rfl (fun _ _ => mt_vec (fun _ _ => rfl))), (by first | exact m_int rfl | exact m_int (by omega) | exact m_int (by simp; done) | (exact m_int (by simp; omega))), trivial⟩, trivial, trivial⟩
  · try simp only [hcs] at hc14
    have ge_i : N = i := by omega
    subst ge_i
    refine snd_exit ?_
    apply sr tokTB (by kernel_rfl)
    · intro RR hRR
      refine w_assign (by constructor) ?_
      exact hRR
    refine snd_ret ?_
    exact rt (T := TB) (fun V => rfl)
theorem c_heldVectorS {N : Nat} {R : Nat → Nat → Int} {k : Int} (hN : N ≤ 1000) (hk : 0 ≤ k ∧ k ≤ 1000000) (h : ∀ i, i < N → ∀ j, j < 6 → R i j = mk8 k i j) : ACalls Try.prog TB 20 [vlA N R, .int .i64 k] (.int .i64 (k + (N * 6 : Nat))) [] := by
  refine acalls_of tokTB Try.func20 rfl rfl (Nat.le_of_ble_eq_true rfl) ?_
  apply sr tokTB (by kernel_rfl)
  · intro RR hRR
    refine w_assign (by constructor) ?_
    exact hRR
  refine snd_seq ?_
  apply sr tokTB (by kernel_rfl)
  · intro RR hRR
    refine w_assign (by constructor) ?_
    exact hRR
  refine snd_block ?_
  refine snd_loop (S := Nat) (fun i => ([(0, vlA N R), (1, .int .i64 (k + (i * 6 : Nat))), (5, .int .i64 (i : Int))], [])) (fun i => i ≤ N) (fun i => N - i) (0) ρ0 ?_ ?_ ?_
  · exact ⟨⟨(by first | exact m_vl | exact mt_fz (by exact trivial) rfl (fun _ _ => mt_vec (fun _ _ => rfl))), (by exact m_int (by omega)), (by first | exact m_int rfl | exact m_int (by omega) | exact m_int (by simp; done) | (exact m_int (by simp; omega))), trivial⟩, trivial, trivial⟩
  · exact Nat.zero_le _
  intro i hi0
  refine sq (env2 := [(0, vlA N R), (1, .int .i64 (k + (i * 6 : Nat))), (5, .int .i64 (i : Int))]) (ol2 := []) rfl rfl ?_
  have hle : i * 6 ≤ 1000 * 6 := Nat.mul_le_mul (by omega) (Nat.le_refl _)
  refine snd_seq ?_
  apply sr tokTB (by kernel_rfl)
  · intro RR hRR
    refine w_move (by constructor) ?_
    refine w_move (by constructor) ?_
    refine w_len_r rfl rfl und27 ?_
    refine w_lss rfl rfl ?_
    exact hRR
  refine snd_cond _ rfl (fun hc10 => ?_) (fun hc10 => ?_)
  · try simp only [hcs] at hc10
    have lt_i : i < N := by omega
    refine snd_skip ?_
    refine snd_seq ?_
    refine snd_block ?_
    apply sr tokTB (by kernel_rfl)
    · intro RR hRR
      refine w_assign (by constructor) ?_
      exact hRR
    refine snd_block ?_
    refine snd_loop (S := Nat) (fun j => ([(0, vlA N R), (1, .int .i64 (k + (i * 6 : Nat) + (j : Nat))), (5, .int .i64 (i : Int)), (6, .int .i64 (j : Int))], [])) (fun j => j ≤ 6) (fun j => 6 - j) (0) ρ0 ?_ ?_ ?_
    · exact ⟨⟨(by first | exact m_vl | exact mt_fz (by exact trivial) rfl (fun _ _ => mt_vec (fun _ _ => rfl))), (by first | exact m_int rfl | exact m_int (by omega) | exact m_int (by simp; done) | (exact m_int (by simp; omega))), (by first | exact m_int rfl | exact m_int (by omega) | exact m_int (by simp; done) | (exact m_int (by simp; omega))), (by first | exact m_int rfl | exact m_int (by omega) | exact m_int (by simp; done) | (exact m_int (by simp; omega))), trivial⟩, trivial, trivial⟩
    · exact Nat.zero_le _
    intro j hi2
    refine sq (env2 := [(0, vlA N R), (1, .int .i64 (k + (i * 6 : Nat) + (j : Nat))), (5, .int .i64 (i : Int)), (6, .int .i64 (j : Int))]) (ol2 := []) rfl rfl ?_
    refine snd_seq ?_
    apply sr tokTB (by kernel_rfl)
    · intro RR hRR
      refine w_move (by constructor) ?_
      refine w_lss rfl rfl ?_
      exact hRR
    refine snd_cond _ rfl (fun hc14 => ?_) (fun hc14 => ?_)
    · try simp only [hcs] at hc14
      have lt_j : j < 6 := by omega
      refine snd_skip ?_
      refine snd_seq ?_
      refine snd_block ?_
      refine snd_seq ?_
      apply sr tokTB (by kernel_rfl)
      · intro RR hRR
        refine w_move (by constructor) ?_
        refine w_move (by constructor) ?_
        refine w_move (by constructor) ?_
        refine w_iar rfl rfl und27 kn30 (by exact sz30.symm) ?_ rfl ?_
        · exact ⟨by omega, by omega⟩
        first | refine w_iac rfl rfl und30 kn5 (by exact sz5.symm) ?_ rfl ?_ | refine w_iap rfl rfl und30 kn5 rfl (by exact sz5.symm) rfl ?_ ?_
        · exact ⟨by omega, by omega⟩
        first | refine w_ldc rfl kn5 (by constructor) (by exact sz5.symm) (by exact ag5.symm) ?_ | refine w_ldp rfl kn5 rfl (by constructor) (by exact sz5.symm) (by exact ag5.symm) ?_
        refine w_move (by constructor) ?_
        refine w_conv rfl und3 und5 (by exact rfl) ?_
        refine w_neq rfl rfl ?_
        exact hRR
      refine snd_cond _ rfl (fun hc25 => ?_) (fun hc25 => ?_)
      · skip
        exact absurd ((h i (by omega) j (by omega)).trans (by exact rfl)) (of_decide_eq_true hc25)
      · skip
        refine snd_skip ?_
        apply lr tokTB (by kernel_rfl)
        · intro RR hRR
          refine w_move (by constructor) ?_
          refine w_add rfl rfl (by exact w64 (by omega) (by omega)) ?_
          refine w_assign (by constructor) ?_
          exact hRR
        apply lr tokTB (by kernel_rfl)
        · intro RR hRR
          refine w_move (by constructor) ?_
          refine y_add rfl rfl ?_
          refine w_assign (by constructor) ?_
          exact hRR
        refine ⟨j + 1, ρ0, ?_, (by omega), (by dsimp only; omega)⟩
        exact ⟨⟨(by first | exact m_vl | exact mt_fz (by exact trivial) rfl (fun _ _ => mt_vec (fun _ _ => rfl))), (by first | exact m_int rfl | exact m_int (by omega) | exact m_int (by simp; done) | (exact m_int (by simp; omega))), (by first | exact m_int rfl | exact m_int (by omega) | exact m_int (by simp; done) | (exact m_int (by simp; omega))), (by first | exact m_int rfl | exact m_int (by omega) | exact m_int (by simp; done) | (exact m_int (by simp; omega))), trivial⟩, trivial, trivial⟩
    · try simp only [hcs] at hc14
      have ge_j : 6 = j := by omega
      subst ge_j
      refine snd_exit ?_
      apply lr tokTB (by kernel_rfl)
      · intro RR hRR
        refine w_move (by constructor) ?_
        refine y_add rfl rfl ?_
        refine w_assign (by constructor) ?_
        exact hRR
      refine ⟨i + 1, ρ0, ?_, (by omega), (by dsimp only; omega)⟩
      exact ⟨⟨(by first | exact m_vl | exact mt_fz (by exact trivial) rfl (fun _ _ => mt_vec (fun _ _ => rfl))), (by exact m_int (by rw [Nat.succ_mul]; omega)), (by first | exact m_int rfl | exact m_int (by omega) | exact m_int (by simp; done) | (exact m_int (by simp; omega))), trivial⟩, trivial, trivial⟩
  · try simp only [hcs] at hc10
    have ge_i : N = i := by omega
    subst ge_i
    refine snd_exit ?_
    apply sr tokTB (by kernel_rfl)
    · intro RR hRR
      refine w_move (by constructor) ?_
      refine w_assign (by constructor) ?_
      exact hRR
    refine snd_ret ?_
    exact rt (T := TB) (fun V => rfl)
theorem c_markVectorS {N : Nat} {R : Nat → Nat → Int} {k : Int} (hN : N ≤ 1000) (hk : 0 ≤ k ∧ k ≤ 1000000) : MCalls Try.prog TB 19 [0] [.own 0 0 N 30, .int .i64 k] [(0, .one (.arr N (fun _ => TB.zero 30)) (.arr N (fun i => vecA (R i))))] (.int .i64 (k + (N * 6 : Nat))) [(0, .one (.arr N (fun _ => TB.zero 30)) (.arr N (fun i => vecA (mk8 k i))))] := by
  refine mcalls_of tokTB Try.func19 rfl rfl (Nat.le_of_ble_eq_true rfl) ⟨rfl, trivial⟩ ?_
  apply srp tokTB (by kernel_rfl)
  · intro RR hRR
    refine w_assign (by constructor) ?_
    exact hRR
  refine snp_seq ?_
  apply srp tokTB (by kernel_rfl)
  · intro RR hRR
    refine w_assign (by constructor) ?_
    exact hRR
  refine snp_block ?_
  refine snp_loop (S := Nat) (fun i => ([(0, .own 0 0 N 30), (1, .int .i64 (k + (i * 6 : Nat))), (5, .int .i64 (i : Int))], [(0, .one (.arr N (fun _ => TB.zero 30)) (.arr N (fun r => vecA (mixG (mk8 k) R i r))))])) (fun i => i ≤ N) (fun i => N - i) (0) ρ0 ?_ ?_ ?_
  · exact ⟨⟨⟨(by first | exact ⟨rfl, rfl, rfl, rfl⟩ | exact ⟨rfl, by omega, rfl, rfl⟩), (by exact m_int (by omega)), (by first | exact m_int rfl | exact m_int (by omega) | exact m_int (by simp; done) | (exact m_int (by simp; omega))), trivial⟩, ⟨⟨rfl, (by first | exact trivial | exact ssh_vec | exact ssh_alg | exact ssh_tab | exact ssh_mat | exact ⟨rfl, fun _ => trivial⟩ | exact ⟨rfl, fun _ => by rw [zr30]; exact ssh_vec⟩), (by exact ⟨rfl, fun r _ => mt_vec (fun z _ => by rw [mixG_ge _ _ (Nat.zero_le _)])⟩)⟩, trivial⟩, ⟨⟨(fun h => by first | exact ⟨rfl, rfl⟩ | exact absurd h (by decide)), trivial⟩, trivial⟩⟩, ⟨⟨fun _ => rfl, rfl⟩, trivial⟩⟩
  · exact Nat.zero_le _
  intro i hi0
  refine sqp (env2 := [(0, .own 0 0 N 30), (1, .int .i64 (k + (i * 6 : Nat))), (5, .int .i64 (i : Int))]) (ol2 := [(0, .one (.arr N (fun _ => TB.zero 30)) (.arr N (fun r => vecA (mixG (mk8 k) R i r))))]) rfl rfl ?_
  have hle : i * 6 ≤ 1000 * 6 := Nat.mul_le_mul (by omega) (Nat.le_refl _)
  refine snp_seq ?_
  apply srp tokTB (by kernel_rfl)
  · intro RR hRR
    refine w_move (by constructor) ?_
    refine w_move (by constructor) ?_
    refine w_len_o rfl rfl und27 ?_
    refine w_lss rfl rfl ?_
    exact hRR
  refine snp_cond _ rfl (fun hc10 => ?_) (fun hc10 => ?_)
  · try simp only [hcs] at hc10
    have lt_i : i < N := by omega
    refine snp_skip ?_
    refine snp_seq ?_
    refine snp_block ?_
    apply srp tokTB (by kernel_rfl)
    · intro RR hRR
      refine w_assign (by constructor) ?_
      exact hRR
    refine snp_block ?_
    refine snp_loop (S := Nat) (fun j => ([(0, .own 0 0 N 30), (1, .int .i64 (k + (i * 6 : Nat) + (j : Nat))), (5, .int .i64 (i : Int)), (6, .int .i64 (j : Int))], [(0, .one (.arr N (fun _ => TB.zero 30)) (.arr N (fun r => vecA (mixG2 (mk8 k) R i j r))))])) (fun j => j ≤ 6) (fun j => 6 - j) (0) ρ0 ?_ ?_ ?_
    · exact ⟨⟨⟨(by first | exact ⟨rfl, rfl, rfl, rfl⟩ | exact ⟨rfl, by omega, rfl, rfl⟩), (by first | exact m_int rfl | exact m_int (by omega) | exact m_int (by simp; done) | (exact m_int (by simp; omega))), (by first | exact m_int rfl | exact m_int (by omega) | exact m_int (by simp; done) | (exact m_int (by simp; omega))), (by first | exact m_int rfl | exact m_int (by omega) | exact m_int (by simp; done) | (exact m_int (by simp; omega))), trivial⟩, ⟨⟨rfl, (by first | exact trivial | exact ssh_vec | exact ssh_alg | exact ssh_tab | exact ssh_mat | exact ⟨rfl, fun _ => trivial⟩ | exact ⟨rfl, fun _ => by rw [zr30]; exact ssh_vec⟩), (by exact ⟨rfl, fun r _ => mt_vec (fun z _ => by rw [mixG2_0])⟩)⟩, trivial⟩, ⟨⟨(fun h => by first | exact ⟨rfl, rfl⟩ | exact absurd h (by decide)), trivial⟩, trivial⟩⟩, ⟨⟨fun _ => rfl, rfl⟩, trivial⟩⟩
    · exact Nat.zero_le _
    intro j hi2
    refine sqp (env2 := [(0, .own 0 0 N 30), (1, .int .i64 (k + (i * 6 : Nat) + (j : Nat))), (5, .int .i64 (i : Int)), (6, .int .i64 (j : Int))]) (ol2 := [(0, .one (.arr N (fun _ => TB.zero 30)) (.arr N (fun r => vecA (mixG2 (mk8 k) R i j r))))]) rfl rfl ?_
    refine snp_seq ?_
    apply srp tokTB (by kernel_rfl)
    · intro RR hRR
      refine w_move (by constructor) ?_
      refine w_lss rfl rfl ?_
      exact hRR
    refine snp_cond _ rfl (fun hc14 => ?_) (fun hc14 => ?_)
    · try simp only [hcs] at hc14
      have lt_j : j < 6 := by omega
      refine snp_skip ?_
      refine snp_seq ?_
      refine snp_block ?_
      apply srp tokTB (by kernel_rfl)
      · intro RR hRR
        refine w_move (by constructor) ?_
        refine w_move (by constructor) ?_
        refine w_move (by constructor) ?_
        refine w_move (by constructor) ?_
        refine w_conv rfl und3 und5 (by exact rfl) ?_
        refine w_iao rfl rfl und27 kn30 ?_ ?_
        · exact ⟨by omega, by omega⟩
        first | refine w_iac rfl rfl und30 kn5 (by exact sz5.symm) ?_ rfl ?_ | refine w_iap rfl rfl und30 kn5 rfl (by exact sz5.symm) rfl ?_ ?_
        · exact ⟨by omega, by omega⟩
        first | refine w_stw rfl (by constructor) kn5 rfl (by exact trivial) (by first | exact trivial | exact ssh_vec | exact ssh_alg | exact ssh_tab | exact ssh_mat | exact ⟨rfl, fun _ => trivial⟩ | exact ⟨rfl, fun _ => by rw [zr30]; exact ssh_vec⟩) (by exact sz5.symm) ?_ | refine w_sti rfl rfl kn5 rfl (by exact trivial) (by exact sz5.symm) ?_ | refine w_store rfl (HV.eq (by constructor)) kn5 rfl (by exact trivial) (by first | exact trivial | exact ssh_vec | exact ssh_alg | exact ssh_tab | exact ssh_mat | exact ⟨rfl, fun _ => trivial⟩ | exact ⟨rfl, fun _ => by rw [zr30]; exact ssh_vec⟩) (by exact sz5.symm) (put_in (by first | exact put_mat | exact put_tab | exact put_alg0 | exact put_alg1 | exact put_alg2 | exact put_alg3 | exact put_alg3i | exact put_alg2ij | exact put_alg2ijk | exact put_mat2 | exact put_tab2 | exact put_tab3)) ?_ | refine w_store rfl (HV.eq (by constructor)) kn5 rfl (by exact trivial) (by exact trivial) (by exact sz5.symm) rfl ?_
        exact hRR
      apply lrp tokTB (by kernel_rfl)
      · intro RR hRR
        refine w_move (by constructor) ?_
        refine w_add rfl rfl (by exact w64 (by omega) (by omega)) ?_
        refine w_assign (by constructor) ?_
        exact hRR
      apply lrp tokTB (by kernel_rfl)
      · intro RR hRR
        refine w_move (by constructor) ?_
        refine y_add rfl rfl ?_
        refine w_assign (by constructor) ?_
        exact hRR
      refine ⟨j + 1, ρ0, ?_, (by omega), (by dsimp only; omega)⟩
      exact ⟨⟨⟨(by first | exact ⟨rfl, rfl, rfl, rfl⟩ | exact ⟨rfl, by omega, rfl, rfl⟩), (by first | exact m_int rfl | exact m_int (by omega) | exact m_int (by simp; done) | (exact m_int (by simp; omega))), (by first | exact m_int rfl | exact m_int (by omega) | exact m_int (by simp; done) | (exact m_int (by simp; omega))), (by first | exact m_int rfl | exact m_int (by omega) | exact m_int (by simp; done) | (exact m_int (by simp; omega))), trivial⟩, ⟨⟨rfl, (by first | exact trivial | exact ssh_vec | exact ssh_alg | exact ssh_tab | exact ssh_mat | exact ⟨rfl, fun _ => trivial⟩ | exact ⟨rfl, fun _ => by rw [zr30]; exact ssh_vec⟩), (by exact ⟨rfl, fun r _ => mt_mark8 (by exact rfl)⟩)⟩, trivial⟩, ⟨⟨(fun h => by first | exact ⟨rfl, rfl⟩ | exact absurd h (by decide)), trivial⟩, trivial⟩⟩, ⟨⟨fun _ => rfl, rfl⟩, trivial⟩⟩
    · try simp only [hcs] at hc14
      have ge_j : 6 = j := by omega
      subst ge_j
      refine snp_exit ?_
      apply lrp tokTB (by kernel_rfl)
      · intro RR hRR
        refine w_move (by constructor) ?_
        refine y_add rfl rfl ?_
        refine w_assign (by constructor) ?_
        exact hRR
      refine ⟨i + 1, ρ0, ?_, (by omega), (by dsimp only; omega)⟩
      exact ⟨⟨⟨(by first | exact ⟨rfl, rfl, rfl, rfl⟩ | exact ⟨rfl, by omega, rfl, rfl⟩), (by exact m_int (by rw [Nat.succ_mul]; omega)), (by first | exact m_int rfl | exact m_int (by omega) | exact m_int (by simp; done) | (exact m_int (by simp; omega))), trivial⟩, ⟨⟨rfl, (by first | exact trivial | exact ssh_vec | exact ssh_alg | exact ssh_tab | exact ssh_mat | exact ⟨rfl, fun _ => trivial⟩ | exact ⟨rfl, fun _ => by rw [zr30]; exact ssh_vec⟩), (by exact ⟨rfl, fun r _ => mt_vec (fun z hz => mixG2_6 _ _ i r z hz)⟩)⟩, trivial⟩, ⟨⟨(fun h => by first | exact ⟨rfl, rfl⟩ | exact absurd h (by decide)), trivial⟩, trivial⟩⟩, ⟨⟨fun _ => rfl, rfl⟩, trivial⟩⟩
  · try simp only [hcs] at hc10
    have ge_i : N = i := by omega
    subst ge_i
    refine snp_exit ?_
    apply srp tokTB (by kernel_rfl)
    · intro RR hRR
      refine w_move (by constructor) ?_
      refine w_assign (by constructor) ?_
      exact hRR
    refine snp_ret ?_
    exact rtp (ρ := ρ0) ⟨⟨m_int rfl, trivial⟩, ⟨⟨rfl, (by first | exact trivial | exact ssh_vec | exact ssh_alg | exact ssh_tab | exact ssh_mat | exact ⟨rfl, fun _ => trivial⟩ | exact ⟨rfl, fun _ => by rw [zr30]; exact ssh_vec⟩), ⟨rfl, fun r hr => mt_vec (fun z _ => by rw [mixG_lt _ _ hr])⟩⟩, trivial⟩, ⟨⟨fun _ => ⟨rfl, rfl⟩, trivial⟩, trivial⟩⟩ ⟨⟨fun _ => rfl, rfl⟩, trivial⟩
end Go.Am

set_option linter.unusedVariables false
set_option linter.unusedSimpArgs false
set_option maxRecDepth 4000
namespace Go.Am
attribute [local irreducible] retQ retQp
open Go.Proofs
theorem c_unitNumber {i j : Nat} : ACalls Try.prog TB 123 [.int .i64 (i : Int), .int .i64 (j : Int)] (.int .i64 (dl i j)) [] := by
  refine acalls_of tokTB Try.func123 rfl rfl (Nat.le_of_ble_eq_true rfl) ?_
  apply sr tokTB (by kernel_rfl)
  · intro RR hRR
    refine w_assign (by constructor) ?_
    exact hRR
  refine snd_seq ?_
  apply sr tokTB (by kernel_rfl)
  · intro RR hRR
    refine w_move (by constructor) ?_
    refine w_move (by constructor) ?_
    refine w_eql rfl rfl ?_
    exact hRR
  refine snd_cond _ rfl (fun hc7 => ?_) (fun hc7 => ?_)
  · try simp only [hcs] at hc7
    apply sr tokTB (by kernel_rfl)
    · intro RR hRR
      refine w_assign (by constructor) ?_
      exact hRR
    refine snd_ret ?_
    exact rt (T := TB) (fun V => m_int (by unfold dl; rw [if_pos (by omega)]))
  · try simp only [hcs] at hc7
    refine snd_skip ?_
    apply sr tokTB (by kernel_rfl)
    · intro RR hRR
      refine w_assign (by constructor) ?_
      exact hRR
    refine snd_ret ?_
    exact rt (T := TB) (fun V => m_int (by unfold dl; rw [if_neg (by omega)]))
theorem c_copairing {p : Int} {n : Nat} {T : Nat → Nat → Nat → Int} {fo : Nat → Int} (hv0 : VN p n T fo) (hr : rankT p n T fo = n) : ACalls Try.prog TB 77 [.cptr (algA p (n : Int) T fo)] (rowsA n n (cpM p n (formT p T fo))) [] := by
  have hp8 := hv0.p0
  have hn6 := hv0.n6
  have hn0 := hv0.n0
  have hFB : ∀ i, Bp p ((formT p T fo) i) := fun i => formT_Bp (by omega) i
  obtain ⟨hno, hO⟩ := au_red hv0.hp hFB hr
  refine acalls_of tokTB Try.func77 rfl rfl (Nat.le_of_ble_eq_true rfl) ?_
  apply sr tokTB (by kernel_rfl)
  · intro RR hRR
    refine w_assign (by constructor) ?_
    exact hRR
  apply sr tokTB (by kernel_rfl)
  · intro RR hRR
    refine w_move (by constructor) ?_
    refine w_call rfl (ec exn) (c_table hv0) (.inl ⟨trivial, ⟨fun _ => trivial, fun i sh c h => (by obtain ⟨_, _, rfl⟩ := famF_some h; exact fun _ => trivial), trivial⟩⟩) rfl (by constructor) rfl ?_
    refine w_assign (by constructor) ?_
    exact hRR
  refine snd_seq ?_
  apply sr tokTB (by kernel_rfl)
  · intro RR hRR
    refine w_move (by constructor) ?_
    refine w_len_o rfl rfl und52 ?_
    refine w_move (by constructor) ?_
    exact hRR
  refine snd_block ?_
  refine snd_loop (S := Nat) (fun i => ([(0, .cptr (algA p (n : Int) T fo)), (3, .own 905 0 n 57), (12, .int .i64 (n : Int)), (13, .int .i64 (i : Int))], [(905, .one (ZR n) (CO 11001 n (fun r => if r < i then n + n else n) 2)), (11001, .many (famF n (fun r => if r < i then n + n else n) (mixG (auS n (formT p T fo)) (formT p T fo) i)))])) (fun i => i ≤ n) (fun i => n - i) (0) (ρ2x 905 11000) ?_ ?_ ?_
  · exact emb_famR (ρ := ρ2x 905 11000) (ko' := 11000) (kf' := 11001) (fun _ => rfl) (fun _ => rfl) (by decide) (by decide) rfl (fun j hj => by show AV.own (11000 + 1) j n _ = _; simp) (fun r hr => ⟨C64 n (formT p T fo r), (fam_sh (w := fun _ => n) (F := formT p T fo) (e := 2) (b := 11000) (ol := []) hr).trans (by simp), fun V => mt_vec (fun z _ => by simp [mixG])⟩) ⟨m_calg, (by first | exact ⟨rfl, rfl, rfl, rfl⟩ | exact ⟨rfl, by omega, rfl, rfl⟩), (by first | exact m_int rfl | exact m_int (by omega) | exact m_int (by simp; done) | (exact m_int (by simp; omega))), (by first | exact m_int rfl | exact m_int (by omega) | exact m_int (by simp; done) | (exact m_int (by simp; omega))), trivial⟩
  · exact Nat.zero_le _
  intro i hi0
  refine sq (env2 := [(0, .cptr (algA p (n : Int) T fo)), (3, .own 905 0 n 57), (12, .int .i64 (n : Int)), (13, .int .i64 (i : Int))]) (ol2 := [(905, .one (ZR n) (CO 11001 n (fun r => if r < i then n + n else n) 2)), (11001, .many (famF n (fun r => if r < i then n + n else n) (mixG (auS n (formT p T fo)) (formT p T fo) i)))]) rfl rfl ?_
  apply sr tokTB (by kernel_rfl)
  · intro RR hRR
    refine w_lss rfl rfl ?_
    exact hRR
  refine snd_seq ?_
  refine snd_cond _ rfl (fun hc14 => ?_) (fun hc14 => ?_)
  · try simp only [hcs] at hc14
    have lt_i : i < n := by omega
    refine snd_skip ?_
    refine snd_seq ?_
    refine snd_block ?_
    apply sr tokTB (by kernel_rfl)
    · intro RR hRR
      refine w_move (by constructor) ?_
      refine w_assign (by constructor) ?_
      exact hRR
    apply sr tokTB (by kernel_rfl)
    · intro RR hRR
      refine w_move (by constructor) ?_
      refine w_len_o rfl rfl und52 ?_
      refine w_move (by constructor) ?_
      exact hRR
    refine snd_block ?_
    refine snd_loop (S := Nat) (fun j => ([(0, .cptr (algA p (n : Int) T fo)), (3, .own 905 0 n 57), (4, .int .i64 (i : Int)), (12, .int .i64 (n : Int)), (13, .int .i64 (i : Int)), (17, .int .i64 (n : Int)), (18, .int .i64 (j : Int))], [(905, .one (ZR n) (CO 11001 n (fun r => if r < i then n + n else if r = i then n + j else n) 2)), (11001, .many (famF n (fun r => if r < i then n + n else if r = i then n + j else n) (mixG (auS n (formT p T fo)) (formT p T fo) (i + 1))))])) (fun j => j ≤ n) (fun j => n - j) (0) ρ0 ?_ ?_ ?_
    · exact emb_famR (ρ := ρ0) (fun _ => rfl) (fun _ => rfl) (by decide) (by decide) rfl (fun r hr => by show AV.own 11001 r (if r < i then n + n else n) _ = _; rw [w02]) (fun r hr => ⟨_, by show famF n (fun r => if r < i then n + n else n) _ r = _; rw [famF_at hr, w02], fun V => mt_vec (fun z hz => f02 (by rw [w02]; exact hz))⟩) ⟨m_calg, (by first | exact ⟨rfl, rfl, rfl, rfl⟩ | exact ⟨rfl, by omega, rfl, rfl⟩), (by first | exact m_int rfl | exact m_int (by omega) | exact m_int (by simp; done) | (exact m_int (by simp; omega))), (by first | exact m_int rfl | exact m_int (by omega) | exact m_int (by simp; done) | (exact m_int (by simp; omega))), (by first | exact m_int rfl | exact m_int (by omega) | exact m_int (by simp; done) | (exact m_int (by simp; omega))), (by first | exact m_int rfl | exact m_int (by omega) | exact m_int (by simp; done) | (exact m_int (by simp; omega))), (by first | exact m_int rfl | exact m_int (by omega) | exact m_int (by simp; done) | (exact m_int (by simp; omega))), trivial⟩
    · exact Nat.zero_le _
    intro j hi2
    refine sq (env2 := [(0, .cptr (algA p (n : Int) T fo)), (3, .own 905 0 n 57), (4, .int .i64 (i : Int)), (12, .int .i64 (n : Int)), (13, .int .i64 (i : Int)), (17, .int .i64 (n : Int)), (18, .int .i64 (j : Int))]) (ol2 := [(905, .one (ZR n) (CO 11001 n (fun r => if r < i then n + n else if r = i then n + j else n) 2)), (11001, .many (famF n (fun r => if r < i then n + n else if r = i then n + j else n) (mixG (auS n (formT p T fo)) (formT p T fo) (i + 1))))]) rfl rfl ?_
    apply sr tokTB (by kernel_rfl)
    · intro RR hRR
      refine w_lss rfl rfl ?_
      exact hRR
    refine snd_seq ?_
    refine snd_cond _ rfl (fun hc19 => ?_) (fun hc19 => ?_)
    · try simp only [hcs] at hc19
      have lt_j : j < n := by omega
      refine snd_skip ?_
      refine snd_seq ?_
      refine snd_block ?_
      apply sr tokTB (by kernel_rfl)
      · intro RR hRR
        refine w_move (by constructor) ?_
        refine w_assign (by constructor) ?_
        exact hRR
      apply ld tokTB mixed (by kernel_rfl) (by kernel_rfl)
      · intro RR hRR
        refine w_move (by constructor) ?_
        refine w_move (by constructor) ?_
        refine w_move (by constructor) ?_
        refine w_move (by constructor) ?_
        refine w_iao rfl rfl und52 kn57 ?_ ?_
        · exact ⟨by omega, by omega⟩
        first | refine w_ldc rfl kn57 (by constructor) (by exact sz57.symm) (by exact ag57.symm) ?_ | refine w_ldp rfl kn57 rfl (by constructor) (by exact sz57.symm) (by exact ag57.symm) ?_
        refine w_move (by constructor) ?_
        refine w_move (by constructor) ?_
        refine y_call rfl (ec (ec exn)) (c_unitNumber (i := i) (j := j)) ?_
        refine w_bsl1 und57 kn2 (by rw [sz2]; rfl) rfl (by constructor) (by exact trivial) (by exact sz2.symm) (by first | exact trivial | exact ssh_vec | exact ⟨rfl, fun _ => trivial⟩) ?_
        refine w_app_o (k := 11001) (i := i) (n := n + j) (m := 1) (f := fun z => .int .i64 ((mixG (auS n (formT p T fo)) (formT p T fo) (i + 1)) i z)) und57 (by show AV.own 11001 i (if i < i then n + n else if i = i then n + j else n) _ = _; rw [w2j]) rfl kn2 rfl (by show famF n (fun r => if r < i then n + n else if r = i then n + j else n) (mixG (auS n (formT p T fo)) (formT p T fo) (i + 1)) i = _; rw [famF_at (by omega), w2j]; rfl) (fun C h => ⟨rfl, rfl, rfl, h⟩) (by rw [by2]; omega) (by omega) rfl ?_
        refine w_iao rfl rfl und52 kn57 ?_ ?_
        · exact ⟨by omega, by omega⟩
        first | refine w_stw rfl (by constructor) kn57 rfl (by exact trivial) (by first | exact trivial | exact ssh_vec | exact ssh_alg | exact ssh_tab | exact ssh_mat | exact ⟨rfl, fun _ => trivial⟩ | exact ⟨rfl, fun _ => by rw [zr30]; exact ssh_vec⟩) (by exact sz57.symm) ?_ | refine w_sti rfl rfl kn57 rfl (by exact trivial) (by exact sz57.symm) ?_ | refine w_store rfl (HV.eq (by constructor)) kn57 rfl (by exact trivial) (by first | exact trivial | exact ssh_vec | exact ssh_alg | exact ssh_tab | exact ssh_mat | exact ⟨rfl, fun _ => trivial⟩ | exact ⟨rfl, fun _ => by rw [zr30]; exact ssh_vec⟩) (by exact sz57.symm) (put_in (by first | exact put_mat | exact put_tab | exact put_alg0 | exact put_alg1 | exact put_alg2 | exact put_alg3 | exact put_alg3i | exact put_alg2ij | exact put_alg2ijk | exact put_mat2 | exact put_tab2 | exact put_tab3)) ?_ | refine w_store rfl (HV.eq (by constructor)) kn57 rfl (by exact trivial) (by exact trivial) (by exact sz57.symm) rfl ?_
        exact hRR
      apply lr tokTB (by kernel_rfl)
      · intro RR hRR
        refine y_add rfl rfl ?_
        refine w_move (by constructor) ?_
        exact hRR
      refine ⟨j + 1, (ρP 905 11001 905 31 i), ?_, (by omega), (by dsimp only; omega)⟩
      exact emb_fam (by decide) (by decide) (by decide) (by decide) rfl (fun r hr hne => by show (bif Nat.beq r i then _ else AV.own 11001 r (if r < i then n + n else if r = i then n + j else n) _) = _; rw [beq_ff hne]; simp only [cond_false]; rw [w2s hne]) (fun h => by show (bif Nat.beq i i then _ else _) = _; rw [Nat.beq_refl]; simp [put]; omega) (fun h => by refine ⟨_, (by show _ = some (Z64 (if i < i then n + n else if i = i then n + (j + 1) else n), _); rw [w2i]; exact rfl), fun V => ?_⟩; show Mt V (C64 (if i < i then n + n else if i = i then n + (j + 1) else n) _) _; rw [w2i]; exact mt_app (fun z hz => rfl) (congrArg (AV.int .i64) (by rw [mixG_lt _ _ (Nat.lt_succ_self i)]; exact auS_at))) (fun r hr hne => by show (bif Nat.beq r i then none else famF n (fun r => if r < i then n + n else if r = i then n + j else n) _ r) = _; rw [beq_ff hne]; simp only [cond_false]; rw [famF_at hr, w2s hne]) ⟨m_calg, (by first | exact ⟨rfl, rfl, rfl, rfl⟩ | exact ⟨rfl, by omega, rfl, rfl⟩), (by first | exact m_int rfl | exact m_int (by omega) | exact m_int (by simp; done) | (exact m_int (by simp; omega))), (by first | exact m_int rfl | exact m_int (by omega) | exact m_int (by simp; done) | (exact m_int (by simp; omega))), (by first | exact m_int rfl | exact m_int (by omega) | exact m_int (by simp; done) | (exact m_int (by simp; omega))), (by first | exact m_int rfl | exact m_int (by omega) | exact m_int (by simp; done) | (exact m_int (by simp; omega))), (by first | exact m_int rfl | exact m_int (by omega) | exact m_int (by simp; done) | (exact m_int (by simp; omega))), trivial⟩
    · try simp only [hcs] at hc19
      have ge_j : n = j := by omega
      subst ge_j
      refine snd_exit ?_
      apply lr tokTB (by kernel_rfl)
      · intro RR hRR
        refine y_add rfl rfl ?_
        refine w_move (by constructor) ?_
        exact hRR
      refine ⟨i + 1, ρ0, ?_, (by omega), (by dsimp only; omega)⟩
      exact emb_famR (ρ := ρ0) (fun _ => rfl) (fun _ => rfl) (by decide) (by decide) rfl (fun r hr => by show AV.own 11001 r (if r < i then n + n else if r = i then n + n else n) _ = _; rw [w20]) (fun r hr => ⟨_, by show famF n (fun r => if r < i then n + n else if r = i then n + n else n) _ r = _; rw [famF_at hr, w20], fun V => mt_vec (fun z hz => rfl)⟩) ⟨m_calg, (by first | exact ⟨rfl, rfl, rfl, rfl⟩ | exact ⟨rfl, by omega, rfl, rfl⟩), (by first | exact m_int rfl | exact m_int (by omega) | exact m_int (by simp; done) | (exact m_int (by simp; omega))), (by first | exact m_int rfl | exact m_int (by omega) | exact m_int (by simp; done) | (exact m_int (by simp; omega))), trivial⟩
  · try simp only [hcs] at hc14
    have ge_i : n = i := by omega
    subst ge_i
    refine snd_exit ?_
    refine snd_emb (ρ := ρ0) (env2 := [(0, .cptr (algA p (n : Int) T fo)), (3, rowsA n (n + n) (auS n (formT p T fo)))]) (ol2 := []) ?_ ?_
    · exact ⟨⟨m_calg, mt_fam_fz (w := fun r => if r < n then n + n else n) (F := mixG (auS n (formT p T fo)) (formT p T fo) n) trivial (fun _ => trivial) rfl (fun r hr => famF_at (w := fun r => if r < n then n + n else n) (F := mixG (auS n (formT p T fo)) (formT p T fo) n) hr) (fun r hr => if_pos hr) (fun r hr z hz => by rw [mixG_lt _ _ hr]), trivial⟩, trivial, trivial⟩
    apply sr tokTB (by kernel_rfl)
    · intro RR hRR
      refine w_bsl und52 kn57 (by rw [sz57]; rfl) rfl trivial trivial rfl ?_
      refine w_assign (by constructor) ?_
      exact hRR
    refine snd_seq ?_
    apply sr tokTB (by kernel_rfl)
    · intro RR hRR
      refine w_move (by constructor) ?_
      refine w_move (by constructor) ?_
      refine w_nilc rfl ?_
      refine w_fac rfl und32 rfl kn2 nz2 (by decide) rfl (by constructor) ?_
      refine w_ldc rfl kn2 (by constructor) (by exact sz2.symm) (by exact ag2.symm) ?_
      refine w_call rfl (ec (ec exn)) (c_reduce (n := n) (m := n + n) (R := (auS n (formT p T fo))) hv0.hp (by omega) (by omega) (fun i => B8_of (by omega) (auS_Bp (by omega) hFB i))) (.inr ⟨closed_rows, trivial, trivial⟩) rfl (by constructor) rfl ?_
      refine w_len_o rfl rfl und52 ?_
      refine w_move (by constructor) ?_
      exact hRR
    refine snd_block ?_
    refine snd_loop (S := Nat) (fun k => ([(0, .cptr (algA p (n : Int) T fo)), (6, .own 906 0 k 57), (41, .own 42000 0 (redGo p n (auS n (formT p T fo)) (n + n)).no 57), (42, .int .i64 ((redGo p n (auS n (formT p T fo)) (n + n)).no : Int)), (43, .int .i64 (k : Int))], [(906, .one (ZR k) (.arr k (fun r => .ro n (fun z => .int .i64 ((redGo p n (auS n (formT p T fo)) (n + n)).O r (n + z)))))), (42000, .one (ZR (redGo p n (auS n (formT p T fo)) (n + n)).no) (CR (redGo p n (auS n (formT p T fo)) (n + n)).no (n + n) (redGo p n (auS n (formT p T fo)) (n + n)).O))])) (fun k => k ≤ (redGo p n (auS n (formT p T fo)) (n + n)).no) (fun k => (redGo p n (auS n (formT p T fo)) (n + n)).no - k) (0) (fun k i => bif Nat.beq k 906 then (35, i) else (k, i)) ?_ ?_ ?_
    · exact ⟨⟨m_calg, (by first | exact ⟨rfl, rfl, rfl, rfl⟩ | exact ⟨rfl, by omega, rfl, rfl⟩), (by first | exact ⟨rfl, rfl, rfl, rfl⟩ | exact ⟨rfl, by omega, rfl, rfl⟩), (by first | exact m_int rfl | exact m_int (by omega) | exact m_int (by simp; done) | (exact m_int (by simp; omega))), (by first | exact m_int rfl | exact m_int (by omega) | exact m_int (by simp; done) | (exact m_int (by simp; omega))), trivial⟩, ⟨⟨rfl, (by first | exact trivial | exact ssh_vec | exact ssh_alg | exact ssh_tab | exact ssh_mat | exact ⟨rfl, fun _ => trivial⟩ | exact ⟨rfl, fun _ => by rw [zr30]; exact ssh_vec⟩), (by exact ⟨rfl, fun r h => absurd h (by omega)⟩)⟩, ⟨rfl, (by first | exact trivial | exact ssh_vec | exact ssh_alg | exact ssh_tab | exact ssh_mat | exact ⟨rfl, fun _ => trivial⟩ | exact ⟨rfl, fun _ => by rw [zr30]; exact ssh_vec⟩), (by exact ⟨rfl, fun _ _ => mt_row (fun _ _ => rfl)⟩)⟩, trivial⟩, ⟨⟨(fun h => by first | exact ⟨rfl, rfl⟩ | exact absurd h (by decide)), (fun h => by first | exact ⟨rfl, rfl⟩ | exact absurd h (by decide)), trivial⟩, ⟨(fun h => by first | exact ⟨rfl, rfl⟩ | exact absurd h (by decide)), (fun h => by first | exact ⟨rfl, rfl⟩ | exact absurd h (by decide)), trivial⟩, trivial⟩⟩
    · exact Nat.zero_le _
    intro k hi4
    refine sq (env2 := [(0, .cptr (algA p (n : Int) T fo)), (6, .own 906 0 k 57), (41, .own 42000 0 (redGo p n (auS n (formT p T fo)) (n + n)).no 57), (42, .int .i64 ((redGo p n (auS n (formT p T fo)) (n + n)).no : Int)), (43, .int .i64 (k : Int))]) (ol2 := [(906, .one (ZR k) (.arr k (fun r => .ro n (fun z => .int .i64 ((redGo p n (auS n (formT p T fo)) (n + n)).O r (n + z)))))), (42000, .one (ZR (redGo p n (auS n (formT p T fo)) (n + n)).no) (CR (redGo p n (auS n (formT p T fo)) (n + n)).no (n + n) (redGo p n (auS n (formT p T fo)) (n + n)).O))]) rfl rfl ?_
    apply sr tokTB (by kernel_rfl)
    · intro RR hRR
      refine w_lss rfl rfl ?_
      exact hRR
    refine snd_seq ?_
    refine snd_cond _ rfl (fun hc44 => ?_) (fun hc44 => ?_)
    · try simp only [hcs] at hc44
      have lt_k : k < (redGo p n (auS n (formT p T fo)) (n + n)).no := by omega
      refine snd_skip ?_
      refine snd_seq ?_
      refine snd_block ?_
      apply sr tokTB (by kernel_rfl)
      · intro RR hRR
        refine w_iao rfl rfl und52 kn57 ?_ ?_
        · exact ⟨by omega, by omega⟩
        first | refine w_ldc rfl kn57 (by constructor) (by exact sz57.symm) (by exact ag57.symm) ?_ | refine w_ldp rfl kn57 rfl (by constructor) (by exact sz57.symm) (by exact ag57.symm) ?_
        refine w_assign (by constructor) ?_
        exact hRR
      apply lr tokTB (by kernel_rfl)
      · intro RR hRR
        refine w_move (by constructor) ?_
        refine w_move (by constructor) ?_
        refine w_move (by constructor) ?_
        refine y_call rfl (ec exn) (c_n) ?_
        refine w_sl_rl rfl rfl und57 kn2 (by exact sz2.symm) rfl (by omega) ?_
        refine w_bsl1 und52 kn57 (by rw [sz57]; rfl) rfl (by constructor) (by exact trivial) (by exact sz57.symm) (by first | exact trivial | exact ssh_vec | exact ⟨rfl, fun _ => trivial⟩) ?_
        refine w_app_o und52 rfl rfl kn57 rfl rfl (fun C h => ⟨rfl, rfl, rfl, h⟩) (by rw [by57]; omega) (by omega) rfl ?_
        refine w_assign (by constructor) ?_
        exact hRR
      apply lr tokTB (by kernel_rfl)
      · intro RR hRR
        refine y_add rfl rfl ?_
        refine w_move (by constructor) ?_
        exact hRR
      refine ⟨k + 1, (fun k i => bif Nat.beq k 906 then (53, i) else (k, i)), ?_, (by omega), (by dsimp only; omega)⟩
      exact ⟨⟨m_calg, (by first | exact ⟨rfl, rfl, rfl, rfl⟩ | exact ⟨rfl, by omega, rfl, rfl⟩), (by first | exact ⟨rfl, rfl, rfl, rfl⟩ | exact ⟨rfl, by omega, rfl, rfl⟩), (by first | exact m_int rfl | exact m_int (by omega) | exact m_int (by simp; done) | (exact m_int (by simp; omega))), (by first | exact m_int rfl | exact m_int (by omega) | exact m_int (by simp; done) | (exact m_int (by simp; omega))), trivial⟩, ⟨⟨rfl, (by first | exact trivial | exact ssh_vec | exact ssh_alg | exact ssh_tab | exact ssh_mat | exact ⟨rfl, fun _ => trivial⟩ | exact ⟨rfl, fun _ => by rw [zr30]; exact ssh_vec⟩), (by exact mt_app (fun r hr => ⟨rfl, fun _ _ => rfl⟩) ⟨by omega, fun z hz => rfl⟩)⟩, ⟨rfl, (by first | exact trivial | exact ssh_vec | exact ssh_alg | exact ssh_tab | exact ssh_mat | exact ⟨rfl, fun _ => trivial⟩ | exact ⟨rfl, fun _ => by rw [zr30]; exact ssh_vec⟩), (by exact ⟨rfl, fun _ _ => mt_row (fun _ _ => rfl)⟩)⟩, trivial⟩, ⟨⟨(fun h => by first | exact ⟨rfl, rfl⟩ | exact absurd h (by decide)), (fun h => by first | exact ⟨rfl, rfl⟩ | exact absurd h (by decide)), trivial⟩, ⟨(fun h => by first | exact ⟨rfl, rfl⟩ | exact absurd h (by decide)), (fun h => by first | exact ⟨rfl, rfl⟩ | exact absurd h (by decide)), trivial⟩, trivial⟩⟩
    · try simp only [hcs] at hc44
      have ge_k : (redGo p n (auS n (formT p T fo)) (n + n)).no = k := by omega
      subst ge_k
      refine snd_exit ?_
      refine snd_emb (ρ := ρ0) (env2 := [(6, rowsA n n (cpM p n (formT p T fo)))]) (ol2 := []) ?_ ?_
      · exact ⟨⟨⟨hno, trivial, hno, fun r hr => ⟨rfl, fun z hz => congrArg (AV.int .i64) (by rw [hO r hr (n + z) (by omega)]; unfold auO; rw [if_neg (by omega), Nat.add_sub_cancel_left])⟩⟩, trivial⟩, trivial, trivial⟩
      apply sr tokTB (by kernel_rfl)
      · intro RR hRR
        refine w_move (by constructor) ?_
        refine w_assign (by constructor) ?_
        exact hRR
      refine snd_ret ?_
      exact rt (T := TB) (fun V => mt_rows (fun _ _ _ _ => rfl))
end Go.Am

set_option linter.unusedVariables false
set_option linter.unusedSimpArgs false
set_option maxRecDepth 4000
namespace Go.Am
attribute [local irreducible] retQ retQp
open Go.Proofs
end Go.Am

set_option linter.unusedVariables false
set_option linter.unusedSimpArgs false
set_option maxRecDepth 4000
namespace Go.Am
attribute [local irreducible] retQ retQp
open Go.Proofs
theorem c_l02Code0_ok {p : Int} {n : Nat} {T : Nat → Nat → Nat → Int} {fo : Nat → Int} (hv0 : VN p n T fo) (hr : rankT p n T fo = n) : ACalls Try.prog TB 66 [algA p (n : Int) T fo, .nilsl] (.int .i64 0) [] := by
  refine acalls_of tokTB Try.func66 rfl rfl (Nat.le_of_ble_eq_true rfl) ?_
  apply sr tokTB (by kernel_rfl)
  · intro RR hRR
    refine w_boxc (HV.eq (by constructor)) (by exact trivial) ?_
    refine w_assign (by constructor) ?_
    exact hRR
  refine snd_seq ?_
  refine snd_block ?_
  apply sr tokTB (by kernel_rfl)
  · intro RR hRR
    refine w_ldc rfl kn32 (by constructor) (by exact sz32.symm) (by exact ag32.symm) ?_
    refine w_move (by constructor) ?_
    refine y_call rfl (ec (ec exn)) (c_l01Code0_ok hv0) ?_
    refine w_neq rfl rfl ?_
    refine w_assign (by constructor) ?_
    exact hRR
  refine snd_cond_false rfl ?_
  apply sr tokTB (by kernel_rfl)
  · intro RR hRR
    refine w_ldc rfl kn32 (by constructor) (by exact sz32.symm) (by exact ag32.symm) ?_
    refine y_call rfl (ec exn) (c_l01Frobenius hv0) ?_
    refine w_not rfl ?_
    refine w_assign (by constructor) ?_
    exact hRR
  refine snd_cond_false (by exact not_t hr) ?_
  refine snd_skip ?_
  apply sr tokTB (by kernel_rfl)
  · intro RR hRR
    refine w_assign (by constructor) ?_
    exact hRR
  refine snd_ret ?_
  exact rt (T := TB) (fun V => rfl)
theorem c_l02Code0_nf {p : Int} {n : Nat} {T : Nat → Nat → Nat → Int} {fo : Nat → Int} (hv0 : VN p n T fo) (hr : ¬ rankT p n T fo = n) : ACalls Try.prog TB 66 [algA p (n : Int) T fo, .nilsl] (.int .i64 5) [] := by
  refine acalls_of tokTB Try.func66 rfl rfl (Nat.le_of_ble_eq_true rfl) ?_
  apply sr tokTB (by kernel_rfl)
  · intro RR hRR
    refine w_boxc (HV.eq (by constructor)) (by exact trivial) ?_
    refine w_assign (by constructor) ?_
    exact hRR
  refine snd_seq ?_
  refine snd_block ?_
  apply sr tokTB (by kernel_rfl)
  · intro RR hRR
    refine w_ldc rfl kn32 (by constructor) (by exact sz32.symm) (by exact ag32.symm) ?_
    refine w_move (by constructor) ?_
    refine y_call rfl (ec (ec exn)) (c_l01Code0_ok hv0) ?_
    refine w_neq rfl rfl ?_
    refine w_assign (by constructor) ?_
    exact hRR
  refine snd_cond_false rfl ?_
  apply sr tokTB (by kernel_rfl)
  · intro RR hRR
    refine w_ldc rfl kn32 (by constructor) (by exact sz32.symm) (by exact ag32.symm) ?_
    refine y_call rfl (ec exn) (c_l01Frobenius hv0) ?_
    refine w_not rfl ?_
    refine w_assign (by constructor) ?_
    exact hRR
  refine snd_cond_true (by exact not_f hr) ?_
  apply sr tokTB (by kernel_rfl)
  · intro RR hRR
    refine w_assign (by constructor) ?_
    exact hRR
  refine snd_ret ?_
  exact rt (T := TB) (fun V => rfl)
theorem c_l02Code0_no {p n : Int} {T : Nat → Nat → Nat → Int} {fo : Nat → Int} (hT : RB T) (hf : RV fo) (hz : ¬ VZ p n T fo 0 (fun _ _ => 0)) : ACalls Try.prog TB 66 [algA p n T fo, .nilsl] (.int .i64 1) [] := by
  refine acalls_of tokTB Try.func66 rfl rfl (Nat.le_of_ble_eq_true rfl) ?_
  apply sr tokTB (by kernel_rfl)
  · intro RR hRR
    refine w_boxc (HV.eq (by constructor)) (by exact trivial) ?_
    refine w_assign (by constructor) ?_
    exact hRR
  refine snd_seq ?_
  refine snd_block ?_
  apply sr tokTB (by kernel_rfl)
  · intro RR hRR
    refine w_ldc rfl kn32 (by constructor) (by exact sz32.symm) (by exact ag32.symm) ?_
    refine w_move (by constructor) ?_
    refine y_call rfl (ec (ec exn)) (c_l01Code0_no hT hf hz) ?_
    refine w_neq rfl rfl ?_
    refine w_assign (by constructor) ?_
    exact hRR
  refine snd_cond_true rfl ?_
  apply sr tokTB (by kernel_rfl)
  · intro RR hRR
    refine w_assign (by constructor) ?_
    exact hRR
  refine snd_ret ?_
  exact rt (T := TB) (fun V => rfl)
theorem c_stated0_ok {p : Int} {n : Nat} {T : Nat → Nat → Nat → Int} {fo : Nat → Int} (hv0 : VN p n T fo) (hr : rankT p n T fo = n) : ACalls Try.prog TB 69 [algA p (n : Int) T fo, .nilsl] (.int .i64 0) [] := by
  refine acalls_of tokTB Try.func69 rfl rfl (Nat.le_of_ble_eq_true rfl) ?_
  apply sr tokTB (by kernel_rfl)
  · intro RR hRR
    refine w_boxc (HV.eq (by constructor)) (by exact trivial) ?_
    refine w_assign (by constructor) ?_
    exact hRR
  refine snd_seq ?_
  apply sr tokTB (by kernel_rfl)
  · intro RR hRR
    refine w_ldc rfl kn32 (by constructor) (by exact sz32.symm) (by exact ag32.symm) ?_
    refine w_move (by constructor) ?_
    refine y_call rfl (ec (ec exn)) (c_valid0_ok hv0) ?_
    refine w_assign (by constructor) ?_
    exact hRR
  apply sr tokTB (by kernel_rfl)
  · intro RR hRR
    refine w_move (by constructor) ?_
    refine w_neq rfl rfl ?_
    exact hRR
  refine snd_cond_false rfl ?_
  refine snd_skip ?_
  refine snd_seq ?_
  apply sr tokTB (by kernel_rfl)
  · intro RR hRR
    refine y_call rfl (ec exn) (c_frobenius hv0) ?_
    refine w_not rfl ?_
    exact hRR
  refine snd_cond_false (by exact not_t hr) ?_
  refine snd_skip ?_
  apply sr tokTB (by kernel_rfl)
  · intro RR hRR
    refine w_assign (by constructor) ?_
    exact hRR
  refine snd_ret ?_
  exact rt (T := TB) (fun V => rfl)
theorem c_stated0_nf {p : Int} {n : Nat} {T : Nat → Nat → Nat → Int} {fo : Nat → Int} (hv0 : VN p n T fo) (hr : ¬ rankT p n T fo = n) : ACalls Try.prog TB 69 [algA p (n : Int) T fo, .nilsl] (.int .i64 5) [] := by
  refine acalls_of tokTB Try.func69 rfl rfl (Nat.le_of_ble_eq_true rfl) ?_
  apply sr tokTB (by kernel_rfl)
  · intro RR hRR
    refine w_boxc (HV.eq (by constructor)) (by exact trivial) ?_
    refine w_assign (by constructor) ?_
    exact hRR
  refine snd_seq ?_
  apply sr tokTB (by kernel_rfl)
  · intro RR hRR
    refine w_ldc rfl kn32 (by constructor) (by exact sz32.symm) (by exact ag32.symm) ?_
    refine w_move (by constructor) ?_
    refine y_call rfl (ec (ec exn)) (c_valid0_ok hv0) ?_
    refine w_assign (by constructor) ?_
    exact hRR
  apply sr tokTB (by kernel_rfl)
  · intro RR hRR
    refine w_move (by constructor) ?_
    refine w_neq rfl rfl ?_
    exact hRR
  refine snd_cond_false rfl ?_
  refine snd_skip ?_
  refine snd_seq ?_
  apply sr tokTB (by kernel_rfl)
  · intro RR hRR
    refine y_call rfl (ec exn) (c_frobenius hv0) ?_
    refine w_not rfl ?_
    exact hRR
  refine snd_cond_true (by exact not_f hr) ?_
  apply sr tokTB (by kernel_rfl)
  · intro RR hRR
    refine w_assign (by constructor) ?_
    exact hRR
  refine snd_ret ?_
  exact rt (T := TB) (fun V => rfl)
theorem c_stated0_no {p n : Int} {T : Nat → Nat → Nat → Int} {fo : Nat → Int} (hT : RB T) (hf : RV fo) (hz : ¬ VZ p n T fo 0 (fun _ _ => 0)) : ACalls Try.prog TB 69 [algA p n T fo, .nilsl] (.int .i64 1) [] := by
  refine acalls_of tokTB Try.func69 rfl rfl (Nat.le_of_ble_eq_true rfl) ?_
  apply sr tokTB (by kernel_rfl)
  · intro RR hRR
    refine w_boxc (HV.eq (by constructor)) (by exact trivial) ?_
    refine w_assign (by constructor) ?_
    exact hRR
  refine snd_seq ?_
  apply sr tokTB (by kernel_rfl)
  · intro RR hRR
    refine w_ldc rfl kn32 (by constructor) (by exact sz32.symm) (by exact ag32.symm) ?_
    refine w_move (by constructor) ?_
    refine y_call rfl (ec (ec exn)) (c_valid0_no hT hf hz) ?_
    refine w_assign (by constructor) ?_
    exact hRR
  apply sr tokTB (by kernel_rfl)
  · intro RR hRR
    refine w_move (by constructor) ?_
    refine w_neq rfl rfl ?_
    exact hRR
  refine snd_cond_true rfl ?_
  apply sr tokTB (by kernel_rfl)
  · intro RR hRR
    refine w_move (by constructor) ?_
    refine w_assign (by constructor) ?_
    exact hRR
  refine snd_ret ?_
  exact rt (T := TB) (fun V => rfl)
end Go.Am

set_option linter.unusedVariables false
set_option linter.unusedSimpArgs false
set_option maxRecDepth 4000
namespace Go.Am
attribute [local irreducible] retQ retQp
open Go.Proofs
theorem c_iNakayamaOf_ok {p : Int} {n : Nat} {T : Nat → Nat → Nat → Int} {fo : Nat → Int} (hv0 : VN p n T fo) (hr : rankT p n T fo = n) : ACalls Try.prog TB 29 [algA p (n : Int) T fo] (.tup 2 (pairA (.own 0 0 n 30) (.int .i64 0))) [(0, .one (.arr n (fun _ => TB.zero 30)) (.arr n (fun i => vecA (cutF (fun k => sumZ (fun j => (cpM p n (formT p T fo)) k j * (formT p T fo) i j) n % p) n))))] := by
  have hp8 := hv0.p0
  have hn6 := hv0.n6
  have hn0 := hv0.n0
  have hFB : ∀ i, Bp p ((formT p T fo) i) := fun i => formT_Bp (by omega) i
  have hCB : ∀ r, Bp p ((cpM p n (formT p T fo)) r) := fun r => cpM_Bp hv0.hp hFB hr r
  refine acalls_of tokTB Try.func29 rfl rfl (Nat.le_of_ble_eq_true rfl) ?_
  apply sr tokTB (by kernel_rfl)
  · intro RR hRR
    refine w_boxc (HV.eq (by constructor)) (by exact trivial) ?_
    refine w_assign (by constructor) ?_
    refine w_assign (by constructor) ?_
    exact hRR
  refine snd_seq ?_
  apply sr tokTB (by kernel_rfl)
  · intro RR hRR
    refine w_ldc rfl kn32 (by constructor) (by exact sz32.symm) (by exact ag32.symm) ?_
    refine y_call rfl (ec (ec exn)) (c_stated0_ok hv0 hr) ?_
    refine w_assign (by constructor) ?_
    exact hRR
  apply sr tokTB (by kernel_rfl)
  · intro RR hRR
    refine w_move (by constructor) ?_
    refine w_neq rfl rfl ?_
    exact hRR
  refine snd_cond_false rfl ?_
  refine snd_skip ?_
  apply sr tokTB (by kernel_rfl)
  · intro RR hRR
    refine w_callc rfl (ec exn) (c_copairing hv0 hr) (by exact closed_rows) (by exact ⟨closed_calg, trivial⟩) ?_
    refine w_call rfl (ec exn) (c_table hv0) (.inl ⟨trivial, ⟨fun _ => trivial, fun i sh c h => (by obtain ⟨_, _, rfl⟩ := famF_some h; exact fun _ => trivial), trivial⟩⟩) rfl (by constructor) rfl ?_
    refine w_bsl und27 kn30 (by rw [sz30]; rfl) rfl trivial trivial rfl ?_
    refine w_assign (by constructor) ?_
    refine w_assign (by constructor) ?_
    refine w_assign (by constructor) ?_
    exact hRR
  refine snd_seq ?_
  refine snd_emb (ρ := ρ0) (env2 := [(1, .cptr (algA p (n : Int) T fo)), (5, rowsA n n (cpM p n (formT p T fo))), (6, rowsA n n (formT p T fo)), (7, .own 22 0 0 30)]) (ol2 := [(22, .one (.arr 0 (fun _ => TB.zero 30)) (.arr 0 (fun r => vecA (cutF (fun k => sumZ (fun j => (cpM p n (formT p T fo)) k j * (formT p T fo) r j) n % p) n))))]) ?_ ?_
  · exact ⟨⟨m_calg, mt_rows (V := _) (fun _ _ _ _ => rfl), mt_fam_fz (w := fun _ => n) (F := (formT p T fo)) ⟨ne_fst rfl, trivial⟩ (fun _ => ⟨ne_fst rfl, trivial⟩) rfl (fun r hr => fam_sh (e := 2) (b := 22000) (ol := []) hr) (fun _ _ => rfl) (fun _ _ _ _ => rfl), ⟨rfl, rfl, rfl, rfl⟩, trivial⟩, ⟨⟨rfl, ⟨rfl, fun _ => (by first | exact trivial | exact ssh_vec | exact ssh_alg | exact ssh_tab | exact ssh_mat | exact ⟨rfl, fun _ => trivial⟩ | exact ⟨rfl, fun _ => by rw [zr30]; exact ssh_vec⟩)⟩, ⟨rfl, fun r h => absurd h (Nat.not_lt_zero _)⟩⟩, trivial⟩, ⟨⟨fun _ => ⟨rfl, rfl⟩, trivial⟩, trivial⟩⟩
  apply sr tokTB (by kernel_rfl)
  · intro RR hRR
    refine w_move (by constructor) ?_
    refine w_len_r rfl rfl und52 ?_
    refine w_move (by constructor) ?_
    exact hRR
  refine snd_block ?_
  refine snd_loop (S := Nat) (fun i => ([(1, .cptr (algA p (n : Int) T fo)), (5, rowsA n n (cpM p n (formT p T fo))), (6, rowsA n n (formT p T fo)), (7, .own 907 0 i 30), (24, .int .i64 (n : Int)), (25, .int .i64 (i : Int))], [(907, .one (.arr i (fun _ => TB.zero 30)) (.arr i (fun r => vecA (cutF (fun k => sumZ (fun j => (cpM p n (formT p T fo)) k j * (formT p T fo) r j) n % p) n))))])) (fun i => i ≤ n) (fun i => n - i) (0) (fun k i => bif Nat.beq k 907 then (22, i) else (k, i)) ?_ ?_ ?_
  · exact ⟨⟨m_calg, (mt_rows (V := _) (fun _ _ _ _ => rfl)), (mt_rows (V := _) (fun _ _ _ _ => rfl)), (by first | exact ⟨rfl, rfl, rfl, rfl⟩ | exact ⟨rfl, by omega, rfl, rfl⟩), (by first | exact m_int rfl | exact m_int (by omega) | exact m_int (by simp; done) | (exact m_int (by simp; omega))), (by first | exact m_int rfl | exact m_int (by omega) | exact m_int (by simp; done) | (exact m_int (by simp; omega))), trivial⟩, ⟨⟨rfl, (by first | exact trivial | exact ssh_vec | exact ssh_alg | exact ssh_tab | exact ssh_mat | exact ⟨rfl, fun _ => trivial⟩ | exact ⟨rfl, fun _ => by rw [zr30]; exact ssh_vec⟩), (by exact ⟨rfl, fun r h => absurd h (by omega)⟩)⟩, trivial⟩, ⟨⟨(fun h => by first | exact ⟨rfl, rfl⟩ | exact absurd h (by decide)), trivial⟩, trivial⟩⟩
  · exact Nat.zero_le _
  intro i hi0
  refine sq (env2 := [(1, .cptr (algA p (n : Int) T fo)), (5, rowsA n n (cpM p n (formT p T fo))), (6, rowsA n n (formT p T fo)), (7, .own 907 0 i 30), (24, .int .i64 (n : Int)), (25, .int .i64 (i : Int))]) (ol2 := [(907, .one (.arr i (fun _ => TB.zero 30)) (.arr i (fun r => vecA (cutF (fun k => sumZ (fun j => (cpM p n (formT p T fo)) k j * (formT p T fo) r j) n % p) n))))]) rfl rfl ?_
  apply sr tokTB (by kernel_rfl)
  · intro RR hRR
    refine w_lss rfl rfl ?_
    exact hRR
  refine snd_seq ?_
  refine snd_cond _ rfl (fun hc26 => ?_) (fun hc26 => ?_)
  · try simp only [hcs] at hc26
    have lt_i : i < n := by omega
    refine snd_skip ?_
    refine snd_seq ?_
    refine snd_block ?_
    apply sr tokTB (by kernel_rfl)
    · intro RR hRR
      refine w_move (by constructor) ?_
      refine w_assign (by constructor) ?_
      exact hRR
    apply sr tokTB (by kernel_rfl)
    · intro RR hRR
      refine w_bld_a kn30 zr30 und30 kn5 (fun _ => (by exact sz5.symm)) trivial rfl (by exact sz5.symm) ?_
      refine w_alloc kn30 rfl zr30 ?_
      refine w_stw rfl (by constructor) kn30 rfl (by exact trivial) (by first | exact trivial | exact ssh_vec | exact ssh_alg | exact ssh_tab | exact ssh_mat | exact ⟨rfl, fun _ => trivial⟩ | exact ⟨rfl, fun _ => by rw [zr30]; exact ssh_vec⟩) (by exact sz30.symm) ?_
      exact hRR
    refine snd_seq ?_
    apply sr tokTB (by kernel_rfl)
    · intro RR hRR
      refine w_move (by constructor) ?_
      refine w_len_r rfl rfl und52 ?_
      refine w_move (by constructor) ?_
      exact hRR
    refine snd_block ?_
    refine snd_loop (S := Nat) (fun k => ([(1, .cptr (algA p (n : Int) T fo)), (5, rowsA n n (cpM p n (formT p T fo))), (6, rowsA n n (formT p T fo)), (7, .own 907 0 i 30), (8, .int .i64 (i : Int)), (9, .ptr 9 0 [] 0 (vecA (fun _ => 0))), (24, .int .i64 (n : Int)), (25, .int .i64 (i : Int)), (29, rowsA n n (cpM p n (formT p T fo))), (30, .int .i64 (n : Int)), (31, .int .i64 (k : Int))], [(907, .one (.arr i (fun _ => TB.zero 30)) (.arr i (fun r => vecA (cutF (fun k => sumZ (fun j => (cpM p n (formT p T fo)) k j * (formT p T fo) r j) n % p) n)))), (9, .one (vecA (fun _ => 0)) (vecA (cutF (fun k => sumZ (fun j => (cpM p n (formT p T fo)) k j * (formT p T fo) i j) n % p) k)))])) (fun k => k ≤ n) (fun k => n - k) (0) ρ0 ?_ ?_ ?_
    · exact ⟨⟨m_calg, (mt_rows (V := _) (fun _ _ _ _ => rfl)), (mt_rows (V := _) (fun _ _ _ _ => rfl)), (by first | exact ⟨rfl, rfl, rfl, rfl⟩ | exact ⟨rfl, by omega, rfl, rfl⟩), (by first | exact m_int rfl | exact m_int (by omega) | exact m_int (by simp; done) | (exact m_int (by simp; omega))), ⟨rfl, rfl, rfl, rfl, rfl⟩, (by first | exact m_int rfl | exact m_int (by omega) | exact m_int (by simp; done) | (exact m_int (by simp; omega))), (by first | exact m_int rfl | exact m_int (by omega) | exact m_int (by simp; done) | (exact m_int (by simp; omega))), (mt_rows (V := _) (fun _ _ _ _ => rfl)), (by first | exact m_int rfl | exact m_int (by omega) | exact m_int (by simp; done) | (exact m_int (by simp; omega))), (by first | exact m_int rfl | exact m_int (by omega) | exact m_int (by simp; done) | (exact m_int (by simp; omega))), trivial⟩, ⟨⟨rfl, (by first | exact trivial | exact ssh_vec | exact ssh_alg | exact ssh_tab | exact ssh_mat | exact ⟨rfl, fun _ => trivial⟩ | exact ⟨rfl, fun _ => by rw [zr30]; exact ssh_vec⟩), (by exact ⟨rfl, fun _ _ => mt_vec (fun _ _ => rfl)⟩)⟩, ⟨rfl, (by first | exact trivial | exact ssh_vec | exact ssh_alg | exact ssh_tab | exact ssh_mat | exact ⟨rfl, fun _ => trivial⟩ | exact ⟨rfl, fun _ => by rw [zr30]; exact ssh_vec⟩), (by exact mt_vec (fun z _ => by unfold cutF; rw [if_neg (Nat.not_lt_zero _)]))⟩, trivial⟩, ⟨⟨(fun h => by first | exact ⟨rfl, rfl⟩ | exact absurd h (by decide)), (fun h => by first | exact ⟨rfl, rfl⟩ | exact absurd h (by decide)), trivial⟩, ⟨(fun h => by first | exact ⟨rfl, rfl⟩ | exact absurd h (by decide)), (fun h => by first | exact ⟨rfl, rfl⟩ | exact absurd h (by decide)), trivial⟩, trivial⟩⟩
    · exact Nat.zero_le _
    intro k hi2
    refine sq (env2 := [(1, .cptr (algA p (n : Int) T fo)), (5, rowsA n n (cpM p n (formT p T fo))), (6, rowsA n n (formT p T fo)), (7, .own 907 0 i 30), (8, .int .i64 (i : Int)), (9, .ptr 9 0 [] 0 (vecA (fun _ => 0))), (24, .int .i64 (n : Int)), (25, .int .i64 (i : Int)), (29, rowsA n n (cpM p n (formT p T fo))), (30, .int .i64 (n : Int)), (31, .int .i64 (k : Int))]) (ol2 := [(907, .one (.arr i (fun _ => TB.zero 30)) (.arr i (fun r => vecA (cutF (fun k => sumZ (fun j => (cpM p n (formT p T fo)) k j * (formT p T fo) r j) n % p) n)))), (9, .one (vecA (fun _ => 0)) (vecA (cutF (fun k => sumZ (fun j => (cpM p n (formT p T fo)) k j * (formT p T fo) i j) n % p) k)))]) rfl rfl ?_
    apply sr tokTB (by kernel_rfl)
    · intro RR hRR
      refine w_lss rfl rfl ?_
      exact hRR
    refine snd_seq ?_
    refine snd_cond _ rfl (fun hc32 => ?_) (fun hc32 => ?_)
    · try simp only [hcs] at hc32
      have lt_k : k < n := by omega
      refine snd_skip ?_
      refine snd_seq ?_
      refine snd_block ?_
      apply sr tokTB (by kernel_rfl)
      · intro RR hRR
        refine w_move (by constructor) ?_
        refine w_iar rfl rfl und52 kn57 (by exact sz57.symm) ?_ rfl ?_
        · exact ⟨by omega, by omega⟩
        first | refine w_ldc rfl kn57 (by constructor) (by exact sz57.symm) (by exact ag57.symm) ?_ | refine w_ldp rfl kn57 rfl (by constructor) (by exact sz57.symm) (by exact ag57.symm) ?_
        refine w_assign (by constructor) ?_
        refine w_assign (by constructor) ?_
        exact hRR
      apply sr tokTB (by kernel_rfl)
      · intro RR hRR
        refine w_assign (by constructor) ?_
        exact hRR
      refine snd_seq ?_
      apply sr tokTB (by kernel_rfl)
      · intro RR hRR
        refine w_move (by constructor) ?_
        refine w_len_r rfl rfl und57 ?_
        refine w_move (by constructor) ?_
        exact hRR
      refine snd_block ?_
      refine snd_loop (S := Nat) (fun j => ([(1, .cptr (algA p (n : Int) T fo)), (5, rowsA n n (cpM p n (formT p T fo))), (6, rowsA n n (formT p T fo)), (7, .own 907 0 i 30), (8, .int .i64 (i : Int)), (9, .ptr 9 0 [] 0 (vecA (fun _ => 0))), (10, .int .i64 (k : Int)), (12, .int .i64 (sumZ (fun j => (cpM p n (formT p T fo)) k j * (formT p T fo) i j) j)), (24, .int .i64 (n : Int)), (25, .int .i64 (i : Int)), (29, rowsA n n (cpM p n (formT p T fo))), (30, .int .i64 (n : Int)), (31, .int .i64 (k : Int)), (36, rowA n ((cpM p n (formT p T fo)) k)), (37, .int .i64 (n : Int)), (38, .int .i64 (j : Int))], [(907, .one (.arr i (fun _ => TB.zero 30)) (.arr i (fun r => vecA (cutF (fun k => sumZ (fun j => (cpM p n (formT p T fo)) k j * (formT p T fo) r j) n % p) n)))), (9, .one (vecA (fun _ => 0)) (vecA (cutF (fun k => sumZ (fun j => (cpM p n (formT p T fo)) k j * (formT p T fo) i j) n % p) k)))])) (fun j => j ≤ n) (fun j => n - j) (0) ρ0 ?_ ?_ ?_
      · exact ⟨⟨m_calg, (mt_rows (V := _) (fun _ _ _ _ => rfl)), (mt_rows (V := _) (fun _ _ _ _ => rfl)), (by first | exact ⟨rfl, rfl, rfl, rfl⟩ | exact ⟨rfl, by omega, rfl, rfl⟩), (by first | exact m_int rfl | exact m_int (by omega) | exact m_int (by simp; done) | (exact m_int (by simp; omega))), ⟨rfl, rfl, rfl, rfl, rfl⟩, (by first | exact m_int rfl | exact m_int (by omega) | exact m_int (by simp; done) | (exact m_int (by simp; omega))), (by first | exact m_int rfl | exact m_int (by omega) | exact m_int (by simp; done) | (exact m_int (by simp; omega))), (by first | exact m_int rfl | exact m_int (by omega) | exact m_int (by simp; done) | (exact m_int (by simp; omega))), (by first | exact m_int rfl | exact m_int (by omega) | exact m_int (by simp; done) | (exact m_int (by simp; omega))), (mt_rows (V := _) (fun _ _ _ _ => rfl)), (by first | exact m_int rfl | exact m_int (by omega) | exact m_int (by simp; done) | (exact m_int (by simp; omega))), (by first | exact m_int rfl | exact m_int (by omega) | exact m_int (by simp; done) | (exact m_int (by simp; omega))), (by first | exact mt_row (V := _) (fun _ _ => rfl) | exact mt_fz (by exact ⟨(ne_fst rfl), (ne_fst rfl), trivial⟩) rfl (fun _ _ => rfl)), (by first | exact m_int rfl | exact m_int (by omega) | exact m_int (by simp; done) | (exact m_int (by simp; omega))), (by first | exact m_int rfl | exact m_int (by omega) | exact m_int (by simp; done) | (exact m_int (by simp; omega))), trivial⟩, ⟨⟨rfl, (by first | exact trivial | exact ssh_vec | exact ssh_alg | exact ssh_tab | exact ssh_mat | exact ⟨rfl, fun _ => trivial⟩ | exact ⟨rfl, fun _ => by rw [zr30]; exact ssh_vec⟩), (by exact ⟨rfl, fun _ _ => mt_vec (fun _ _ => rfl)⟩)⟩, ⟨rfl, (by first | exact trivial | exact ssh_vec | exact ssh_alg | exact ssh_tab | exact ssh_mat | exact ⟨rfl, fun _ => trivial⟩ | exact ⟨rfl, fun _ => by rw [zr30]; exact ssh_vec⟩), (by exact mt_vec (fun _ _ => rfl))⟩, trivial⟩, ⟨⟨(fun h => by first | exact ⟨rfl, rfl⟩ | exact absurd h (by decide)), (fun h => by first | exact ⟨rfl, rfl⟩ | exact absurd h (by decide)), trivial⟩, ⟨(fun h => by first | exact ⟨rfl, rfl⟩ | exact absurd h (by decide)), (fun h => by first | exact ⟨rfl, rfl⟩ | exact absurd h (by decide)), trivial⟩, trivial⟩⟩
      · exact Nat.zero_le _
      intro j hi4
      refine sq (env2 := [(1, .cptr (algA p (n : Int) T fo)), (5, rowsA n n (cpM p n (formT p T fo))), (6, rowsA n n (formT p T fo)), (7, .own 907 0 i 30), (8, .int .i64 (i : Int)), (9, .ptr 9 0 [] 0 (vecA (fun _ => 0))), (10, .int .i64 (k : Int)), (12, .int .i64 (sumZ (fun j => (cpM p n (formT p T fo)) k j * (formT p T fo) i j) j)), (24, .int .i64 (n : Int)), (25, .int .i64 (i : Int)), (29, rowsA n n (cpM p n (formT p T fo))), (30, .int .i64 (n : Int)), (31, .int .i64 (k : Int)), (36, rowA n ((cpM p n (formT p T fo)) k)), (37, .int .i64 (n : Int)), (38, .int .i64 (j : Int))]) (ol2 := [(907, .one (.arr i (fun _ => TB.zero 30)) (.arr i (fun r => vecA (cutF (fun k => sumZ (fun j => (cpM p n (formT p T fo)) k j * (formT p T fo) r j) n % p) n)))), (9, .one (vecA (fun _ => 0)) (vecA (cutF (fun k => sumZ (fun j => (cpM p n (formT p T fo)) k j * (formT p T fo) i j) n % p) k)))]) rfl rfl ?_
      apply sr tokTB (by kernel_rfl)
      · intro RR hRR
        refine w_lss rfl rfl ?_
        exact hRR
      refine snd_seq ?_
      refine snd_cond _ rfl (fun hc39 => ?_) (fun hc39 => ?_)
      · try simp only [hcs] at hc39
        have lt_j : j < n := by omega
        refine snd_skip ?_
        refine snd_seq ?_
        refine snd_block ?_
        apply sr tokTB (by kernel_rfl)
        · intro RR hRR
          refine w_move (by constructor) ?_
          refine w_iar rfl rfl und57 kn2 (by exact sz2.symm) ?_ rfl ?_
          · exact ⟨by omega, by omega⟩
          first | refine w_ldc rfl kn2 (by constructor) (by exact sz2.symm) (by exact ag2.symm) ?_ | refine w_ldp rfl kn2 rfl (by constructor) (by exact sz2.symm) (by exact ag2.symm) ?_
          refine w_assign (by constructor) ?_
          refine w_assign (by constructor) ?_
          exact hRR
        apply lr tokTB (by kernel_rfl)
        · intro RR hRR
          refine w_move (by constructor) ?_
          refine w_move (by constructor) ?_
          refine w_move (by constructor) ?_
          refine w_move (by constructor) ?_
          refine w_iar rfl rfl und52 kn57 (by exact sz57.symm) ?_ rfl ?_
          · exact ⟨by omega, by omega⟩
          first | refine w_ldc rfl kn57 (by constructor) (by exact sz57.symm) (by exact ag57.symm) ?_ | refine w_ldp rfl kn57 rfl (by constructor) (by exact sz57.symm) (by exact ag57.symm) ?_
          refine w_move (by constructor) ?_
          refine w_iar rfl rfl und57 kn2 (by exact sz2.symm) ?_ rfl ?_
          · exact ⟨by omega, by omega⟩
          first | refine w_ldc rfl kn2 (by constructor) (by exact sz2.symm) (by exact ag2.symm) ?_ | refine w_ldp rfl kn2 rfl (by constructor) (by exact sz2.symm) (by exact ag2.symm) ?_
          refine w_mul rfl rfl (by exact w64 (n := (cpM p n (formT p T fo)) k j * (formT p T fo) i j) (by have := mul8 (x := (cpM p n (formT p T fo)) k j) (y := (formT p T fo) i j) (by have := hCB k j; omega) (by have := hFB i j; omega); omega) (by have := mul8 (x := (cpM p n (formT p T fo)) k j) (y := (formT p T fo) i j) (by have := hCB k j; omega) (by have := hFB i j; omega); omega)) ?_
          refine w_add rfl rfl (by exact w64 (n := (sumZ (fun j => (cpM p n (formT p T fo)) k j * (formT p T fo) i j) j) + (cpM p n (formT p T fo)) k j * (formT p T fo) i j) (by have := nk_bd hCB hFB hp8 (i := i) (k := k) (j + 1) (by omega); rw [sumZ] at this; omega) (by have := nk_bd hCB hFB hp8 (i := i) (k := k) (j + 1) (by omega); rw [sumZ] at this; omega)) ?_
          refine w_assign (by constructor) ?_
          exact hRR
        apply lr tokTB (by kernel_rfl)
        · intro RR hRR
          refine y_add rfl rfl ?_
          refine w_move (by constructor) ?_
          exact hRR
        refine ⟨j + 1, ρ0, ?_, (by omega), (by dsimp only; omega)⟩
        exact ⟨⟨m_calg, (mt_rows (V := _) (fun _ _ _ _ => rfl)), (mt_rows (V := _) (fun _ _ _ _ => rfl)), (by first | exact ⟨rfl, rfl, rfl, rfl⟩ | exact ⟨rfl, by omega, rfl, rfl⟩), (by first | exact m_int rfl | exact m_int (by omega) | exact m_int (by simp; done) | (exact m_int (by simp; omega))), ⟨rfl, rfl, rfl, rfl, rfl⟩, (by first | exact m_int rfl | exact m_int (by omega) | exact m_int (by simp; done) | (exact m_int (by simp; omega))), (by first | exact m_int rfl | exact m_int (by omega) | exact m_int (by simp; done) | (exact m_int (by simp; omega))), (by first | exact m_int rfl | exact m_int (by omega) | exact m_int (by simp; done) | (exact m_int (by simp; omega))), (by first | exact m_int rfl | exact m_int (by omega) | exact m_int (by simp; done) | (exact m_int (by simp; omega))), (mt_rows (V := _) (fun _ _ _ _ => rfl)), (by first | exact m_int rfl | exact m_int (by omega) | exact m_int (by simp; done) | (exact m_int (by simp; omega))), (by first | exact m_int rfl | exact m_int (by omega) | exact m_int (by simp; done) | (exact m_int (by simp; omega))), (by first | exact mt_row (V := _) (fun _ _ => rfl) | exact mt_fz (by exact ⟨(ne_fst rfl), (ne_fst rfl), trivial⟩) rfl (fun _ _ => rfl)), (by first | exact m_int rfl | exact m_int (by omega) | exact m_int (by simp; done) | (exact m_int (by simp; omega))), (by first | exact m_int rfl | exact m_int (by omega) | exact m_int (by simp; done) | (exact m_int (by simp; omega))), trivial⟩, ⟨⟨rfl, (by first | exact trivial | exact ssh_vec | exact ssh_alg | exact ssh_tab | exact ssh_mat | exact ⟨rfl, fun _ => trivial⟩ | exact ⟨rfl, fun _ => by rw [zr30]; exact ssh_vec⟩), (by exact ⟨rfl, fun _ _ => mt_vec (fun _ _ => rfl)⟩)⟩, ⟨rfl, (by first | exact trivial | exact ssh_vec | exact ssh_alg | exact ssh_tab | exact ssh_mat | exact ⟨rfl, fun _ => trivial⟩ | exact ⟨rfl, fun _ => by rw [zr30]; exact ssh_vec⟩), (by exact mt_vec (fun _ _ => rfl))⟩, trivial⟩, ⟨⟨(fun h => by first | exact ⟨rfl, rfl⟩ | exact absurd h (by decide)), (fun h => by first | exact ⟨rfl, rfl⟩ | exact absurd h (by decide)), trivial⟩, ⟨(fun h => by first | exact ⟨rfl, rfl⟩ | exact absurd h (by decide)), (fun h => by first | exact ⟨rfl, rfl⟩ | exact absurd h (by decide)), trivial⟩, trivial⟩⟩
      · try simp only [hcs] at hc39
        have ge_j : n = j := by omega
        subst ge_j
        refine snd_exit ?_
        apply lr tokTB (by kernel_rfl)
        · intro RR hRR
          refine w_move (by constructor) ?_
          refine w_move (by constructor) ?_
          refine w_fac rfl und32 rfl kn2 nz2 (by decide) rfl (by constructor) ?_
          refine w_ldc rfl kn2 (by constructor) (by exact sz2.symm) (by exact ag2.symm) ?_
          refine w_rem rfl rfl (by first | assumption | omega) ?_
          refine w_conv rfl und2 und5 (by exact (congrArg IntKind.u8.wrap (tmod_nn (nk_bd hCB hFB hp8 n (by omega)).1)).trans (w8 (n := (sumZ (fun j => (cpM p n (formT p T fo)) k j * (formT p T fo) i j) n) % p) (Int.emod_nonneg _ (by omega)) (by have := Int.emod_lt_of_pos (sumZ (fun j => (cpM p n (formT p T fo)) k j * (formT p T fo) i j) n) (show 0 < p by omega); omega))) ?_
          refine w_iap rfl rfl und30 kn5 rfl (by exact sz5.symm) rfl ?_ ?_
          · exact ⟨by omega, by omega⟩
          first | refine w_stw rfl (by constructor) kn5 rfl (by exact trivial) (by first | exact trivial | exact ssh_vec | exact ssh_alg | exact ssh_tab | exact ssh_mat | exact ⟨rfl, fun _ => trivial⟩ | exact ⟨rfl, fun _ => by rw [zr30]; exact ssh_vec⟩) (by exact sz5.symm) ?_ | refine w_sti rfl rfl kn5 rfl (by exact trivial) (by exact sz5.symm) ?_ | refine w_store rfl (HV.eq (by constructor)) kn5 rfl (by exact trivial) (by first | exact trivial | exact ssh_vec | exact ssh_alg | exact ssh_tab | exact ssh_mat | exact ⟨rfl, fun _ => trivial⟩ | exact ⟨rfl, fun _ => by rw [zr30]; exact ssh_vec⟩) (by exact sz5.symm) (put_in (by first | exact put_mat | exact put_tab | exact put_alg0 | exact put_alg1 | exact put_alg2 | exact put_alg3 | exact put_alg3i | exact put_alg2ij | exact put_alg2ijk | exact put_mat2 | exact put_tab2 | exact put_tab3)) ?_ | refine w_store rfl (HV.eq (by constructor)) kn5 rfl (by exact trivial) (by exact trivial) (by exact sz5.symm) rfl ?_
          exact hRR
        apply lr tokTB (by kernel_rfl)
        · intro RR hRR
          refine y_add rfl rfl ?_
          refine w_move (by constructor) ?_
          exact hRR
        refine ⟨k + 1, ρ0, ?_, (by omega), (by dsimp only; omega)⟩
        exact ⟨⟨m_calg, (mt_rows (V := _) (fun _ _ _ _ => rfl)), (mt_rows (V := _) (fun _ _ _ _ => rfl)), (by first | exact ⟨rfl, rfl, rfl, rfl⟩ | exact ⟨rfl, by omega, rfl, rfl⟩), (by first | exact m_int rfl | exact m_int (by omega) | exact m_int (by simp; done) | (exact m_int (by simp; omega))), ⟨rfl, rfl, rfl, rfl, rfl⟩, (by first | exact m_int rfl | exact m_int (by omega) | exact m_int (by simp; done) | (exact m_int (by simp; omega))), (by first | exact m_int rfl | exact m_int (by omega) | exact m_int (by simp; done) | (exact m_int (by simp; omega))), (mt_rows (V := _) (fun _ _ _ _ => rfl)), (by first | exact m_int rfl | exact m_int (by omega) | exact m_int (by simp; done) | (exact m_int (by simp; omega))), (by first | exact m_int rfl | exact m_int (by omega) | exact m_int (by simp; done) | (exact m_int (by simp; omega))), trivial⟩, ⟨⟨rfl, (by first | exact trivial | exact ssh_vec | exact ssh_alg | exact ssh_tab | exact ssh_mat | exact ⟨rfl, fun _ => trivial⟩ | exact ⟨rfl, fun _ => by rw [zr30]; exact ssh_vec⟩), (by exact ⟨rfl, fun _ _ => mt_vec (fun _ _ => rfl)⟩)⟩, ⟨rfl, (by first | exact trivial | exact ssh_vec | exact ssh_alg | exact ssh_tab | exact ssh_mat | exact ⟨rfl, fun _ => trivial⟩ | exact ⟨rfl, fun _ => by rw [zr30]; exact ssh_vec⟩), (by exact mt_vec (fun z _ => upd_cut _ k z))⟩, trivial⟩, ⟨⟨(fun h => by first | exact ⟨rfl, rfl⟩ | exact absurd h (by decide)), (fun h => by first | exact ⟨rfl, rfl⟩ | exact absurd h (by decide)), trivial⟩, ⟨(fun h => by first | exact ⟨rfl, rfl⟩ | exact absurd h (by decide)), (fun h => by first | exact ⟨rfl, rfl⟩ | exact absurd h (by decide)), trivial⟩, trivial⟩⟩
    · try simp only [hcs] at hc32
      have ge_k : n = k := by omega
      subst ge_k
      refine snd_exit ?_
      apply lr tokTB (by kernel_rfl)
      · intro RR hRR
        refine w_move (by constructor) ?_
        refine w_ldp rfl kn30 rfl (by constructor) (by exact sz30.symm) (by exact ag30.symm) ?_
        refine w_bsl1 und27 kn30 (by rw [sz30]; rfl) rfl (by constructor) (by exact trivial) (by exact sz30.symm) (by first | exact trivial | exact ssh_vec | exact ⟨rfl, fun _ => trivial⟩) ?_
        refine w_app_o und27 rfl rfl kn30 rfl rfl (fun C h => ⟨rfl, rfl, rfl, h⟩) (by rw [by30]; omega) (by omega) rfl ?_
        refine w_assign (by constructor) ?_
        exact hRR
      apply lr tokTB (by kernel_rfl)
      · intro RR hRR
        refine y_add rfl rfl ?_
        refine w_move (by constructor) ?_
        exact hRR
      refine ⟨i + 1, (fun k i => bif Nat.beq k 907 then (66, i) else (k, i)), ?_, (by omega), (by dsimp only; omega)⟩
      exact ⟨⟨m_calg, (mt_rows (V := _) (fun _ _ _ _ => rfl)), (mt_rows (V := _) (fun _ _ _ _ => rfl)), (by first | exact ⟨rfl, rfl, rfl, rfl⟩ | exact ⟨rfl, by omega, rfl, rfl⟩), (by first | exact m_int rfl | exact m_int (by omega) | exact m_int (by simp; done) | (exact m_int (by simp; omega))), (by first | exact m_int rfl | exact m_int (by omega) | exact m_int (by simp; done) | (exact m_int (by simp; omega))), trivial⟩, ⟨⟨rfl, (by first | exact trivial | exact ssh_vec | exact ssh_alg | exact ssh_tab | exact ssh_mat | exact ⟨rfl, fun _ => trivial⟩ | exact ⟨rfl, fun _ => by rw [zr30]; exact ssh_vec⟩), (by exact mt_app' (by omega) (fun _ _ => mt_vec (fun _ _ => rfl)) (mt_vec (fun _ _ => rfl)))⟩, trivial⟩, ⟨⟨(fun h => by first | exact ⟨rfl, rfl⟩ | exact absurd h (by decide)), trivial⟩, trivial⟩⟩
  · try simp only [hcs] at hc26
    have ge_i : n = i := by omega
    subst ge_i
    refine snd_exit ?_
    apply sr tokTB (by kernel_rfl)
    · intro RR hRR
      refine w_move (by constructor) ?_
      refine w_assign (by constructor) ?_
      refine w_assign (by constructor) ?_
      exact hRR
    refine snd_ret ?_
    show retQ TB _ _ _ _ _ _
    show retQ TB _ _ _ _ _ _
    exact rt_own_u rfl (fun V => rfl) rfl rfl (fun _ => (by first | exact trivial | exact ssh_vec | exact ssh_alg | exact ssh_tab | exact ssh_mat | exact ⟨rfl, fun _ => trivial⟩ | exact ⟨rfl, fun _ => by rw [zr30]; exact ssh_vec⟩)) (fun V i hi => mt_vec (fun _ _ => rfl))
end Go.Am

set_option linter.unusedVariables false
set_option linter.unusedSimpArgs false
set_option maxRecDepth 4000
namespace Go.Am
attribute [local irreducible] retQ retQp
open Go.Proofs
theorem nk_cut {p : Int} {n : Nat} {A : Nat → Nat → Int} {b : Nat → Int} (hp : primeB p = true) (hA : ∀ i, Bp p (A i)) (hb : Bp p b) (hr : (redGo p n A n).no = n) (z : Nat) : cutF (fun a => (echGo p (n + 1) (gB n A b) n).O a n) n z = cutF (fun k => sumZ (fun j => cpM p n A k j * b j) n % p) n z := by
  unfold cutF
  by_cases hz : z < n
  · have := gB_sol hp hA hb hr hz
    unfold sS cutF at this
    rw [if_pos hz] at this
    rw [if_pos hz, if_pos hz]
    exact this
  · rw [if_neg hz, if_neg hz]
theorem c_sNakayamaOf_ok {p : Int} {n : Nat} {T : Nat → Nat → Nat → Int} {fo : Nat → Int} (hv0 : VN p n T fo) (hr : rankT p n T fo = n) : ACalls Try.prog TB 28 [algA p (n : Int) T fo] (.tup 2 (pairA (.own 0 0 n 30) (.int .i64 0))) [(0, .one (.arr n (fun _ => TB.zero 30)) (.arr n (fun i => vecA (cutF (fun k => sumZ (fun j => (cpM p n (formT p T fo)) k j * (formT p T fo) i j) n % p) n))))] := by
  have hp8 := hv0.p0
  have hn6 := hv0.n6
  have hn0 := hv0.n0
  have hFB : ∀ i, Bp p ((formT p T fo) i) := fun i => formT_Bp (by omega) i
  have hCB : ∀ r, Bp p ((cpM p n (formT p T fo)) r) := fun r => cpM_Bp hv0.hp hFB hr r
  have hE : ∀ i a, a < n → 0 ≤ (echGo p (n + 1) (gB n (formT p T fo) ((formT p T fo) i)) n).O a n ∧ (echGo p (n + 1) (gB n (formT p T fo) ((formT p T fo) i)) n).O a n < p := fun i a ha => ech_Bp (R := gB n (formT p T fo) ((formT p T fo) i)) hv0.hp (fun r _ => gB_Bp hFB (hFB i) r) (by have := (gB_one hv0.hp hFB (hFB i) hr).1; omega) n
  refine acalls_of tokTB Try.func28 rfl rfl (Nat.le_of_ble_eq_true rfl) ?_
  apply sr tokTB (by kernel_rfl)
  · intro RR hRR
    refine w_boxc (HV.eq (by constructor)) (by exact trivial) ?_
    refine w_assign (by constructor) ?_
    refine w_assign (by constructor) ?_
    exact hRR
  refine snd_seq ?_
  apply sr tokTB (by kernel_rfl)
  · intro RR hRR
    refine w_ldc rfl kn32 (by constructor) (by exact sz32.symm) (by exact ag32.symm) ?_
    refine y_call rfl (ec (ec exn)) (c_l02Code0_ok hv0 hr) ?_
    refine w_assign (by constructor) ?_
    exact hRR
  apply sr tokTB (by kernel_rfl)
  · intro RR hRR
    refine w_move (by constructor) ?_
    refine w_neq rfl rfl ?_
    exact hRR
  refine snd_cond_false rfl ?_
  refine snd_skip ?_
  apply sr tokTB (by kernel_rfl)
  · intro RR hRR
    refine w_bsl und27 kn30 (by rw [sz30]; rfl) rfl trivial trivial rfl ?_
    refine w_assign (by constructor) ?_
    exact hRR
  refine snd_seq ?_
  apply sr tokTB (by kernel_rfl)
  · intro RR hRR
    refine w_assign (by constructor) ?_
    exact hRR
  refine snd_block ?_
  refine snd_loop (S := Nat) (fun i => ([(1, .cptr (algA p (n : Int) T fo)), (5, .own 905 0 i 30), (6, .int .i64 (i : Int))], [(905, .one (.arr i (fun _ => TB.zero 30)) (.arr i (fun r => vecA (cutF (fun k => sumZ (fun j => (cpM p n (formT p T fo)) k j * (formT p T fo) r j) n % p) n))))])) (fun i => i ≤ n) (fun i => n - i) (0) (fun k i => bif Nat.beq k 905 then (19, i) else (k, i)) ?_ ?_ ?_
  · exact ⟨⟨m_calg, (by first | exact ⟨rfl, rfl, rfl, rfl⟩ | exact ⟨rfl, by omega, rfl, rfl⟩), (by first | exact m_int rfl | exact m_int (by omega) | exact m_int (by simp; done) | (exact m_int (by simp; omega))), trivial⟩, ⟨⟨rfl, (by first | exact trivial | exact ssh_vec | exact ssh_alg | exact ssh_tab | exact ssh_mat | exact ⟨rfl, fun _ => trivial⟩ | exact ⟨rfl, fun _ => by rw [zr30]; exact ssh_vec⟩), (by exact ⟨rfl, fun r h => absurd h (by omega)⟩)⟩, trivial⟩, ⟨⟨(fun h => by first | exact ⟨rfl, rfl⟩ | exact absurd h (by decide)), trivial⟩, trivial⟩⟩
  · exact Nat.zero_le _
  intro i hi0
  refine sq (env2 := [(1, .cptr (algA p (n : Int) T fo)), (5, .own 905 0 i 30), (6, .int .i64 (i : Int))]) (ol2 := [(905, .one (.arr i (fun _ => TB.zero 30)) (.arr i (fun r => vecA (cutF (fun k => sumZ (fun j => (cpM p n (formT p T fo)) k j * (formT p T fo) r j) n % p) n))))]) rfl rfl ?_
  refine snd_seq ?_
  apply sr tokTB (by kernel_rfl)
  · intro RR hRR
    refine w_move (by constructor) ?_
    refine w_fac rfl und32 rfl kn2 nz2 (by decide) rfl (by constructor) ?_
    refine w_ldc rfl kn2 (by constructor) (by exact sz2.symm) (by exact ag2.symm) ?_
    refine w_lss rfl rfl ?_
    exact hRR
  refine snd_cond _ rfl (fun hc23 => ?_) (fun hc23 => ?_)
  · try simp only [hcs] at hc23
    have lt_i : i < n := by omega
    refine snd_skip ?_
    refine snd_seq ?_
    refine snd_block ?_
    apply sr tokTB (by kernel_rfl)
    · intro RR hRR
      refine w_ldc rfl kn32 (by constructor) (by exact sz32.symm) (by exact ag32.symm) ?_
      refine w_call rfl (ec exn) (c_l02Table hv0) (.inl ⟨trivial, ⟨fun _ => trivial, fun i sh c h => (by obtain ⟨_, _, rfl⟩ := famF_some h; exact fun _ => trivial), trivial⟩⟩) rfl (by constructor) rfl ?_
      refine w_assign (by constructor) ?_
      exact hRR
    refine snd_emb (ρ := ρ0) (env2 := [(1, .cptr (algA p (n : Int) T fo)), (5, .own 905 0 i 30), (6, .int .i64 (i : Int)), (7, rowsA n n (formT p T fo))]) (ol2 := [(905, .one (.arr i (fun _ => TB.zero 30)) (.arr i (fun r => vecA (cutF (fun k => sumZ (fun j => (cpM p n (formT p T fo)) k j * (formT p T fo) r j) n % p) n))))]) ?_ ?_
    · exact ⟨⟨m_calg, ⟨rfl, rfl, rfl, rfl⟩, m_int rfl, mt_fam_fz (w := fun _ => n) (F := (formT p T fo)) ⟨ne_fst rfl, trivial⟩ (fun _ => ⟨ne_fst rfl, trivial⟩) rfl (fun r hr => fam_sh (e := 2) (b := 28000) (ol := [(905, .one (.arr i (fun _ => TB.zero 30)) (.arr i (fun r => vecA (cutF (fun k => sumZ (fun j => (cpM p n (formT p T fo)) k j * (formT p T fo) r j) n % p) n))))]) hr) (fun _ _ => rfl) (fun _ _ _ _ => rfl), trivial⟩, ⟨⟨rfl, ⟨rfl, fun _ => (by first | exact trivial | exact ssh_vec | exact ssh_alg | exact ssh_tab | exact ssh_mat | exact ⟨rfl, fun _ => trivial⟩ | exact ⟨rfl, fun _ => by rw [zr30]; exact ssh_vec⟩)⟩, ⟨rfl, fun _ _ => mt_vec (fun _ _ => rfl)⟩⟩, trivial⟩, ⟨⟨fun _ => ⟨rfl, rfl⟩, trivial⟩, trivial⟩⟩
    apply sr tokTB (by kernel_rfl)
    · intro RR hRR
      refine w_ldc rfl kn32 (by constructor) (by exact sz32.symm) (by exact ag32.symm) ?_
      refine w_call rfl (ec exn) (c_l02Table hv0) (.inl ⟨trivial, ⟨fun _ => trivial, fun i sh c h => (by obtain ⟨_, _, rfl⟩ := famF_some h; exact fun _ => trivial), trivial⟩⟩) rfl (by constructor) rfl ?_
      refine w_assign (by constructor) ?_
      exact hRR
    refine snd_seq ?_
    apply sr tokTB (by kernel_rfl)
    · intro RR hRR
      refine w_assign (by constructor) ?_
      exact hRR
    refine snd_block ?_
    refine snd_loop (S := Nat) (fun j => ([(1, .cptr (algA p (n : Int) T fo)), (5, .own 905 0 i 30), (6, .int .i64 (i : Int)), (7, rowsA n n (formT p T fo)), (8, .own 907 0 n 57), (9, .int .i64 (j : Int))], [(907, .one (ZR n) (CO 30001 n (fun r => if r < j then n + 1 else n) 2)), (30001, .many (famF n (fun r => if r < j then n + 1 else n) (mixG (gB n (formT p T fo) ((formT p T fo) i)) (formT p T fo) j))), (905, .one (.arr i (fun _ => TB.zero 30)) (.arr i (fun r => vecA (cutF (fun k => sumZ (fun j => (cpM p n (formT p T fo)) k j * (formT p T fo) r j) n % p) n))))])) (fun j => j ≤ n) (fun j => n - j) (0) (ρQ 907 30001 30000 912 n 905 905) ?_ ?_ ?_
    · exact emb_fam1 (by decide) (by decide) (by decide) (by decide) (by decide) (by decide) (by decide) (by decide) (by decide) rfl (fun r hr hne => by show AV.own (30000 + 1) r n _ = _; simp) (fun h => absurd h (Nat.lt_irrefl n)) (fun h => absurd h (Nat.lt_irrefl n)) (fun r hr hne => (fam_sh (w := fun _ => n) (F := formT p T fo) (e := 2) (b := 30000) hr).trans (by simp [mixG])) ⟨_, rfl, ⟨rfl, fun _ => (by first | exact trivial | exact ssh_vec | exact ssh_alg | exact ssh_tab | exact ssh_mat | exact ⟨rfl, fun _ => trivial⟩ | exact ⟨rfl, fun _ => by rw [zr30]; exact ssh_vec⟩)⟩, fun V => ⟨rfl, fun _ _ => mt_vec (fun _ _ => rfl)⟩⟩ ⟨m_calg, (by first | exact ⟨rfl, rfl, rfl, rfl⟩ | exact ⟨rfl, by omega, rfl, rfl⟩), (by first | exact m_int rfl | exact m_int (by omega) | exact m_int (by simp; done) | (exact m_int (by simp; omega))), (mt_rows (V := _) (fun _ _ _ _ => rfl)), (by first | exact ⟨rfl, rfl, rfl, rfl⟩ | exact ⟨rfl, by omega, rfl, rfl⟩), (by first | exact m_int rfl | exact m_int (by omega) | exact m_int (by simp; done) | (exact m_int (by simp; omega))), trivial⟩
    · exact Nat.zero_le _
    intro j hi2
    refine sq (env2 := [(1, .cptr (algA p (n : Int) T fo)), (5, .own 905 0 i 30), (6, .int .i64 (i : Int)), (7, rowsA n n (formT p T fo)), (8, .own 907 0 n 57), (9, .int .i64 (j : Int))]) (ol2 := [(907, .one (ZR n) (CO 30001 n (fun r => if r < j then n + 1 else n) 2)), (30001, .many (famF n (fun r => if r < j then n + 1 else n) (mixG (gB n (formT p T fo) ((formT p T fo) i)) (formT p T fo) j))), (905, .one (.arr i (fun _ => TB.zero 30)) (.arr i (fun r => vecA (cutF (fun k => sumZ (fun j => (cpM p n (formT p T fo)) k j * (formT p T fo) r j) n % p) n))))]) rfl rfl ?_
    refine snd_seq ?_
    apply sr tokTB (by kernel_rfl)
    · intro RR hRR
      refine w_move (by constructor) ?_
      refine w_fac rfl und32 rfl kn2 nz2 (by decide) rfl (by constructor) ?_
      refine w_ldc rfl kn2 (by constructor) (by exact sz2.symm) (by exact ag2.symm) ?_
      refine w_lss rfl rfl ?_
      exact hRR
    refine snd_cond _ rfl (fun hc33 => ?_) (fun hc33 => ?_)
    · try simp only [hcs] at hc33
      have lt_j : j < n := by omega
      refine snd_skip ?_
      refine snd_seq ?_
      refine snd_block ?_
      apply ld tokTB mixed (by kernel_rfl) (by kernel_rfl)
      · intro RR hRR
        refine w_move (by constructor) ?_
        refine w_move (by constructor) ?_
        refine w_move (by constructor) ?_
        refine w_move (by constructor) ?_
        refine w_iao rfl rfl und52 kn57 ?_ ?_
        · exact ⟨by omega, by omega⟩
        first | refine w_ldc rfl kn57 (by constructor) (by exact sz57.symm) (by exact ag57.symm) ?_ | refine w_ldp rfl kn57 rfl (by constructor) (by exact sz57.symm) (by exact ag57.symm) ?_
        refine w_move (by constructor) ?_
        refine w_move (by constructor) ?_
        refine w_iar rfl rfl und52 kn57 (by exact sz57.symm) ?_ rfl ?_
        · exact ⟨by omega, by omega⟩
        first | refine w_ldc rfl kn57 (by constructor) (by exact sz57.symm) (by exact ag57.symm) ?_ | refine w_ldp rfl kn57 rfl (by constructor) (by exact sz57.symm) (by exact ag57.symm) ?_
        refine w_move (by constructor) ?_
        refine w_iar rfl rfl und57 kn2 (by exact sz2.symm) ?_ rfl ?_
        · exact ⟨by omega, by omega⟩
        first | refine w_ldc rfl kn2 (by constructor) (by exact sz2.symm) (by exact ag2.symm) ?_ | refine w_ldp rfl kn2 rfl (by constructor) (by exact sz2.symm) (by exact ag2.symm) ?_
        refine w_bsl1 und57 kn2 (by rw [sz2]; rfl) rfl (by constructor) (by exact trivial) (by exact sz2.symm) (by first | exact trivial | exact ssh_vec | exact ⟨rfl, fun _ => trivial⟩) ?_
        refine w_app_o (k := 30001) (i := j) (n := n) (m := 1) (f := fun z => .int .i64 ((mixG (gB n (formT p T fo) ((formT p T fo) i)) (formT p T fo) j) j z)) und57 (by show AV.own 30001 j (if j < j then n + 1 else n) _ = _; rw [if_neg (Nat.lt_irrefl j)]) rfl kn2 rfl (by show famF n (fun r => if r < j then n + 1 else n) (mixG (gB n (formT p T fo) ((formT p T fo) i)) (formT p T fo) j) j = _; rw [famF_at (by omega), if_neg (Nat.lt_irrefl j)]; rfl) (fun C h => ⟨rfl, rfl, rfl, h⟩) (by rw [by2]; omega) (by omega) rfl ?_
        refine w_iao rfl rfl und52 kn57 ?_ ?_
        · exact ⟨by omega, by omega⟩
        first | refine w_stw rfl (by constructor) kn57 rfl (by exact trivial) (by first | exact trivial | exact ssh_vec | exact ssh_alg | exact ssh_tab | exact ssh_mat | exact ⟨rfl, fun _ => trivial⟩ | exact ⟨rfl, fun _ => by rw [zr30]; exact ssh_vec⟩) (by exact sz57.symm) ?_ | refine w_sti rfl rfl kn57 rfl (by exact trivial) (by exact sz57.symm) ?_ | refine w_store rfl (HV.eq (by constructor)) kn57 rfl (by exact trivial) (by first | exact trivial | exact ssh_vec | exact ssh_alg | exact ssh_tab | exact ssh_mat | exact ⟨rfl, fun _ => trivial⟩ | exact ⟨rfl, fun _ => by rw [zr30]; exact ssh_vec⟩) (by exact sz57.symm) (put_in (by first | exact put_mat | exact put_tab | exact put_alg0 | exact put_alg1 | exact put_alg2 | exact put_alg3 | exact put_alg3i | exact put_alg2ij | exact put_alg2ijk | exact put_mat2 | exact put_tab2 | exact put_tab3)) ?_ | refine w_store rfl (HV.eq (by constructor)) kn57 rfl (by exact trivial) (by exact trivial) (by exact sz57.symm) rfl ?_
        exact hRR
      apply lr tokTB (by kernel_rfl)
      · intro RR hRR
        refine w_move (by constructor) ?_
        refine y_add rfl rfl ?_
        refine w_assign (by constructor) ?_
        exact hRR
      refine ⟨j + 1, (ρQ 907 30001 907 50 j 905 905), ?_, (by omega), (by dsimp only; omega)⟩
      exact emb_fam1 (by decide) (by decide) (by decide) (by decide) (by decide) (by decide) (by decide) (by decide) (by decide) rfl (fun r hr hne => by show (bif Nat.beq r j then _ else AV.own 30001 r (if r < j then n + 1 else n) _) = _; rw [beq_ff hne]; simp only [cond_false]; rw [w1s hne]) (fun h => by show (bif Nat.beq j j then _ else _) = _; rw [Nat.beq_refl]; simp [put]) (fun h => by refine ⟨_, (by show _ = some (Z64 (if j < j + 1 then n + 1 else n), _); rw [if_pos (Nat.lt_succ_self j)]; exact rfl), fun V => ?_⟩; show Mt V (C64 (if j < j + 1 then n + 1 else n) _) _; rw [if_pos (Nat.lt_succ_self j)]; exact mt_app (fun z hz => congrArg (AV.int .i64) (by rw [mixG_self, mixG_lt _ _ (Nat.lt_succ_self j)]; unfold gB; rw [if_pos hz])) (congrArg (AV.int .i64) (by rw [mixG_lt _ _ (Nat.lt_succ_self j), gB_n]; rfl))) (fun r hr hne => by show (bif Nat.beq r j then none else famF n (fun r => if r < j then n + 1 else n) _ r) = _; rw [beq_ff hne]; simp only [cond_false]; rw [famF_at hr, w1s hne, mix1s hne]) ⟨_, rfl, ⟨rfl, fun _ => (by first | exact trivial | exact ssh_vec | exact ssh_alg | exact ssh_tab | exact ssh_mat | exact ⟨rfl, fun _ => trivial⟩ | exact ⟨rfl, fun _ => by rw [zr30]; exact ssh_vec⟩)⟩, fun V => ⟨rfl, fun _ _ => mt_vec (fun _ _ => rfl)⟩⟩ ⟨m_calg, (by first | exact ⟨rfl, rfl, rfl, rfl⟩ | exact ⟨rfl, by omega, rfl, rfl⟩), (by first | exact m_int rfl | exact m_int (by omega) | exact m_int (by simp; done) | (exact m_int (by simp; omega))), (mt_rows (V := _) (fun _ _ _ _ => rfl)), (by first | exact ⟨rfl, rfl, rfl, rfl⟩ | exact ⟨rfl, by omega, rfl, rfl⟩), (by first | exact m_int rfl | exact m_int (by omega) | exact m_int (by simp; done) | (exact m_int (by simp; omega))), trivial⟩
    · try simp only [hcs] at hc33
      have ge_j : n = j := by omega
      subst ge_j
      refine snd_exit ?_
      apply sr tokTB (by kernel_rfl)
      · intro RR hRR
        refine w_fac rfl und32 rfl kn2 nz2 (by decide) rfl (by constructor) ?_
        refine w_ldc rfl kn2 (by constructor) (by exact sz2.symm) (by exact ag2.symm) ?_
        refine w_move (by constructor) ?_
        refine w_call rfl rfl ((c_l01Solve_ok (N := n) (n := n) (S := (gB n (formT p T fo) ((formT p T fo) i))) hv0.hp (by omega) (by omega) (by omega) (fun r => gB_Bp hFB (hFB i) r) (gB_one hv0.hp hFB (hFB i) hr)).mt ⟨rfl, mt_fam0 (w := fun r => if r < n then n + 1 else n) (F := mixG (gB n (formT p T fo) ((formT p T fo) i)) (formT p T fo) n) rfl (fun r hr => famF_at (w := fun r => if r < n then n + 1 else n) (F := mixG (gB n (formT p T fo) ((formT p T fo) i)) (formT p T fo) n) hr) (fun r hr => if_pos hr) (fun r hr z hz => by rw [mixG_lt _ _ hr]), trivial⟩) (.inl ⟨nr_pair trivial trivial, ⟨fun _ => trivial, trivial⟩⟩) rfl (by constructor) rfl ?_
        refine w_move (by constructor) ?_
        refine w_ext rfl (by decide) (by constructor) ?_
        refine w_ext rfl (by decide) (by constructor) ?_
        refine w_assign (by constructor) ?_
        refine w_assign (by constructor) ?_
        exact hRR
      apply sr tokTB (by kernel_rfl)
      · intro RR hRR
        refine w_bld_a kn30 zr30 und30 kn5 (fun _ => (by exact sz5.symm)) trivial rfl (by exact sz5.symm) ?_
        refine w_alloc kn30 rfl zr30 ?_
        refine w_stw rfl (by constructor) kn30 rfl (by exact trivial) (by first | exact trivial | exact ssh_vec | exact ssh_alg | exact ssh_tab | exact ssh_mat | exact ⟨rfl, fun _ => trivial⟩ | exact ⟨rfl, fun _ => by rw [zr30]; exact ssh_vec⟩) (by exact sz30.symm) ?_
        exact hRR
      refine snd_seq ?_
      apply sr tokTB (by kernel_rfl)
      · intro RR hRR
        refine w_assign (by constructor) ?_
        exact hRR
      refine snd_block ?_
      refine snd_loop (S := Nat) (fun k => ([(1, .cptr (algA p (n : Int) T fo)), (5, .own 905 0 i 30), (6, .int .i64 (i : Int)), (10, .own 57000 0 n 2), (12, .ptr 12 0 [] 0 (vecA (fun _ => 0))), (13, .int .i64 (k : Int))], [(905, .one (.arr i (fun _ => TB.zero 30)) (.arr i (fun r => vecA (cutF (fun k => sumZ (fun j => (cpM p n (formT p T fo)) k j * (formT p T fo) r j) n % p) n)))), (57000, .one (Z64 n) (C64 n (fun a => (echGo p (n + 1) (gB n (formT p T fo) ((formT p T fo) i)) n).O a n))), (12, .one (vecA (fun _ => 0)) (vecA (cutF (fun a => (echGo p (n + 1) (gB n (formT p T fo) ((formT p T fo) i)) n).O a n) k)))])) (fun k => k ≤ n) (fun k => n - k) (0) ρ0 ?_ ?_ ?_
      · exact ⟨⟨m_calg, (by first | exact ⟨rfl, rfl, rfl, rfl⟩ | exact ⟨rfl, by omega, rfl, rfl⟩), (by first | exact m_int rfl | exact m_int (by omega) | exact m_int (by simp; done) | (exact m_int (by simp; omega))), (by first | exact ⟨rfl, rfl, rfl, rfl⟩ | exact ⟨rfl, by omega, rfl, rfl⟩), ⟨rfl, rfl, rfl, rfl, rfl⟩, (by first | exact m_int rfl | exact m_int (by omega) | exact m_int (by simp; done) | (exact m_int (by simp; omega))), trivial⟩, ⟨⟨rfl, (by first | exact trivial | exact ssh_vec | exact ssh_alg | exact ssh_tab | exact ssh_mat | exact ⟨rfl, fun _ => trivial⟩ | exact ⟨rfl, fun _ => by rw [zr30]; exact ssh_vec⟩), (by exact ⟨rfl, fun _ _ => mt_vec (fun _ _ => rfl)⟩)⟩, ⟨rfl, (by first | exact trivial | exact ssh_vec | exact ssh_alg | exact ssh_tab | exact ssh_mat | exact ⟨rfl, fun _ => trivial⟩ | exact ⟨rfl, fun _ => by rw [zr30]; exact ssh_vec⟩), (by exact mt_vec (fun _ _ => rfl))⟩, ⟨rfl, (by first | exact trivial | exact ssh_vec | exact ssh_alg | exact ssh_tab | exact ssh_mat | exact ⟨rfl, fun _ => trivial⟩ | exact ⟨rfl, fun _ => by rw [zr30]; exact ssh_vec⟩), (by exact mt_vec (fun z _ => by simp [cutF]))⟩, trivial⟩, ⟨⟨(fun h => by first | exact ⟨rfl, rfl⟩ | exact absurd h (by decide)), (fun h => by first | exact ⟨rfl, rfl⟩ | exact absurd h (by decide)), (fun h => by first | exact ⟨rfl, rfl⟩ | exact absurd h (by decide)), trivial⟩, ⟨(fun h => by first | exact ⟨rfl, rfl⟩ | exact absurd h (by decide)), (fun h => by first | exact ⟨rfl, rfl⟩ | exact absurd h (by decide)), (fun h => by first | exact ⟨rfl, rfl⟩ | exact absurd h (by decide)), trivial⟩, ⟨(fun h => by first | exact ⟨rfl, rfl⟩ | exact absurd h (by decide)), (fun h => by first | exact ⟨rfl, rfl⟩ | exact absurd h (by decide)), (fun h => by first | exact ⟨rfl, rfl⟩ | exact absurd h (by decide)), trivial⟩, trivial⟩⟩
      · exact Nat.zero_le _
      intro k hi4
      refine sq (env2 := [(1, .cptr (algA p (n : Int) T fo)), (5, .own 905 0 i 30), (6, .int .i64 (i : Int)), (10, .own 57000 0 n 2), (12, .ptr 12 0 [] 0 (vecA (fun _ => 0))), (13, .int .i64 (k : Int))]) (ol2 := [(905, .one (.arr i (fun _ => TB.zero 30)) (.arr i (fun r => vecA (cutF (fun k => sumZ (fun j => (cpM p n (formT p T fo)) k j * (formT p T fo) r j) n % p) n)))), (57000, .one (Z64 n) (C64 n (fun a => (echGo p (n + 1) (gB n (formT p T fo) ((formT p T fo) i)) n).O a n))), (12, .one (vecA (fun _ => 0)) (vecA (cutF (fun a => (echGo p (n + 1) (gB n (formT p T fo) ((formT p T fo) i)) n).O a n) k)))]) rfl rfl ?_
      refine snd_seq ?_
      apply sr tokTB (by kernel_rfl)
      · intro RR hRR
        refine w_move (by constructor) ?_
        refine w_fac rfl und32 rfl kn2 nz2 (by decide) rfl (by constructor) ?_
        refine w_ldc rfl kn2 (by constructor) (by exact sz2.symm) (by exact ag2.symm) ?_
        refine w_lss rfl rfl ?_
        exact hRR
      refine snd_cond _ rfl (fun hc63 => ?_) (fun hc63 => ?_)
      · try simp only [hcs] at hc63
        have lt_k : k < n := by omega
        refine snd_skip ?_
        refine snd_seq ?_
        refine snd_block ?_
        apply lr tokTB (by kernel_rfl)
        · intro RR hRR
          refine w_move (by constructor) ?_
          refine w_move (by constructor) ?_
          refine w_move (by constructor) ?_
          refine w_iao rfl rfl und57 kn2 ?_ ?_
          · exact ⟨by omega, by omega⟩
          first | refine w_ldc rfl kn2 (by constructor) (by exact sz2.symm) (by exact ag2.symm) ?_ | refine w_ldp rfl kn2 rfl (by constructor) (by exact sz2.symm) (by exact ag2.symm) ?_
          refine w_conv rfl und2 und5 (by exact w8 (hE i k (by omega)).1 (by have := (hE i k (by omega)).2; exact Int.lt_of_lt_of_le this (by omega))) ?_
          refine w_iap rfl rfl und30 kn5 rfl (by exact sz5.symm) rfl ?_ ?_
          · exact ⟨by omega, by omega⟩
          first | refine w_stw rfl (by constructor) kn5 rfl (by exact trivial) (by first | exact trivial | exact ssh_vec | exact ssh_alg | exact ssh_tab | exact ssh_mat | exact ⟨rfl, fun _ => trivial⟩ | exact ⟨rfl, fun _ => by rw [zr30]; exact ssh_vec⟩) (by exact sz5.symm) ?_ | refine w_sti rfl rfl kn5 rfl (by exact trivial) (by exact sz5.symm) ?_ | refine w_store rfl (HV.eq (by constructor)) kn5 rfl (by exact trivial) (by first | exact trivial | exact ssh_vec | exact ssh_alg | exact ssh_tab | exact ssh_mat | exact ⟨rfl, fun _ => trivial⟩ | exact ⟨rfl, fun _ => by rw [zr30]; exact ssh_vec⟩) (by exact sz5.symm) (put_in (by first | exact put_mat | exact put_tab | exact put_alg0 | exact put_alg1 | exact put_alg2 | exact put_alg3 | exact put_alg3i | exact put_alg2ij | exact put_alg2ijk | exact put_mat2 | exact put_tab2 | exact put_tab3)) ?_ | refine w_store rfl (HV.eq (by constructor)) kn5 rfl (by exact trivial) (by exact trivial) (by exact sz5.symm) rfl ?_
          exact hRR
        apply lr tokTB (by kernel_rfl)
        · intro RR hRR
          refine w_move (by constructor) ?_
          refine y_add rfl rfl ?_
          refine w_assign (by constructor) ?_
          exact hRR
        refine ⟨k + 1, ρ0, ?_, (by omega), (by dsimp only; omega)⟩
        exact ⟨⟨m_calg, (by first | exact ⟨rfl, rfl, rfl, rfl⟩ | exact ⟨rfl, by omega, rfl, rfl⟩), (by first | exact m_int rfl | exact m_int (by omega) | exact m_int (by simp; done) | (exact m_int (by simp; omega))), (by first | exact ⟨rfl, rfl, rfl, rfl⟩ | exact ⟨rfl, by omega, rfl, rfl⟩), ⟨rfl, rfl, rfl, rfl, rfl⟩, (by first | exact m_int rfl | exact m_int (by omega) | exact m_int (by simp; done) | (exact m_int (by simp; omega))), trivial⟩, ⟨⟨rfl, (by first | exact trivial | exact ssh_vec | exact ssh_alg | exact ssh_tab | exact ssh_mat | exact ⟨rfl, fun _ => trivial⟩ | exact ⟨rfl, fun _ => by rw [zr30]; exact ssh_vec⟩), (by exact ⟨rfl, fun _ _ => mt_vec (fun _ _ => rfl)⟩)⟩, ⟨rfl, (by first | exact trivial | exact ssh_vec | exact ssh_alg | exact ssh_tab | exact ssh_mat | exact ⟨rfl, fun _ => trivial⟩ | exact ⟨rfl, fun _ => by rw [zr30]; exact ssh_vec⟩), (by exact mt_vec (fun _ _ => rfl))⟩, ⟨rfl, (by first | exact trivial | exact ssh_vec | exact ssh_alg | exact ssh_tab | exact ssh_mat | exact ⟨rfl, fun _ => trivial⟩ | exact ⟨rfl, fun _ => by rw [zr30]; exact ssh_vec⟩), (by exact mt_vec (fun z _ => upd_cut _ k z))⟩, trivial⟩, ⟨⟨(fun h => by first | exact ⟨rfl, rfl⟩ | exact absurd h (by decide)), (fun h => by first | exact ⟨rfl, rfl⟩ | exact absurd h (by decide)), (fun h => by first | exact ⟨rfl, rfl⟩ | exact absurd h (by decide)), trivial⟩, ⟨(fun h => by first | exact ⟨rfl, rfl⟩ | exact absurd h (by decide)), (fun h => by first | exact ⟨rfl, rfl⟩ | exact absurd h (by decide)), (fun h => by first | exact ⟨rfl, rfl⟩ | exact absurd h (by decide)), trivial⟩, ⟨(fun h => by first | exact ⟨rfl, rfl⟩ | exact absurd h (by decide)), (fun h => by first | exact ⟨rfl, rfl⟩ | exact absurd h (by decide)), (fun h => by first | exact ⟨rfl, rfl⟩ | exact absurd h (by decide)), trivial⟩, trivial⟩⟩
      · try simp only [hcs] at hc63
        have ge_k : n = k := by omega
        subst ge_k
        refine snd_exit ?_
        apply lr tokTB (by kernel_rfl)
        · intro RR hRR
          refine w_move (by constructor) ?_
          refine w_ldp rfl kn30 rfl (by constructor) (by exact sz30.symm) (by exact ag30.symm) ?_
          refine w_bsl1 und27 kn30 (by rw [sz30]; rfl) rfl (by constructor) (by exact trivial) (by exact sz30.symm) (by first | exact trivial | exact ssh_vec | exact ⟨rfl, fun _ => trivial⟩) ?_
          refine w_app_o und27 rfl rfl kn30 rfl rfl (fun C h => ⟨rfl, rfl, rfl, h⟩) (by rw [by30]; omega) (by omega) rfl ?_
          refine w_assign (by constructor) ?_
          exact hRR
        apply lr tokTB (by kernel_rfl)
        · intro RR hRR
          refine w_move (by constructor) ?_
          refine y_add rfl rfl ?_
          refine w_assign (by constructor) ?_
          exact hRR
        refine ⟨i + 1, (fun k i => bif Nat.beq k 905 then (76, i) else (k, i)), ?_, (by omega), (by dsimp only; omega)⟩
        exact ⟨⟨m_calg, (by first | exact ⟨rfl, rfl, rfl, rfl⟩ | exact ⟨rfl, by omega, rfl, rfl⟩), (by first | exact m_int rfl | exact m_int (by omega) | exact m_int (by simp; done) | (exact m_int (by simp; omega))), trivial⟩, ⟨⟨rfl, (by first | exact trivial | exact ssh_vec | exact ssh_alg | exact ssh_tab | exact ssh_mat | exact ⟨rfl, fun _ => trivial⟩ | exact ⟨rfl, fun _ => by rw [zr30]; exact ssh_vec⟩), (by exact mt_app' (by omega) (fun _ _ => mt_vec (fun _ _ => rfl)) (mt_vec (fun z hz => nk_cut hv0.hp hFB (hFB i) hr z)))⟩, trivial⟩, ⟨⟨(fun h => by first | exact ⟨rfl, rfl⟩ | exact absurd h (by decide)), trivial⟩, trivial⟩⟩
  · try simp only [hcs] at hc23
    have ge_i : n = i := by omega
    subst ge_i
    refine snd_exit ?_
    apply sr tokTB (by kernel_rfl)
    · intro RR hRR
      refine w_move (by constructor) ?_
      refine w_assign (by constructor) ?_
      refine w_assign (by constructor) ?_
      exact hRR
    refine snd_ret ?_
    show retQ TB _ _ _ _ _ _
    show retQ TB _ _ _ _ _ _
    exact rt_own_u rfl (fun V => rfl) rfl rfl (fun _ => (by first | exact trivial | exact ssh_vec | exact ssh_alg | exact ssh_tab | exact ssh_mat | exact ⟨rfl, fun _ => trivial⟩ | exact ⟨rfl, fun _ => by rw [zr30]; exact ssh_vec⟩)) (fun V i hi => mt_vec (fun _ _ => rfl))
end Go.Am

set_option linter.unusedVariables false
set_option linter.unusedSimpArgs false
set_option maxRecDepth 4000
namespace Go.Am
attribute [local irreducible] retQ retQp
open Go.Proofs
theorem c_sNakayamaOf_nf {p : Int} {n : Nat} {T : Nat → Nat → Nat → Int} {fo : Nat → Int} (hv0 : VN p n T fo) (hr : ¬ rankT p n T fo = n) : ACalls Try.prog TB 28 [algA p (n : Int) T fo] (.tup 2 (pairA .nilsl (.int .i64 5))) [] := by
  refine acalls_of tokTB Try.func28 rfl rfl (Nat.le_of_ble_eq_true rfl) ?_
  apply sr tokTB (by kernel_rfl)
  · intro RR hRR
    refine w_boxc (HV.eq (by constructor)) (by exact trivial) ?_
    refine w_assign (by constructor) ?_
    refine w_assign (by constructor) ?_
    exact hRR
  refine snd_seq ?_
  apply sr tokTB (by kernel_rfl)
  · intro RR hRR
    refine w_ldc rfl kn32 (by constructor) (by exact sz32.symm) (by exact ag32.symm) ?_
    refine y_call rfl (ec (ec exn)) (c_l02Code0_nf hv0 hr) ?_
    refine w_assign (by constructor) ?_
    exact hRR
  apply sr tokTB (by kernel_rfl)
  · intro RR hRR
    refine w_move (by constructor) ?_
    refine w_neq rfl rfl ?_
    exact hRR
  refine snd_cond_true rfl ?_
  apply sr tokTB (by kernel_rfl)
  · intro RR hRR
    refine w_move (by constructor) ?_
    refine w_assign (by constructor) ?_
    refine w_assign (by constructor) ?_
    exact hRR
  refine snd_ret ?_
  exact rt_tt (T := TB) (fun V => rfl) (fun V => rfl)
theorem c_sNakayamaOf_no {p n : Int} {T : Nat → Nat → Nat → Int} {fo : Nat → Int} (hT : RB T) (hf : RV fo) (hz : ¬ VZ p n T fo 0 (fun _ _ => 0)) : ACalls Try.prog TB 28 [algA p n T fo] (.tup 2 (pairA .nilsl (.int .i64 1))) [] := by
  refine acalls_of tokTB Try.func28 rfl rfl (Nat.le_of_ble_eq_true rfl) ?_
  apply sr tokTB (by kernel_rfl)
  · intro RR hRR
    refine w_boxc (HV.eq (by constructor)) (by exact trivial) ?_
    refine w_assign (by constructor) ?_
    refine w_assign (by constructor) ?_
    exact hRR
  refine snd_seq ?_
  apply sr tokTB (by kernel_rfl)
  · intro RR hRR
    refine w_ldc rfl kn32 (by constructor) (by exact sz32.symm) (by exact ag32.symm) ?_
    refine y_call rfl (ec (ec exn)) (c_l02Code0_no hT hf hz) ?_
    refine w_assign (by constructor) ?_
    exact hRR
  apply sr tokTB (by kernel_rfl)
  · intro RR hRR
    refine w_move (by constructor) ?_
    refine w_neq rfl rfl ?_
    exact hRR
  refine snd_cond_true rfl ?_
  apply sr tokTB (by kernel_rfl)
  · intro RR hRR
    refine w_move (by constructor) ?_
    refine w_assign (by constructor) ?_
    refine w_assign (by constructor) ?_
    exact hRR
  refine snd_ret ?_
  exact rt_tt (T := TB) (fun V => rfl) (fun V => rfl)
theorem c_iNakayamaOf_nf {p : Int} {n : Nat} {T : Nat → Nat → Nat → Int} {fo : Nat → Int} (hv0 : VN p n T fo) (hr : ¬ rankT p n T fo = n) : ACalls Try.prog TB 29 [algA p (n : Int) T fo] (.tup 2 (pairA .nilsl (.int .i64 5))) [] := by
  refine acalls_of tokTB Try.func29 rfl rfl (Nat.le_of_ble_eq_true rfl) ?_
  apply sr tokTB (by kernel_rfl)
  · intro RR hRR
    refine w_boxc (HV.eq (by constructor)) (by exact trivial) ?_
    refine w_assign (by constructor) ?_
    refine w_assign (by constructor) ?_
    exact hRR
  refine snd_seq ?_
  apply sr tokTB (by kernel_rfl)
  · intro RR hRR
    refine w_ldc rfl kn32 (by constructor) (by exact sz32.symm) (by exact ag32.symm) ?_
    refine y_call rfl (ec (ec exn)) (c_stated0_nf hv0 hr) ?_
    refine w_assign (by constructor) ?_
    exact hRR
  apply sr tokTB (by kernel_rfl)
  · intro RR hRR
    refine w_move (by constructor) ?_
    refine w_neq rfl rfl ?_
    exact hRR
  refine snd_cond_true rfl ?_
  apply sr tokTB (by kernel_rfl)
  · intro RR hRR
    refine w_move (by constructor) ?_
    refine w_assign (by constructor) ?_
    refine w_assign (by constructor) ?_
    exact hRR
  refine snd_ret ?_
  exact rt_tt (T := TB) (fun V => rfl) (fun V => rfl)
theorem c_iNakayamaOf_no {p n : Int} {T : Nat → Nat → Nat → Int} {fo : Nat → Int} (hT : RB T) (hf : RV fo) (hz : ¬ VZ p n T fo 0 (fun _ _ => 0)) : ACalls Try.prog TB 29 [algA p n T fo] (.tup 2 (pairA .nilsl (.int .i64 1))) [] := by
  refine acalls_of tokTB Try.func29 rfl rfl (Nat.le_of_ble_eq_true rfl) ?_
  apply sr tokTB (by kernel_rfl)
  · intro RR hRR
    refine w_boxc (HV.eq (by constructor)) (by exact trivial) ?_
    refine w_assign (by constructor) ?_
    refine w_assign (by constructor) ?_
    exact hRR
  refine snd_seq ?_
  apply sr tokTB (by kernel_rfl)
  · intro RR hRR
    refine w_ldc rfl kn32 (by constructor) (by exact sz32.symm) (by exact ag32.symm) ?_
    refine y_call rfl (ec (ec exn)) (c_stated0_no hT hf hz) ?_
    refine w_assign (by constructor) ?_
    exact hRR
  apply sr tokTB (by kernel_rfl)
  · intro RR hRR
    refine w_move (by constructor) ?_
    refine w_neq rfl rfl ?_
    exact hRR
  refine snd_cond_true rfl ?_
  apply sr tokTB (by kernel_rfl)
  · intro RR hRR
    refine w_move (by constructor) ?_
    refine w_assign (by constructor) ?_
    refine w_assign (by constructor) ?_
    exact hRR
  refine snd_ret ?_
  exact rt_tt (T := TB) (fun V => rfl) (fun V => rfl)
theorem lNakayamaOf_ok {p : Int} {n : Nat} {T : Nat → Nat → Nat → Int} {fo : Nat → Int} (hv0 : VN p n T fo) (hr : rankT p n T fo = n) : ACalls Try.prog TB 6 [algA p (n : Int) T fo] (.bool true) [] := by
  refine acalls_of tokTB Try.func6 rfl rfl (Nat.le_of_ble_eq_true rfl) ?_
  apply sr tokTB (by kernel_rfl)
  · intro RR hRR
    refine w_boxc (HV.eq (by constructor)) (by exact trivial) ?_
    refine w_assign (by constructor) ?_
    exact hRR
  apply sr tokTB (by kernel_rfl)
  · intro RR hRR
    refine w_ldc rfl kn26 (by constructor) (by exact sz26.symm) (by exact ag26.symm) ?_
    refine y_call rfl (ec exn) (c_toAlgebra) ?_
    refine w_call rfl (ec exn) (c_sNakayamaOf_ok hv0 hr) (.inl ⟨nr_pair trivial trivial, ⟨fun _ _ => trivial, trivial⟩⟩) rfl (by constructor) rfl ?_
    refine w_move (by constructor) ?_
    refine w_ext rfl (by decide) (by constructor) ?_
    refine w_ext rfl (by decide) (by constructor) ?_
    refine w_assign (by constructor) ?_
    refine w_assign (by constructor) ?_
    exact hRR
  apply sr tokTB (by kernel_rfl)
  · intro RR hRR
    refine w_ldc rfl kn26 (by constructor) (by exact sz26.symm) (by exact ag26.symm) ?_
    refine y_call rfl (ec exn) (c_toAlgebra) ?_
    refine w_call rfl (ec exn) (c_iNakayamaOf_ok hv0 hr) (.inl ⟨nr_pair trivial trivial, ⟨fun _ _ => trivial, trivial⟩⟩) rfl (by constructor) rfl ?_
    refine w_move (by constructor) ?_
    refine w_ext rfl (by decide) (by constructor) ?_
    refine w_ext rfl (by decide) (by constructor) ?_
    refine w_assign (by constructor) ?_
    refine w_assign (by constructor) ?_
    exact hRR
  refine snd_seq ?_
  apply srG (env' := (31, .bool (!true || decide ((0 : Int) ≠ 0))) :: (30, .any) :: (29, .any) :: (28, .any) :: (27, _) :: (26, _) :: (25, _) :: (24, _) :: (23, _) :: _) tokTB (by kernel_rfl)
  · intro RR hRR
    refine w_move (by constructor) ?_
    refine w_move (by constructor) ?_
    refine y_call rfl rfl ((c_eqVectorS (N := n) (R := (fun i => cutF (fun k => sumZ (fun j => (cpM p n (formT p T fo)) k j * (formT p T fo) i j) n % p) n)) (S := (fun i => cutF (fun k => sumZ (fun j => (cpM p n (formT p T fo)) k j * (formT p T fo) i j) n % p) n)) (by have := hv0.n6; omega) (fun i _ => fun j _ => rfl)).mt ⟨mt_vl0 rfl, mt_vl0 rfl, trivial⟩) ?_
    refine w_not rfl ?_
    refine w_move (by constructor) ?_
    refine w_g rfl rfl (fun hg4 => ?_) (fun hg4 => ?_)
    · skip
      refine w_move (by constructor) ?_
      refine w_g_on rfl rfl hg4 ?_
      refine w_move (by constructor) ?_
      refine w_g_on rfl rfl hg4 ?_
      refine w_neq rfl rfl ?_
      refine w_pick_0 rfl hg4 (by constructor) ?_
      try simp only [Int.toNat_natCast] at hg4
      exact hRR _ (EL.cons (.inr (by first | rfl | (simp only [hg4, els]; done) | (simp only [hg4, els]; rfl) | simp [hg4])) (EL.cons (.inl rfl) (EL.cons (.inl rfl) (EL.cons (.inl rfl) (EL.cons (.inr rfl) (EL.cons (.inr rfl) (EL.cons (.inr rfl) (EL.cons (.inr rfl) (EL.cons (.inr rfl) (EL.refl _))))))))))
    · have hg4 := eq_true_of_ne_false hg4
      refine w_g_off rfl rfl (by rw [hg4]; decide) ?_
      refine w_g_off rfl rfl (by rw [hg4]; decide) ?_
      refine w_pick_1 rfl hg4 (by constructor) ?_
      try simp only [Int.toNat_natCast] at hg4
      exact hRR _ (EL.cons (.inr (by first | rfl | (simp only [hg4, els]; done) | (simp only [hg4, els]; rfl) | simp [hg4])) (EL.cons (.inl rfl) (EL.cons (.inl rfl) (EL.cons (.inl rfl) (EL.cons (.inr rfl) (EL.cons (.inr rfl) (EL.cons (.inr rfl) (EL.cons (.inr rfl) (EL.cons (.inr rfl) (EL.refl _))))))))))
  refine snd_cond _ rfl (fun hc31 => ?_) (fun hc31 => ?_)
  · skip
    exact absurd hc31 (by simp)
  · skip
    refine snd_skip ?_
    apply sr tokTB (by kernel_rfl)
    · intro RR hRR
      refine w_assign (by constructor) ?_
      exact hRR
    apply srD tokTB (ops1 := [_, _]) (ops2 := [_]) (by kernel_rfl) rfl rfl
    · intro RR hRR
      refine w_move (by constructor) ?_
      refine w_move (by constructor) ?_
      exact hRR
    · exact mut_mid1 tokTB (c_markVectorS (N := n) (R := (fun i => cutF (fun k => sumZ (fun j => (cpM p n (formT p T fo)) k j * (formT p T fo) i j) n % p) n)) (k := 1) (by have := hv0.n6; omega) (by omega)) (args := [.tmp 33]) (k := 21000) (i := 0) rfl rfl ⟨trivial, trivial⟩ trivial (fun _ _ => trivial) (fun _ _ => trivial) rfl
    · intro RR hRR
      refine w_assign (by constructor) ?_
      exact hRR
    apply sr tokTB (by kernel_rfl)
    · intro RR hRR
      refine w_assign (by constructor) ?_
      exact hRR
    apply sr tokTB (by kernel_rfl)
    · intro RR hRR
      refine w_move (by constructor) ?_
      refine w_move (by constructor) ?_
      refine y_call rfl rfl ((c_heldVectorS (N := n) (R := mk8 1) (k := 1) (by have := hv0.n6; omega) (by omega) (fun i _ j _ => rfl)).mt ⟨mt_vl0 rfl, mt_int0, trivial⟩) ?_
      refine w_assign (by constructor) ?_
      exact hRR
    refine snd_seq ?_
    apply sr tokTB (by kernel_rfl)
    · intro RR hRR
      refine w_move (by constructor) ?_
      refine w_lss rfl rfl ?_
      exact hRR
    refine snd_cond_false (by exact congrArg AV.bool (decide_eq_false (by omega))) ?_
    refine snd_skip ?_
    refine snd_seq ?_
    apply sr tokTB (by kernel_rfl)
    · intro RR hRR
      refine w_move (by constructor) ?_
      refine w_move (by constructor) ?_
      refine w_neq rfl rfl ?_
      exact hRR
    refine snd_cond_false (by exact congrArg AV.bool (decide_eq_false (by simp))) ?_
    refine snd_skip ?_
    apply sr tokTB (by kernel_rfl)
    · intro RR hRR
      refine w_ldc rfl kn26 (by constructor) (by exact sz26.symm) (by exact ag26.symm) ?_
      refine y_call rfl (ec exn) (c_toAlgebra) ?_
      refine w_call rfl (ec exn) (c_iNakayamaOf_ok hv0 hr) (.inl ⟨nr_pair trivial trivial, ⟨fun _ _ => trivial, trivial⟩⟩) rfl (by constructor) rfl ?_
      refine w_move (by constructor) ?_
      refine w_ext rfl (by decide) (by constructor) ?_
      refine w_ext rfl (by decide) (by constructor) ?_
      refine w_assign (by constructor) ?_
      refine w_assign (by constructor) ?_
      exact hRR
    refine snd_seq ?_
    apply srG (env' := (57, .bool (!true || decide ((0 : Int) ≠ 0))) :: (56, .any) :: (55, .any) :: (54, .any) :: (53, _) :: (52, _) :: (51, _) :: (50, _) :: (49, _) :: _) tokTB (by kernel_rfl)
    · intro RR hRR
      refine w_move (by constructor) ?_
      refine w_move (by constructor) ?_
      refine y_call rfl rfl ((c_eqVectorS (N := n) (R := (fun i => cutF (fun k => sumZ (fun j => (cpM p n (formT p T fo)) k j * (formT p T fo) i j) n % p) n)) (S := (fun i => cutF (fun k => sumZ (fun j => (cpM p n (formT p T fo)) k j * (formT p T fo) i j) n % p) n)) (by have := hv0.n6; omega) (fun i _ => fun j _ => rfl)).mt ⟨mt_vl0 rfl, mt_vl0 rfl, trivial⟩) ?_
      refine w_not rfl ?_
      refine w_move (by constructor) ?_
      refine w_g rfl rfl (fun hg4 => ?_) (fun hg4 => ?_)
      · skip
        refine w_move (by constructor) ?_
        refine w_g_on rfl rfl hg4 ?_
        refine w_move (by constructor) ?_
        refine w_g_on rfl rfl hg4 ?_
        refine w_neq rfl rfl ?_
        refine w_pick_0 rfl hg4 (by constructor) ?_
        try simp only [Int.toNat_natCast] at hg4
        exact hRR _ (EL.cons (.inr (by first | rfl | (simp only [hg4, els]; done) | (simp only [hg4, els]; rfl) | simp [hg4])) (EL.cons (.inl rfl) (EL.cons (.inl rfl) (EL.cons (.inl rfl) (EL.cons (.inr rfl) (EL.cons (.inr rfl) (EL.cons (.inr rfl) (EL.cons (.inr rfl) (EL.cons (.inr rfl) (EL.refl _))))))))))
      · have hg4 := eq_true_of_ne_false hg4
        refine w_g_off rfl rfl (by rw [hg4]; decide) ?_
        refine w_g_off rfl rfl (by rw [hg4]; decide) ?_
        refine w_pick_1 rfl hg4 (by constructor) ?_
        try simp only [Int.toNat_natCast] at hg4
        exact hRR _ (EL.cons (.inr (by first | rfl | (simp only [hg4, els]; done) | (simp only [hg4, els]; rfl) | simp [hg4])) (EL.cons (.inl rfl) (EL.cons (.inl rfl) (EL.cons (.inl rfl) (EL.cons (.inr rfl) (EL.cons (.inr rfl) (EL.cons (.inr rfl) (EL.cons (.inr rfl) (EL.cons (.inr rfl) (EL.refl _))))))))))
    refine snd_cond _ rfl (fun hc57 => ?_) (fun hc57 => ?_)
    · skip
      exact absurd hc57 (by simp)
    · skip
      refine snd_skip ?_
      apply sr tokTB (by kernel_rfl)
      · intro RR hRR
        refine w_assign (by constructor) ?_
        exact hRR
      apply sr tokTB (by kernel_rfl)
      · intro RR hRR
        refine w_move (by constructor) ?_
        refine w_move (by constructor) ?_
        refine y_call rfl rfl ((c_heldVectorS (N := n) (R := mk8 1) (k := 1) (by have := hv0.n6; omega) (by omega) (fun i _ j _ => rfl)).mt ⟨mt_vl0 rfl, mt_int0, trivial⟩) ?_
        refine w_assign (by constructor) ?_
        exact hRR
      refine snd_seq ?_
      apply sr tokTB (by kernel_rfl)
      · intro RR hRR
        refine w_move (by constructor) ?_
        refine w_lss rfl rfl ?_
        exact hRR
      refine snd_cond_false (by exact congrArg AV.bool (decide_eq_false (by omega))) ?_
      refine snd_skip ?_
      refine snd_seq ?_
      apply sr tokTB (by kernel_rfl)
      · intro RR hRR
        refine w_move (by constructor) ?_
        refine w_move (by constructor) ?_
        refine w_neq rfl rfl ?_
        exact hRR
      refine snd_cond_false (by exact congrArg AV.bool (decide_eq_false (by simp))) ?_
      refine snd_skip ?_
      apply sr tokTB (by kernel_rfl)
      · intro RR hRR
        refine w_assign (by constructor) ?_
        exact hRR
      refine snd_ret ?_
      exact rt (T := TB) (fun V => rfl)
theorem lNakayamaOf_nf {p : Int} {n : Nat} {T : Nat → Nat → Nat → Int} {fo : Nat → Int} (hv0 : VN p n T fo) (hr : ¬ rankT p n T fo = n) : ACalls Try.prog TB 6 [algA p (n : Int) T fo] (.bool true) [] := by
  refine acalls_of tokTB Try.func6 rfl rfl (Nat.le_of_ble_eq_true rfl) ?_
  apply sr tokTB (by kernel_rfl)
  · intro RR hRR
    refine w_boxc (HV.eq (by constructor)) (by exact trivial) ?_
    refine w_assign (by constructor) ?_
    exact hRR
  apply sr tokTB (by kernel_rfl)
  · intro RR hRR
    refine w_ldc rfl kn26 (by constructor) (by exact sz26.symm) (by exact ag26.symm) ?_
    refine y_call rfl (ec exn) (c_toAlgebra) ?_
    refine y_call rfl (ec exn) (c_sNakayamaOf_nf hv0 hr) ?_
    refine w_move (by constructor) ?_
    refine w_ext rfl (by decide) (by constructor) ?_
    refine w_ext rfl (by decide) (by constructor) ?_
    refine w_assign (by constructor) ?_
    refine w_assign (by constructor) ?_
    exact hRR
  apply sr tokTB (by kernel_rfl)
  · intro RR hRR
    refine w_ldc rfl kn26 (by constructor) (by exact sz26.symm) (by exact ag26.symm) ?_
    refine y_call rfl (ec exn) (c_toAlgebra) ?_
    refine y_call rfl (ec exn) (c_iNakayamaOf_nf hv0 hr) ?_
    refine w_move (by constructor) ?_
    refine w_ext rfl (by decide) (by constructor) ?_
    refine w_ext rfl (by decide) (by constructor) ?_
    refine w_assign (by constructor) ?_
    refine w_assign (by constructor) ?_
    exact hRR
  refine snd_seq ?_
  apply srG (env' := (31, .bool (!true || decide ((5 : Int) ≠ 5))) :: (30, .any) :: (29, .any) :: (28, .any) :: (27, _) :: (26, _) :: (25, _) :: (24, _) :: (23, _) :: _) tokTB (by kernel_rfl)
  · intro RR hRR
    refine w_move (by constructor) ?_
    refine w_move (by constructor) ?_
    refine y_call rfl rfl ((c_eqVectorS (N := 0) (R := (fun _ _ => 0)) (S := (fun _ _ => 0)) (by omega) (fun i h => absurd h (by omega))).mt ⟨mt_nil0, mt_nil0, trivial⟩) ?_
    refine w_not rfl ?_
    refine w_move (by constructor) ?_
    refine w_g rfl rfl (fun hg4 => ?_) (fun hg4 => ?_)
    · skip
      refine w_move (by constructor) ?_
      refine w_g_on rfl rfl hg4 ?_
      refine w_move (by constructor) ?_
      refine w_g_on rfl rfl hg4 ?_
      refine w_neq rfl rfl ?_
      refine w_pick_0 rfl hg4 (by constructor) ?_
      try simp only [Int.toNat_natCast] at hg4
      exact hRR _ (EL.cons (.inr (by first | rfl | (simp only [hg4, els]; done) | (simp only [hg4, els]; rfl) | simp [hg4])) (EL.cons (.inl rfl) (EL.cons (.inl rfl) (EL.cons (.inl rfl) (EL.cons (.inr rfl) (EL.cons (.inr rfl) (EL.cons (.inr rfl) (EL.cons (.inr rfl) (EL.cons (.inr rfl) (EL.refl _))))))))))
    · have hg4 := eq_true_of_ne_false hg4
      refine w_g_off rfl rfl (by rw [hg4]; decide) ?_
      refine w_g_off rfl rfl (by rw [hg4]; decide) ?_
      refine w_pick_1 rfl hg4 (by constructor) ?_
      try simp only [Int.toNat_natCast] at hg4
      exact hRR _ (EL.cons (.inr (by first | rfl | (simp only [hg4, els]; done) | (simp only [hg4, els]; rfl) | simp [hg4])) (EL.cons (.inl rfl) (EL.cons (.inl rfl) (EL.cons (.inl rfl) (EL.cons (.inr rfl) (EL.cons (.inr rfl) (EL.cons (.inr rfl) (EL.cons (.inr rfl) (EL.cons (.inr rfl) (EL.refl _))))))))))
  refine snd_cond _ rfl (fun hc31 => ?_) (fun hc31 => ?_)
  · skip
    exact absurd hc31 (by simp)
  · skip
    refine snd_skip ?_
    apply sr tokTB (by kernel_rfl)
    · intro RR hRR
      refine w_assign (by constructor) ?_
      exact hRR
    apply sr tokTB (by kernel_rfl)
    · intro RR hRR
      refine w_move (by constructor) ?_
      refine w_move (by constructor) ?_
      refine y_call rfl (ec (ec exn)) (c_markNilVectorS (k := 1)) ?_
      refine w_assign (by constructor) ?_
      exact hRR
    apply sr tokTB (by kernel_rfl)
    · intro RR hRR
      refine w_assign (by constructor) ?_
      exact hRR
    apply sr tokTB (by kernel_rfl)
    · intro RR hRR
      refine w_move (by constructor) ?_
      refine w_move (by constructor) ?_
      refine y_call rfl rfl ((c_heldVectorS (N := 0) (R := (fun _ _ => 0)) (k := 1) (by omega) (by omega) (fun i h => absurd h (by omega))).mt ⟨mt_nil0, mt_int0, trivial⟩) ?_
      refine w_assign (by constructor) ?_
      exact hRR
    refine snd_seq ?_
    apply sr tokTB (by kernel_rfl)
    · intro RR hRR
      refine w_move (by constructor) ?_
      refine w_lss rfl rfl ?_
      exact hRR
    refine snd_cond_false (by exact congrArg AV.bool (decide_eq_false (by omega))) ?_
    refine snd_skip ?_
    refine snd_seq ?_
    apply sr tokTB (by kernel_rfl)
    · intro RR hRR
      refine w_move (by constructor) ?_
      refine w_move (by constructor) ?_
      refine w_neq rfl rfl ?_
      exact hRR
    refine snd_cond_false (by exact congrArg AV.bool (decide_eq_false (by simp))) ?_
    refine snd_skip ?_
    apply sr tokTB (by kernel_rfl)
    · intro RR hRR
      refine w_ldc rfl kn26 (by constructor) (by exact sz26.symm) (by exact ag26.symm) ?_
      refine y_call rfl (ec exn) (c_toAlgebra) ?_
      refine y_call rfl (ec exn) (c_iNakayamaOf_nf hv0 hr) ?_
      refine w_move (by constructor) ?_
      refine w_ext rfl (by decide) (by constructor) ?_
      refine w_ext rfl (by decide) (by constructor) ?_
      refine w_assign (by constructor) ?_
      refine w_assign (by constructor) ?_
      exact hRR
    refine snd_seq ?_
    apply srG (env' := (57, .bool (!true || decide ((5 : Int) ≠ 5))) :: (56, .any) :: (55, .any) :: (54, .any) :: (53, _) :: (52, _) :: (51, _) :: (50, _) :: (49, _) :: _) tokTB (by kernel_rfl)
    · intro RR hRR
      refine w_move (by constructor) ?_
      refine w_move (by constructor) ?_
      refine y_call rfl rfl ((c_eqVectorS (N := 0) (R := (fun _ _ => 0)) (S := (fun _ _ => 0)) (by omega) (fun i h => absurd h (by omega))).mt ⟨mt_nil0, mt_nil0, trivial⟩) ?_
      refine w_not rfl ?_
      refine w_move (by constructor) ?_
      refine w_g rfl rfl (fun hg4 => ?_) (fun hg4 => ?_)
      · skip
        refine w_move (by constructor) ?_
        refine w_g_on rfl rfl hg4 ?_
        refine w_move (by constructor) ?_
        refine w_g_on rfl rfl hg4 ?_
        refine w_neq rfl rfl ?_
        refine w_pick_0 rfl hg4 (by constructor) ?_
        try simp only [Int.toNat_natCast] at hg4
        exact hRR _ (EL.cons (.inr (by first | rfl | (simp only [hg4, els]; done) | (simp only [hg4, els]; rfl) | simp [hg4])) (EL.cons (.inl rfl) (EL.cons (.inl rfl) (EL.cons (.inl rfl) (EL.cons (.inr rfl) (EL.cons (.inr rfl) (EL.cons (.inr rfl) (EL.cons (.inr rfl) (EL.cons (.inr rfl) (EL.refl _))))))))))
      · have hg4 := eq_true_of_ne_false hg4
        refine w_g_off rfl rfl (by rw [hg4]; decide) ?_
        refine w_g_off rfl rfl (by rw [hg4]; decide) ?_
        refine w_pick_1 rfl hg4 (by constructor) ?_
        try simp only [Int.toNat_natCast] at hg4
        exact hRR _ (EL.cons (.inr (by first | rfl | (simp only [hg4, els]; done) | (simp only [hg4, els]; rfl) | simp [hg4])) (EL.cons (.inl rfl) (EL.cons (.inl rfl) (EL.cons (.inl rfl) (EL.cons (.inr rfl) (EL.cons (.inr rfl) (EL.cons (.inr rfl) (EL.cons (.inr rfl) (EL.cons (.inr rfl) (EL.refl _))))))))))
    refine snd_cond _ rfl (fun hc57 => ?_) (fun hc57 => ?_)
    · skip
      exact absurd hc57 (by simp)
    · skip
      refine snd_skip ?_
      apply sr tokTB (by kernel_rfl)
      · intro RR hRR
        refine w_assign (by constructor) ?_
        exact hRR
      apply sr tokTB (by kernel_rfl)
      · intro RR hRR
        refine w_move (by constructor) ?_
        refine w_move (by constructor) ?_
        refine y_call rfl rfl ((c_heldVectorS (N := 0) (R := (fun _ _ => 0)) (k := 1) (by omega) (by omega) (fun i h => absurd h (by omega))).mt ⟨mt_nil0, mt_int0, trivial⟩) ?_
        refine w_assign (by constructor) ?_
        exact hRR
      refine snd_seq ?_
      apply sr tokTB (by kernel_rfl)
      · intro RR hRR
        refine w_move (by constructor) ?_
        refine w_lss rfl rfl ?_
        exact hRR
      refine snd_cond_false (by exact congrArg AV.bool (decide_eq_false (by omega))) ?_
      refine snd_skip ?_
      refine snd_seq ?_
      apply sr tokTB (by kernel_rfl)
      · intro RR hRR
        refine w_move (by constructor) ?_
        refine w_move (by constructor) ?_
        refine w_neq rfl rfl ?_
        exact hRR
      refine snd_cond_false (by exact congrArg AV.bool (decide_eq_false (by simp))) ?_
      refine snd_skip ?_
      apply sr tokTB (by kernel_rfl)
      · intro RR hRR
        refine w_assign (by constructor) ?_
        exact hRR
      refine snd_ret ?_
      exact rt (T := TB) (fun V => rfl)
theorem lNakayamaOf_no {p n : Int} {T : Nat → Nat → Nat → Int} {fo : Nat → Int} (hT : RB T) (hf : RV fo) (hz : ¬ VZ p n T fo 0 (fun _ _ => 0)) : ACalls Try.prog TB 6 [algA p n T fo] (.bool true) [] := by
  refine acalls_of tokTB Try.func6 rfl rfl (Nat.le_of_ble_eq_true rfl) ?_
  apply sr tokTB (by kernel_rfl)
  · intro RR hRR
    refine w_boxc (HV.eq (by constructor)) (by exact trivial) ?_
    refine w_assign (by constructor) ?_
    exact hRR
  apply sr tokTB (by kernel_rfl)
  · intro RR hRR
    refine w_ldc rfl kn26 (by constructor) (by exact sz26.symm) (by exact ag26.symm) ?_
    refine y_call rfl (ec exn) (c_toAlgebra) ?_
    refine y_call rfl (ec exn) (c_sNakayamaOf_no hT hf hz) ?_
    refine w_move (by constructor) ?_
    refine w_ext rfl (by decide) (by constructor) ?_
    refine w_ext rfl (by decide) (by constructor) ?_
    refine w_assign (by constructor) ?_
    refine w_assign (by constructor) ?_
    exact hRR
  apply sr tokTB (by kernel_rfl)
  · intro RR hRR
    refine w_ldc rfl kn26 (by constructor) (by exact sz26.symm) (by exact ag26.symm) ?_
    refine y_call rfl (ec exn) (c_toAlgebra) ?_
    refine y_call rfl (ec exn) (c_iNakayamaOf_no hT hf hz) ?_
    refine w_move (by constructor) ?_
    refine w_ext rfl (by decide) (by constructor) ?_
    refine w_ext rfl (by decide) (by constructor) ?_
    refine w_assign (by constructor) ?_
    refine w_assign (by constructor) ?_
    exact hRR
  refine snd_seq ?_
  apply srG (env' := (31, .bool (!true || decide ((1 : Int) ≠ 1))) :: (30, .any) :: (29, .any) :: (28, .any) :: (27, _) :: (26, _) :: (25, _) :: (24, _) :: (23, _) :: _) tokTB (by kernel_rfl)
  · intro RR hRR
    refine w_move (by constructor) ?_
    refine w_move (by constructor) ?_
    refine y_call rfl rfl ((c_eqVectorS (N := 0) (R := (fun _ _ => 0)) (S := (fun _ _ => 0)) (by omega) (fun i h => absurd h (by omega))).mt ⟨mt_nil0, mt_nil0, trivial⟩) ?_
    refine w_not rfl ?_
    refine w_move (by constructor) ?_
    refine w_g rfl rfl (fun hg4 => ?_) (fun hg4 => ?_)
    · skip
      refine w_move (by constructor) ?_
      refine w_g_on rfl rfl hg4 ?_
      refine w_move (by constructor) ?_
      refine w_g_on rfl rfl hg4 ?_
      refine w_neq rfl rfl ?_
      refine w_pick_0 rfl hg4 (by constructor) ?_
      try simp only [Int.toNat_natCast] at hg4
      exact hRR _ (EL.cons (.inr (by first | rfl | (simp only [hg4, els]; done) | (simp only [hg4, els]; rfl) | simp [hg4])) (EL.cons (.inl rfl) (EL.cons (.inl rfl) (EL.cons (.inl rfl) (EL.cons (.inr rfl) (EL.cons (.inr rfl) (EL.cons (.inr rfl) (EL.cons (.inr rfl) (EL.cons (.inr rfl) (EL.refl _))))))))))
    · have hg4 := eq_true_of_ne_false hg4
      refine w_g_off rfl rfl (by rw [hg4]; decide) ?_
      refine w_g_off rfl rfl (by rw [hg4]; decide) ?_
      refine w_pick_1 rfl hg4 (by constructor) ?_
      try simp only [Int.toNat_natCast] at hg4
      exact hRR _ (EL.cons (.inr (by first | rfl | (simp only [hg4, els]; done) | (simp only [hg4, els]; rfl) | simp [hg4])) (EL.cons (.inl rfl) (EL.cons (.inl rfl) (EL.cons (.inl rfl) (EL.cons (.inr rfl) (EL.cons (.inr rfl) (EL.cons (.inr rfl) (EL.cons (.inr rfl) (EL.cons (.inr rfl) (EL.refl _))))))))))
  refine snd_cond _ rfl (fun hc31 => ?_) (fun hc31 => ?_)
  · skip
    exact absurd hc31 (by simp)
  · skip
    refine snd_skip ?_
    apply sr tokTB (by kernel_rfl)
    · intro RR hRR
      refine w_assign (by constructor) ?_
      exact hRR
    apply sr tokTB (by kernel_rfl)
    · intro RR hRR
      refine w_move (by constructor) ?_
      refine w_move (by constructor) ?_
      refine y_call rfl (ec (ec exn)) (c_markNilVectorS (k := 1)) ?_
      refine w_assign (by constructor) ?_
      exact hRR
    apply sr tokTB (by kernel_rfl)
    · intro RR hRR
      refine w_assign (by constructor) ?_
      exact hRR
    apply sr tokTB (by kernel_rfl)
    · intro RR hRR
      refine w_move (by constructor) ?_
      refine w_move (by constructor) ?_
      refine y_call rfl rfl ((c_heldVectorS (N := 0) (R := (fun _ _ => 0)) (k := 1) (by omega) (by omega) (fun i h => absurd h (by omega))).mt ⟨mt_nil0, mt_int0, trivial⟩) ?_
      refine w_assign (by constructor) ?_
      exact hRR
    refine snd_seq ?_
    apply sr tokTB (by kernel_rfl)
    · intro RR hRR
      refine w_move (by constructor) ?_
      refine w_lss rfl rfl ?_
      exact hRR
    refine snd_cond_false (by exact congrArg AV.bool (decide_eq_false (by omega))) ?_
    refine snd_skip ?_
    refine snd_seq ?_
    apply sr tokTB (by kernel_rfl)
    · intro RR hRR
      refine w_move (by constructor) ?_
      refine w_move (by constructor) ?_
      refine w_neq rfl rfl ?_
      exact hRR
    refine snd_cond_false (by exact congrArg AV.bool (decide_eq_false (by simp))) ?_
    refine snd_skip ?_
    apply sr tokTB (by kernel_rfl)
    · intro RR hRR
      refine w_ldc rfl kn26 (by constructor) (by exact sz26.symm) (by exact ag26.symm) ?_
      refine y_call rfl (ec exn) (c_toAlgebra) ?_
      refine y_call rfl (ec exn) (c_iNakayamaOf_no hT hf hz) ?_
      refine w_move (by constructor) ?_
      refine w_ext rfl (by decide) (by constructor) ?_
      refine w_ext rfl (by decide) (by constructor) ?_
      refine w_assign (by constructor) ?_
      refine w_assign (by constructor) ?_
      exact hRR
    refine snd_seq ?_
    apply srG (env' := (57, .bool (!true || decide ((1 : Int) ≠ 1))) :: (56, .any) :: (55, .any) :: (54, .any) :: (53, _) :: (52, _) :: (51, _) :: (50, _) :: (49, _) :: _) tokTB (by kernel_rfl)
    · intro RR hRR
      refine w_move (by constructor) ?_
      refine w_move (by constructor) ?_
      refine y_call rfl rfl ((c_eqVectorS (N := 0) (R := (fun _ _ => 0)) (S := (fun _ _ => 0)) (by omega) (fun i h => absurd h (by omega))).mt ⟨mt_nil0, mt_nil0, trivial⟩) ?_
      refine w_not rfl ?_
      refine w_move (by constructor) ?_
      refine w_g rfl rfl (fun hg4 => ?_) (fun hg4 => ?_)
      · skip
        refine w_move (by constructor) ?_
        refine w_g_on rfl rfl hg4 ?_
        refine w_move (by constructor) ?_
        refine w_g_on rfl rfl hg4 ?_
        refine w_neq rfl rfl ?_
        refine w_pick_0 rfl hg4 (by constructor) ?_
        try simp only [Int.toNat_natCast] at hg4
        exact hRR _ (EL.cons (.inr (by first | rfl | (simp only [hg4, els]; done) | (simp only [hg4, els]; rfl) | simp [hg4])) (EL.cons (.inl rfl) (EL.cons (.inl rfl) (EL.cons (.inl rfl) (EL.cons (.inr rfl) (EL.cons (.inr rfl) (EL.cons (.inr rfl) (EL.cons (.inr rfl) (EL.cons (.inr rfl) (EL.refl _))))))))))
      · have hg4 := eq_true_of_ne_false hg4
        refine w_g_off rfl rfl (by rw [hg4]; decide) ?_
        refine w_g_off rfl rfl (by rw [hg4]; decide) ?_
        refine w_pick_1 rfl hg4 (by constructor) ?_
        try simp only [Int.toNat_natCast] at hg4
        exact hRR _ (EL.cons (.inr (by first | rfl | (simp only [hg4, els]; done) | (simp only [hg4, els]; rfl) | simp [hg4])) (EL.cons (.inl rfl) (EL.cons (.inl rfl) (EL.cons (.inl rfl) (EL.cons (.inr rfl) (EL.cons (.inr rfl) (EL.cons (.inr rfl) (EL.cons (.inr rfl) (EL.cons (.inr rfl) (EL.refl _))))))))))
    refine snd_cond _ rfl (fun hc57 => ?_) (fun hc57 => ?_)
    · skip
      exact absurd hc57 (by simp)
    · skip
      refine snd_skip ?_
      apply sr tokTB (by kernel_rfl)
      · intro RR hRR
        refine w_assign (by constructor) ?_
        exact hRR
      apply sr tokTB (by kernel_rfl)
      · intro RR hRR
        refine w_move (by constructor) ?_
        refine w_move (by constructor) ?_
        refine y_call rfl rfl ((c_heldVectorS (N := 0) (R := (fun _ _ => 0)) (k := 1) (by omega) (by omega) (fun i h => absurd h (by omega))).mt ⟨mt_nil0, mt_int0, trivial⟩) ?_
        refine w_assign (by constructor) ?_
        exact hRR
      refine snd_seq ?_
      apply sr tokTB (by kernel_rfl)
      · intro RR hRR
        refine w_move (by constructor) ?_
        refine w_lss rfl rfl ?_
        exact hRR
      refine snd_cond_false (by exact congrArg AV.bool (decide_eq_false (by omega))) ?_
      refine snd_skip ?_
      refine snd_seq ?_
      apply sr tokTB (by kernel_rfl)
      · intro RR hRR
        refine w_move (by constructor) ?_
        refine w_move (by constructor) ?_
        refine w_neq rfl rfl ?_
        exact hRR
      refine snd_cond_false (by exact congrArg AV.bool (decide_eq_false (by simp))) ?_
      refine snd_skip ?_
      apply sr tokTB (by kernel_rfl)
      · intro RR hRR
        refine w_assign (by constructor) ?_
        exact hRR
      refine snd_ret ?_
      exact rt (T := TB) (fun V => rfl)
theorem law_NakayamaOf {p n : Int} {T : Nat → Nat → Nat → Int} {fo : Nat → Int} (hT : RB T) (hf : RV fo) : ACalls Try.prog TB 6 [algA p n T fo] (.bool true) [] := by
  by_cases hz : VZ p n T fo 0 (fun _ _ => 0)
  · have h1 := VZ_0.1 hz
    obtain ⟨hv0, hn⟩ := VN_of hT hf h1
    obtain ⟨m, rfl⟩ : ∃ m : Nat, n = (m : Int) := ⟨n.toNat, hn⟩
    have hv0 : VN p m T fo := hv0
    have hp0 : 0 < p := by have := hv0.p0; omega
    by_cases hr : rankT p m T fo = m
    · exact lNakayamaOf_ok hv0 hr
    · exact lNakayamaOf_nf hv0 hr
  · exact lNakayamaOf_no hT hf hz
end Go.Am

