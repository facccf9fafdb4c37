/- Part 7 of what the law stands on: abstract values, their walk, contracts of functions. My own work. Conditions: none. -/
import Derived.Test.YtadeodcgnbmpnaaPart6
set_option linter.unusedVariables false
set_option linter.unusedSimpArgs false
set_option maxRecDepth 4000
namespace Go.Am
attribute [local irreducible] retQ retQp
open Go.Proofs
theorem c_valid1_ok {p : Int} {n : Nat} {T : Nat → Nat → Nat → Int} {fo : Nat → Int} (hv0 : VN p n T fo) {v : Nat → Int} (hv : VV p n v) : ACalls Try.prog TB 57 [algA p (n : Int) T fo, vlA 1 (vs1 v)] (.int .i64 0) [] := by
  have hp : p ≤ 256 := by have := hv0.p0; omega
  have h := c_valid hv0.rb hv0.rv (M := 1) (by omega) (vs1_B8 (hv.B8 hp)) (p := p) (n := (n : Int)) (T := T) (fo := fo)
  rwa [cZ_ok (VZ_1.2 ⟨hv0.va, hv.sm⟩)] at h
theorem c_valid1_no {p n : Int} {T : Nat → Nat → Nat → Int} {fo : Nat → Int} (hT : RB T) (hf : RV fo) {v : Nat → Int} (hv : B8 v) (hz : ¬ VZ p n T fo 1 (vs1 v)) : ACalls Try.prog TB 57 [algA p n T fo, vlA 1 (vs1 v)] (.int .i64 1) [] := by
  have h := c_valid hT hf (M := 1) (by omega) (vs1_B8 hv) (p := p) (n := n) (T := T) (fo := fo)
  rwa [cZ_no hz] at h
theorem c_l01Code1_ok {p : Int} {n : Nat} {T : Nat → Nat → Nat → Int} {fo : Nat → Int} (hv0 : VN p n T fo) {v : Nat → Int} (hv : VV p n v) : ACalls Try.prog TB 54 [algA p (n : Int) T fo, vlA 1 (vs1 v)] (.int .i64 0) [] := by
  have hp : p ≤ 256 := by have := hv0.p0; omega
  have h := c_l01Code hv0.rb hv0.rv (M := 1) (by omega) (vs1_B8 (hv.B8 hp)) (p := p) (n := (n : Int)) (T := T) (fo := fo)
  rwa [cZ_ok (VZ_1.2 ⟨hv0.va, hv.sm⟩)] at h
theorem c_l01Code1_no {p n : Int} {T : Nat → Nat → Nat → Int} {fo : Nat → Int} (hT : RB T) (hf : RV fo) {v : Nat → Int} (hv : B8 v) (hz : ¬ VZ p n T fo 1 (vs1 v)) : ACalls Try.prog TB 54 [algA p n T fo, vlA 1 (vs1 v)] (.int .i64 1) [] := by
  have h := c_l01Code hT hf (M := 1) (by omega) (vs1_B8 hv) (p := p) (n := n) (T := T) (fo := fo)
  rwa [cZ_no hz] at h
end Go.Am

set_option linter.unusedVariables false
set_option linter.unusedSimpArgs false
set_option maxRecDepth 4000
namespace Go.Am
attribute [local irreducible] retQ retQp
open Go.Proofs
theorem c_eqVector {u v : Nat → Int} : ACalls Try.prog TB 27 [vecA u, vecA v] (.bool (decide (eqN 6 u v))) [] := by
  refine acalls_of tokTB Try.func27 rfl rfl (Nat.le_of_ble_eq_true rfl) ?_
  apply sr tokTB (by kernel_rfl)
  · intro RR hRR
    refine w_boxc (HV.eq (by constructor)) (by exact trivial) ?_
    refine w_boxc (HV.eq (by constructor)) (by exact trivial) ?_
    refine w_assign (by constructor) ?_
    exact hRR
  refine snd_seq ?_
  apply sr tokTB (by kernel_rfl)
  · intro RR hRR
    refine w_assign (by constructor) ?_
    exact hRR
  refine snd_block ?_
  refine snd_loop (S := Nat) (fun i => ([(2, .cptr (vecA u)), (3, .cptr (vecA v)), (5, .int .i64 (i : Int))], [])) (fun i => i ≤ 6 ∧ (∀ a, a < i → u a = v a)) (fun i => 6 - i) (0) ρ0 ?_ ?_ ?_
  · exact ⟨⟨(m_cvec (fun _ _ => rfl)), (m_cvec (fun _ _ => rfl)), (by first | exact m_int rfl | exact m_int (by omega) | exact m_int (by simp; done) | (exact m_int (by simp; omega))), trivial⟩, trivial, trivial⟩
  · exact ⟨Nat.zero_le _, fun j hj => absurd hj (Nat.not_lt_zero _)⟩
  intro i hi0
  refine sq (env2 := [(2, .cptr (vecA u)), (3, .cptr (vecA v)), (5, .int .i64 (i : Int))]) (ol2 := []) rfl rfl ?_
  obtain ⟨le_i, inv_i⟩ := hi0
  refine snd_seq ?_
  apply sr tokTB (by kernel_rfl)
  · intro RR hRR
    refine w_move (by constructor) ?_
    refine w_lss rfl rfl ?_
    exact hRR
  refine snd_cond _ rfl (fun hc7 => ?_) (fun hc7 => ?_)
  · try simp only [hcs] at hc7
    have lt_i : i < 6 := by omega
    refine snd_skip ?_
    refine snd_seq ?_
    refine snd_block ?_
    apply sd tokTB mixed (by kernel_rfl) (by kernel_rfl)
    · intro RR hRR
      refine w_move (by constructor) ?_
      refine w_iac rfl rfl und30 kn5 (by exact sz5.symm) ?_ rfl ?_
      · exact ⟨by omega, by omega⟩
      first | refine w_ldc rfl kn5 (by constructor) (by exact sz5.symm) (by exact ag5.symm) ?_ | refine w_ldp rfl kn5 rfl (by constructor) (by exact sz5.symm) (by exact ag5.symm) ?_
      refine w_move (by constructor) ?_
      refine w_iac rfl rfl und30 kn5 (by exact sz5.symm) ?_ rfl ?_
      · exact ⟨by omega, by omega⟩
      first | refine w_ldc rfl kn5 (by constructor) (by exact sz5.symm) (by exact ag5.symm) ?_ | refine w_ldp rfl kn5 rfl (by constructor) (by exact sz5.symm) (by exact ag5.symm) ?_
      refine w_neq rfl rfl ?_
      exact hRR
    refine snd_cond _ rfl (fun hc16 => ?_) (fun hc16 => ?_)
    · skip
      apply sr tokTB (by kernel_rfl)
      · intro RR hRR
        refine w_assign (by constructor) ?_
        exact hRR
      refine snd_ret ?_
      exact rt (T := TB) (fun V => m_bool (by symm; rw [decide_eq_false_iff_not]; intro h; exact of_decide_eq_true hc16 (h i (by omega))))
    · skip
      refine snd_skip ?_
      apply lr tokTB (by kernel_rfl)
      · intro RR hRR
        refine w_move (by constructor) ?_
        refine y_add rfl rfl ?_
        refine w_assign (by constructor) ?_
        exact hRR
      refine ⟨i + 1, ρ0, ?_, ⟨by omega, all_step inv_i (Classical.not_not.1 (of_decide_eq_false hc16))⟩, (by dsimp only; omega)⟩
      exact ⟨⟨(m_cvec (fun _ _ => rfl)), (m_cvec (fun _ _ => rfl)), (by first | exact m_int rfl | exact m_int (by omega) | exact m_int (by simp; done) | (exact m_int (by simp; omega))), trivial⟩, trivial, trivial⟩
  · try simp only [hcs] at hc7
    have ge_i : 6 = i := by omega
    subst ge_i
    refine snd_exit ?_
    apply sr tokTB (by kernel_rfl)
    · intro RR hRR
      refine w_assign (by constructor) ?_
      exact hRR
    refine snd_ret ?_
    exact rt (T := TB) (fun V => m_bool (by symm; rw [decide_eq_true_eq]; exact inv_i))
end Go.Am

set_option linter.unusedVariables false
set_option linter.unusedSimpArgs false
set_option maxRecDepth 4000
namespace Go.Am
attribute [local irreducible] retQ retQp
open Go.Proofs
theorem c_table {p : Int} {n : Nat} {T : Nat → Nat → Nat → Int} {fo : Nat → Int} (hv0 : VN p n T fo) : ACalls Try.prog TB 78 [.cptr (algA p (n : Int) T fo)] (.own 0 0 n 57) [(0, .one (ZR n) (CO 1 n (fun _ => n) 2)), (1, .many (famF n (fun _ => n) (formT p T fo)))] := by
  have hp8 := hv0.p0
  have hn6 := hv0.n6
  have hn0 := hv0.n0
  refine acalls_of tokTB Try.func78 rfl rfl (Nat.le_of_ble_eq_true rfl) ?_
  apply sr tokTB (by kernel_rfl)
  · intro RR hRR
    refine w_assign (by constructor) ?_
    exact hRR
  apply sr tokTB (by kernel_rfl)
  · intro RR hRR
    refine w_bsl und52 kn57 (by rw [sz57]; rfl) rfl trivial trivial rfl ?_
    refine w_assign (by constructor) ?_
    exact hRR
  refine snd_seq ?_
  apply sr tokTB (by kernel_rfl)
  · intro RR hRR
    refine w_move (by constructor) ?_
    refine y_call rfl (ec exn) (c_n) ?_
    refine w_move (by constructor) ?_
    exact hRR
  refine snd_block ?_
  refine snd_loop (S := Nat) (fun i => ([(0, .cptr (algA p (n : Int) T fo)), (3, .own 905 0 i 57), (9, .int .i64 (n : Int)), (10, .int .i64 (i : Int))], [(905, .one (ZR (i)) (CO 1 (i) ((fun _ => n)) 2)), (1, .many (famF (i) ((fun _ => n)) (formT p T fo)))])) (fun i => i ≤ n) (fun i => n - i) (0) (ρP 905 1 7 912 0) ?_ ?_ ?_
  · exact emb_fam (by decide) (by decide) (by decide) (by decide) rfl (fun j hj => absurd hj (by omega)) (fun h => absurd h (by omega)) (fun h => absurd h (by omega)) (fun r hr => absurd hr (by omega)) ⟨m_calg, (by first | exact ⟨rfl, rfl, rfl, rfl⟩ | exact ⟨rfl, by omega, rfl, rfl⟩), (by first | exact m_int rfl | exact m_int (by omega) | exact m_int (by simp; done) | (exact m_int (by simp; omega))), (by first | exact m_int rfl | exact m_int (by omega) | exact m_int (by simp; done) | (exact m_int (by simp; omega))), trivial⟩
  · exact Nat.zero_le _
  intro i hi0
  refine sq (env2 := [(0, .cptr (algA p (n : Int) T fo)), (3, .own 905 0 i 57), (9, .int .i64 (n : Int)), (10, .int .i64 (i : Int))]) (ol2 := [(905, .one (ZR (i)) (CO 1 (i) ((fun _ => n)) 2)), (1, .many (famF (i) ((fun _ => n)) (formT p T fo)))]) rfl rfl ?_
  apply sr tokTB (by kernel_rfl)
  · intro RR hRR
    refine w_lss rfl rfl ?_
    exact hRR
  refine snd_seq ?_
  refine snd_cond _ rfl (fun hc11 => ?_) (fun hc11 => ?_)
  · try simp only [hcs] at hc11
    have lt_i : i < n := by omega
    refine snd_skip ?_
    refine snd_seq ?_
    refine snd_block ?_
    apply sr tokTB (by kernel_rfl)
    · intro RR hRR
      refine w_move (by constructor) ?_
      refine w_assign (by constructor) ?_
      exact hRR
    apply sr tokTB (by kernel_rfl)
    · intro RR hRR
      refine w_bsl und57 kn2 (by rw [sz2]; rfl) rfl trivial trivial rfl ?_
      refine w_assign (by constructor) ?_
      exact hRR
    refine snd_seq ?_
    apply sr tokTB (by kernel_rfl)
    · intro RR hRR
      refine w_move (by constructor) ?_
      refine y_call rfl (ec exn) (c_n) ?_
      refine w_move (by constructor) ?_
      exact hRR
    refine snd_block ?_
    refine snd_loop (S := Nat) (fun j => ([(0, .cptr (algA p (n : Int) T fo)), (3, .own 905 0 i 57), (4, .int .i64 (i : Int)), (5, .own 909 0 j 2), (9, .int .i64 (n : Int)), (10, .int .i64 (i : Int)), (15, .int .i64 (n : Int)), (16, .int .i64 (j : Int))], [(905, .one (ZR (i)) (CO 1 (i) ((fun _ => n)) 2)), (1, .many (famF (i) ((fun _ => n)) (formT p T fo))), (909, .one (Z64 j) (C64 j (formT p T fo i)))])) (fun j => j ≤ n) (fun j => n - j) (0) (ρQ 905 1 905 912 i 909 13) ?_ ?_ ?_
    · exact emb_fam1 (by decide) (by decide) (by decide) (by decide) (by decide) (by decide) (by decide) (by decide) (by decide) rfl (fun j hj hne => rfl) (fun h => absurd h (by omega)) (fun h => absurd h (by omega)) (fun r hr hne => famF_at (c := i) (w := (fun _ => n)) (F := formT p T fo) (by omega)) ⟨_, rfl, ⟨rfl, fun _ => trivial⟩, fun V => mt_arr0⟩ ⟨m_calg, (by first | exact ⟨rfl, rfl, rfl, rfl⟩ | exact ⟨rfl, by omega, rfl, rfl⟩), (by first | exact m_int rfl | exact m_int (by omega) | exact m_int (by simp; done) | (exact m_int (by simp; omega))), (by first | exact ⟨rfl, rfl, rfl, rfl⟩ | exact ⟨rfl, by omega, rfl, rfl⟩), (by first | exact m_int rfl | exact m_int (by omega) | exact m_int (by simp; done) | (exact m_int (by simp; omega))), (by first | exact m_int rfl | exact m_int (by omega) | exact m_int (by simp; done) | (exact m_int (by simp; omega))), (by first | exact m_int rfl | exact m_int (by omega) | exact m_int (by simp; done) | (exact m_int (by simp; omega))), (by first | exact m_int rfl | exact m_int (by omega) | exact m_int (by simp; done) | (exact m_int (by simp; omega))), trivial⟩
    · exact Nat.zero_le _
    intro j hi2
    refine sq (env2 := [(0, .cptr (algA p (n : Int) T fo)), (3, .own 905 0 i 57), (4, .int .i64 (i : Int)), (5, .own 909 0 j 2), (9, .int .i64 (n : Int)), (10, .int .i64 (i : Int)), (15, .int .i64 (n : Int)), (16, .int .i64 (j : Int))]) (ol2 := [(905, .one (ZR (i)) (CO 1 (i) ((fun _ => n)) 2)), (1, .many (famF (i) ((fun _ => n)) (formT p T fo))), (909, .one (Z64 j) (C64 j (formT p T fo i)))]) rfl rfl ?_
    apply sr tokTB (by kernel_rfl)
    · intro RR hRR
      refine w_lss rfl rfl ?_
      exact hRR
    refine snd_seq ?_
    refine snd_cond _ rfl (fun hc17 => ?_) (fun hc17 => ?_)
    · try simp only [hcs] at hc17
      have lt_j : j < n := by omega
      refine snd_skip ?_
      refine snd_seq ?_
      refine snd_block ?_
      apply sr tokTB (by kernel_rfl)
      · intro RR hRR
        refine w_move (by constructor) ?_
        refine w_assign (by constructor) ?_
        exact hRR
      apply lr tokTB (by kernel_rfl)
      · intro RR hRR
        refine w_move (by constructor) ?_
        refine w_move (by constructor) ?_
        refine w_move (by constructor) ?_
        refine w_move (by constructor) ?_
        refine w_move (by constructor) ?_
        refine w_nilc rfl ?_
        refine w_fac rfl und32 rfl kn24 nz24 (by decide) rfl (by constructor) ?_
        refine w_iac rfl rfl und24 kn23 (by exact sz23.symm) ?_ rfl ?_
        · exact ⟨by omega, by omega⟩
        refine w_iac rfl rfl und23 kn22 (by exact sz22.symm) ?_ rfl ?_
        · exact ⟨by omega, by omega⟩
        refine w_ldc rfl kn22 (by constructor) (by exact sz22.symm) (by exact ag22.symm) ?_
        refine y_call rfl (ec (ec exn)) (c_form (v := T i j) (by omega) hv0.f8 (hv0.T8 i j)) ?_
        refine w_bsl1 und57 kn2 (by rw [sz2]; rfl) rfl (by constructor) (by exact trivial) (by exact sz2.symm) (by first | exact trivial | exact ssh_vec | exact ⟨rfl, fun _ => trivial⟩) ?_
        refine w_app_o und57 rfl rfl kn2 rfl rfl (fun C h => ⟨rfl, rfl, rfl, h⟩) (by rw [by2]; omega) (by omega) rfl ?_
        refine w_assign (by constructor) ?_
        exact hRR
      apply lr tokTB (by kernel_rfl)
      · intro RR hRR
        refine y_add rfl rfl ?_
        refine w_move (by constructor) ?_
        exact hRR
      refine ⟨j + 1, (ρQ 905 1 905 912 i 909 31), ?_, (by omega), (by dsimp only; omega)⟩
      exact emb_fam1 (by decide) (by decide) (by decide) (by decide) (by decide) (by decide) (by decide) (by decide) (by decide) rfl (fun j hj hne => rfl) (fun h => absurd h (by omega)) (fun h => absurd h (by omega)) (fun r hr hne => famF_at (c := i) (w := (fun _ => n)) (F := formT p T fo) (by omega)) ⟨_, rfl, ⟨rfl, fun _ => trivial⟩, fun V => mt_app (fun _ _ => rfl) rfl⟩ ⟨m_calg, (by first | exact ⟨rfl, rfl, rfl, rfl⟩ | exact ⟨rfl, by omega, rfl, rfl⟩), (by first | exact m_int rfl | exact m_int (by omega) | exact m_int (by simp; done) | (exact m_int (by simp; omega))), (by first | exact ⟨rfl, rfl, rfl, rfl⟩ | exact ⟨rfl, by omega, rfl, rfl⟩), (by first | exact m_int rfl | exact m_int (by omega) | exact m_int (by simp; done) | (exact m_int (by simp; omega))), (by first | exact m_int rfl | exact m_int (by omega) | exact m_int (by simp; done) | (exact m_int (by simp; omega))), (by first | exact m_int rfl | exact m_int (by omega) | exact m_int (by simp; done) | (exact m_int (by simp; omega))), (by first | exact m_int rfl | exact m_int (by omega) | exact m_int (by simp; done) | (exact m_int (by simp; omega))), trivial⟩
    · try simp only [hcs] at hc17
      have ge_j : n = j := by omega
      subst ge_j
      refine snd_exit ?_
      apply lr tokTB (by kernel_rfl)
      · intro RR hRR
        refine w_move (by constructor) ?_
        refine w_move (by constructor) ?_
        refine w_bsl1 und52 kn57 (by rw [sz57]; rfl) rfl (by constructor) (by exact trivial) (by exact sz57.symm) (by first | exact trivial | exact ssh_vec | exact ⟨rfl, fun _ => trivial⟩) ?_
        refine w_app_o und52 rfl rfl kn57 rfl rfl (fun C h => ⟨rfl, rfl, rfl, h⟩) (by rw [by57]; omega) (by omega) rfl ?_
        refine w_assign (by constructor) ?_
        exact hRR
      apply lr tokTB (by kernel_rfl)
      · intro RR hRR
        refine y_add rfl rfl ?_
        refine w_move (by constructor) ?_
        exact hRR
      refine ⟨i + 1, (ρP 905 1 36 909 i), ?_, (by omega), (by dsimp only; omega)⟩
      exact emb_fam (by decide) (by decide) (by decide) (by decide) rfl (fun j hj hne => appF_lt (by omega)) (fun h => (appF_ge (Nat.le_refl _) (by omega)).trans (by rw [Nat.sub_self]; rfl)) (fun h => ⟨_, rfl, fun V => mt_vec (fun j hj => rfl)⟩) (fun r hr hne => famF_at (c := i) (w := (fun _ => n)) (F := formT p T fo) (by omega)) ⟨m_calg, (by first | exact ⟨rfl, rfl, rfl, rfl⟩ | exact ⟨rfl, by omega, rfl, rfl⟩), (by first | exact m_int rfl | exact m_int (by omega) | exact m_int (by simp; done) | (exact m_int (by simp; omega))), (by first | exact m_int rfl | exact m_int (by omega) | exact m_int (by simp; done) | (exact m_int (by simp; omega))), trivial⟩
  · try simp only [hcs] at hc11
    have ge_i : n = i := by omega
    subst ge_i
    refine snd_exit ?_
    apply sr tokTB (by kernel_rfl)
    · intro RR hRR
      refine w_move (by constructor) ?_
      refine w_assign (by constructor) ?_
      exact hRR
    refine snd_ret ?_
    show retQ TB _ _ _ _ _ _
    exact rt_fam (T := TB) (a := 905) rfl (by decide) rfl rfl (fun r hr => famF_at (c := n) (w := fun _ => n) (F := formT p T fo) hr)
theorem c_frobenius {p : Int} {n : Nat} {T : Nat → Nat → Nat → Int} {fo : Nat → Int} (hv0 : VN p n T fo) : ACalls Try.prog TB 113 [.cptr (algA p (n : Int) T fo)] (.bool (decide (rankT p n T fo = n))) [] := by
  have hp8 := hv0.p0
  have hn6 := hv0.n6
  have hn0 := hv0.n0
  refine acalls_of tokTB Try.func113 rfl rfl (Nat.le_of_ble_eq_true rfl) ?_
  apply sr tokTB (by kernel_rfl)
  · intro RR hRR
    refine w_assign (by constructor) ?_
    exact hRR
  apply sd tokTB mixed (by kernel_rfl) (by kernel_rfl)
  · intro RR hRR
    refine w_move (by constructor) ?_
    refine w_call rfl (ec exn) (c_table hv0) (.inl ⟨trivial, ⟨fun _ => trivial, fun i sh c h => (by obtain ⟨_, _, rfl⟩ := famF_some h; exact fun _ => trivial), trivial⟩⟩) rfl (by constructor) rfl ?_
    refine w_move (by constructor) ?_
    refine w_nilc rfl ?_
    refine w_fac rfl und32 rfl kn2 nz2 (by decide) rfl (by constructor) ?_
    refine w_ldc rfl kn2 (by constructor) (by exact sz2.symm) (by exact ag2.symm) ?_
    refine w_call rfl rfl ((rows_len (c_reduce (n := n) (m := n) (R := formT p T fo) hv0.hp (by omega) (by omega) (fun i => B8_of (by omega) (formT_Bp (by omega) i)))).mt ⟨mt_fam0 rfl (fun r hr => by show (match famF n (fun _ => n) (formT p T fo) r with | some (sh, c) => some (sh, Am.shift 5000 c) | none => none) = _; rw [famF_at hr]; rfl) (fun _ _ => rfl) (fun _ _ _ _ => rfl), rfl, trivial⟩) (.inl ⟨trivial, ⟨fun _ => trivial, trivial⟩⟩) rfl (by constructor) rfl ?_
    refine w_len_o rfl rfl und52 ?_
    refine w_move (by constructor) ?_
    refine y_call rfl (ec exn) (c_n) ?_
    refine w_eql rfl rfl ?_
    refine w_assign (by constructor) ?_
    exact hRR
  refine snd_ret ?_
  exact rt (T := TB) (fun V => m_bool (decide_eq_decide.2 (by unfold rankT; omega)))
theorem c_l01Frobenius {p : Int} {n : Nat} {T : Nat → Nat → Nat → Int} {fo : Nat → Int} (hv0 : VN p n T fo) : ACalls Try.prog TB 109 [algA p (n : Int) T fo] (.bool (decide (rankT p n T fo = n))) [] := by
  have hp8 := hv0.p0
  have hn6 := hv0.n6
  have hn0 := hv0.n0
  refine acalls_of tokTB Try.func109 rfl rfl (Nat.le_of_ble_eq_true rfl) ?_
  apply sr tokTB (by kernel_rfl)
  · intro RR hRR
    refine w_boxc (HV.eq (by constructor)) (by exact trivial) ?_
    refine w_assign (by constructor) ?_
    exact hRR
  apply sr tokTB (by kernel_rfl)
  · intro RR hRR
    refine w_bsl und52 kn57 (by rw [sz57]; rfl) rfl trivial trivial rfl ?_
    refine w_assign (by constructor) ?_
    exact hRR
  refine snd_seq ?_
  apply sr tokTB (by kernel_rfl)
  · intro RR hRR
    refine w_assign (by constructor) ?_
    exact hRR
  refine snd_block ?_
  refine snd_loop (S := Nat) (fun i => ([(1, .cptr (algA p (n : Int) T fo)), (3, .own 905 0 i 57), (4, .int .i64 (i : Int))], [(905, .one (ZR (i)) (CO 1 (i) ((fun _ => n)) 2)), (1, .many (famF (i) ((fun _ => n)) (formT p T fo)))])) (fun i => i ≤ n) (fun i => n - i) (0) (ρP 905 1 7 912 0) ?_ ?_ ?_
  · exact emb_fam (by decide) (by decide) (by decide) (by decide) rfl (fun j hj => absurd hj (by omega)) (fun h => absurd h (by omega)) (fun h => absurd h (by omega)) (fun r hr => absurd hr (by omega)) ⟨m_calg, (by first | exact ⟨rfl, rfl, rfl, rfl⟩ | exact ⟨rfl, by omega, rfl, rfl⟩), (by first | exact m_int rfl | exact m_int (by omega) | exact m_int (by simp; done) | (exact m_int (by simp; omega))), trivial⟩
  · exact Nat.zero_le _
  intro i hi0
  refine sq (env2 := [(1, .cptr (algA p (n : Int) T fo)), (3, .own 905 0 i 57), (4, .int .i64 (i : Int))]) (ol2 := [(905, .one (ZR (i)) (CO 1 (i) ((fun _ => n)) 2)), (1, .many (famF (i) ((fun _ => n)) (formT p T fo)))]) rfl rfl ?_
  refine snd_seq ?_
  apply sr tokTB (by kernel_rfl)
  · intro RR hRR
    refine w_move (by constructor) ?_
    refine w_fac rfl und32 rfl kn2 nz2 (by decide) rfl (by constructor) ?_
    refine w_ldc rfl kn2 (by constructor) (by exact sz2.symm) (by exact ag2.symm) ?_
    refine w_lss rfl rfl ?_
    exact hRR
  refine snd_cond _ rfl (fun hc11 => ?_) (fun hc11 => ?_)
  · try simp only [hcs] at hc11
    have lt_i : i < n := by omega
    refine snd_skip ?_
    refine snd_seq ?_
    refine snd_block ?_
    apply sr tokTB (by kernel_rfl)
    · intro RR hRR
      refine w_bsl und57 kn2 (by rw [sz2]; rfl) rfl trivial trivial rfl ?_
      refine w_assign (by constructor) ?_
      exact hRR
    refine snd_seq ?_
    apply sr tokTB (by kernel_rfl)
    · intro RR hRR
      refine w_assign (by constructor) ?_
      exact hRR
    refine snd_block ?_
    refine snd_loop (S := Nat) (fun j => ([(1, .cptr (algA p (n : Int) T fo)), (3, .own 905 0 i 57), (4, .int .i64 (i : Int)), (5, .own 909 0 j 2), (6, .int .i64 (j : Int))], [(905, .one (ZR (i)) (CO 1 (i) ((fun _ => n)) 2)), (1, .many (famF (i) ((fun _ => n)) (formT p T fo))), (909, .one (Z64 j) (C64 j (formT p T fo i)))])) (fun j => j ≤ n) (fun j => n - j) (0) (ρQ 905 1 905 912 i 909 14) ?_ ?_ ?_
    · exact emb_fam1 (by decide) (by decide) (by decide) (by decide) (by decide) (by decide) (by decide) (by decide) (by decide) rfl (fun j hj hne => rfl) (fun h => absurd h (by omega)) (fun h => absurd h (by omega)) (fun r hr hne => famF_at (c := i) (w := (fun _ => n)) (F := formT p T fo) (by omega)) ⟨_, rfl, ⟨rfl, fun _ => trivial⟩, fun V => mt_arr0⟩ ⟨m_calg, (by first | exact ⟨rfl, rfl, rfl, rfl⟩ | exact ⟨rfl, by omega, rfl, rfl⟩), (by first | exact m_int rfl | exact m_int (by omega) | exact m_int (by simp; done) | (exact m_int (by simp; omega))), (by first | exact ⟨rfl, rfl, rfl, rfl⟩ | exact ⟨rfl, by omega, rfl, rfl⟩), (by first | exact m_int rfl | exact m_int (by omega) | exact m_int (by simp; done) | (exact m_int (by simp; omega))), trivial⟩
    · exact Nat.zero_le _
    intro j hi2
    refine sq (env2 := [(1, .cptr (algA p (n : Int) T fo)), (3, .own 905 0 i 57), (4, .int .i64 (i : Int)), (5, .own 909 0 j 2), (6, .int .i64 (j : Int))]) (ol2 := [(905, .one (ZR (i)) (CO 1 (i) ((fun _ => n)) 2)), (1, .many (famF (i) ((fun _ => n)) (formT p T fo))), (909, .one (Z64 j) (C64 j (formT p T fo i)))]) rfl rfl ?_
    refine snd_seq ?_
    apply sr tokTB (by kernel_rfl)
    · intro RR hRR
      refine w_move (by constructor) ?_
      refine w_fac rfl und32 rfl kn2 nz2 (by decide) rfl (by constructor) ?_
      refine w_ldc rfl kn2 (by constructor) (by exact sz2.symm) (by exact ag2.symm) ?_
      refine w_lss rfl rfl ?_
      exact hRR
    refine snd_cond _ rfl (fun hc18 => ?_) (fun hc18 => ?_)
    · try simp only [hcs] at hc18
      have lt_j : j < n := by omega
      refine snd_skip ?_
      refine snd_seq ?_
      refine snd_block ?_
      apply ld tokTB mixed (by kernel_rfl) (by kernel_rfl)
      · intro RR hRR
        refine w_move (by constructor) ?_
        refine w_ldc rfl kn32 (by constructor) (by exact sz32.symm) (by exact ag32.symm) ?_
        refine w_move (by constructor) ?_
        refine w_move (by constructor) ?_
        refine w_fac rfl und32 rfl kn24 nz24 (by decide) rfl (by constructor) ?_
        refine w_iac rfl rfl und24 kn23 (by exact sz23.symm) ?_ rfl ?_
        · exact ⟨by omega, by omega⟩
        refine w_iac rfl rfl und23 kn22 (by exact sz22.symm) ?_ rfl ?_
        · exact ⟨by omega, by omega⟩
        refine w_ldc rfl kn22 (by constructor) (by exact sz22.symm) (by exact ag22.symm) ?_
        refine y_call rfl (ec (ec exn)) (c_l01Form (v := T i j) (by omega) hv0.f8 (hv0.T8 i j)) ?_
        refine w_bsl1 und57 kn2 (by rw [sz2]; rfl) rfl (by constructor) (by exact trivial) (by exact sz2.symm) (by first | exact trivial | exact ssh_vec | exact ⟨rfl, fun _ => trivial⟩) ?_
        refine w_app_o und57 rfl rfl kn2 rfl rfl (fun C h => ⟨rfl, rfl, rfl, h⟩) (by rw [by2]; omega) (by omega) rfl ?_
        refine w_assign (by constructor) ?_
        exact hRR
      apply lr tokTB (by kernel_rfl)
      · intro RR hRR
        refine w_move (by constructor) ?_
        refine y_add rfl rfl ?_
        refine w_assign (by constructor) ?_
        exact hRR
      refine ⟨j + 1, (ρQ 905 1 905 912 i 909 31), ?_, (by omega), (by dsimp only; omega)⟩
      exact emb_fam1 (by decide) (by decide) (by decide) (by decide) (by decide) (by decide) (by decide) (by decide) (by decide) rfl (fun j hj hne => rfl) (fun h => absurd h (by omega)) (fun h => absurd h (by omega)) (fun r hr hne => famF_at (c := i) (w := (fun _ => n)) (F := formT p T fo) (by omega)) ⟨_, rfl, ⟨rfl, fun _ => trivial⟩, fun V => mt_app (fun _ _ => rfl) rfl⟩ ⟨m_calg, (by first | exact ⟨rfl, rfl, rfl, rfl⟩ | exact ⟨rfl, by omega, rfl, rfl⟩), (by first | exact m_int rfl | exact m_int (by omega) | exact m_int (by simp; done) | (exact m_int (by simp; omega))), (by first | exact ⟨rfl, rfl, rfl, rfl⟩ | exact ⟨rfl, by omega, rfl, rfl⟩), (by first | exact m_int rfl | exact m_int (by omega) | exact m_int (by simp; done) | (exact m_int (by simp; omega))), trivial⟩
    · try simp only [hcs] at hc18
      have ge_j : n = j := by omega
      subst ge_j
      refine snd_exit ?_
      apply lr tokTB (by kernel_rfl)
      · intro RR hRR
        refine w_move (by constructor) ?_
        refine w_move (by constructor) ?_
        refine w_bsl1 und52 kn57 (by rw [sz57]; rfl) rfl (by constructor) (by exact trivial) (by exact sz57.symm) (by first | exact trivial | exact ssh_vec | exact ⟨rfl, fun _ => trivial⟩) ?_
        refine w_app_o und52 rfl rfl kn57 rfl rfl (fun C h => ⟨rfl, rfl, rfl, h⟩) (by rw [by57]; omega) (by omega) rfl ?_
        refine w_assign (by constructor) ?_
        exact hRR
      apply lr tokTB (by kernel_rfl)
      · intro RR hRR
        refine w_move (by constructor) ?_
        refine y_add rfl rfl ?_
        refine w_assign (by constructor) ?_
        exact hRR
      refine ⟨i + 1, (ρP 905 1 35 909 i), ?_, (by omega), (by dsimp only; omega)⟩
      exact emb_fam (by decide) (by decide) (by decide) (by decide) rfl (fun j hj hne => appF_lt (by omega)) (fun h => (appF_ge (Nat.le_refl _) (by omega)).trans (by rw [Nat.sub_self]; rfl)) (fun h => ⟨_, rfl, fun V => mt_vec (fun j hj => rfl)⟩) (fun r hr hne => famF_at (c := i) (w := (fun _ => n)) (F := formT p T fo) (by omega)) ⟨m_calg, (by first | exact ⟨rfl, rfl, rfl, rfl⟩ | exact ⟨rfl, by omega, rfl, rfl⟩), (by first | exact m_int rfl | exact m_int (by omega) | exact m_int (by simp; done) | (exact m_int (by simp; omega))), trivial⟩
  · try simp only [hcs] at hc11
    have ge_i : n = i := by omega
    subst ge_i
    refine snd_exit ?_
    apply sd tokTB mixed (by kernel_rfl) (by kernel_rfl)
    · intro RR hRR
      refine w_fac rfl und32 rfl kn2 nz2 (by decide) rfl (by constructor) ?_
      refine w_ldc rfl kn2 (by constructor) (by exact sz2.symm) (by exact ag2.symm) ?_
      refine w_move (by constructor) ?_
      refine w_call rfl rfl ((rows_len (c_l01Echelon (n := n) (m := n) (R := formT p T fo) hv0.hp (by omega) (by omega) hn0 (fun i => formT_Bp (by omega) i))).mt ⟨rfl, mt_fam0 rfl (fun r hr => famF_at (w := fun _ => n) (F := formT p T fo) hr) (fun _ _ => rfl) (fun _ _ _ _ => rfl), trivial⟩) (.inl ⟨trivial, ⟨fun _ => trivial, trivial⟩⟩) rfl (by constructor) rfl ?_
      refine w_len_o rfl rfl und52 ?_
      refine w_fac rfl und32 rfl kn2 nz2 (by decide) rfl (by constructor) ?_
      refine w_ldc rfl kn2 (by constructor) (by exact sz2.symm) (by exact ag2.symm) ?_
      refine w_eql rfl rfl ?_
      refine w_assign (by constructor) ?_
      exact hRR
    refine snd_ret ?_
    exact rt (T := TB) (fun V => m_bool (decide_eq_decide.2 (by rw [rank_ech hv0.hp]; omega)))
end Go.Am

set_option linter.unusedVariables false
set_option linter.unusedSimpArgs false
set_option maxRecDepth 4000
namespace Go.Am
attribute [local irreducible] retQ retQp
open Go.Proofs
theorem c_l02Inverse_no {p : Int} {n : Nat} {T : Nat → Nat → Nat → Int} {fo : Nat → Int} (hv0 : VN p n T fo) {v : Nat → Int} (hv : VV p n v) (hone : ¬ oS p n n (fR p n T v)) : ACalls Try.prog TB 67 [algA p (n : Int) T fo, vecA v] (.tup 2 (pairA (vecA (bkV p n (fR p n T v))) (.bool (decide (oS p n n (fR p n T v)))))) [] := by
  have hp8 := hv0.p0
  have hn6 := hv0.n6
  have hn0 := hv0.n0
  have hv8 := hv.B8 (p := p) (by omega)
  have hu8 : B8 (uF p n T) := B8_of (by omega) hv0.u_Bp
  have hSp : ∀ r, Bp p (fR p n T v r) := fun r => sysR_Bp (fun _ j => timesF_Bp hv0.pp) (fun _ => hv0.u_Bp) r
  refine acalls_of tokTB Try.func67 rfl rfl (Nat.le_of_ble_eq_true rfl) ?_
  apply sr tokTB (by kernel_rfl)
  · intro RR hRR
    refine w_boxc (HV.eq (by constructor)) (by exact trivial) ?_
    refine w_boxc (HV.eq (by constructor)) (by exact trivial) ?_
    refine w_alloc kn30 rfl zr30 ?_
    refine w_assign (by constructor) ?_
    exact hRR
  apply sr tokTB (by kernel_rfl)
  · intro RR hRR
    refine w_ldc rfl kn32 (by constructor) (by exact sz32.symm) (by exact ag32.symm) ?_
    refine y_call rfl (ec exn) (c_l01Unit hv0) ?_
    refine w_bsl und52 kn57 (by rw [sz57]; rfl) rfl trivial trivial rfl ?_
    refine w_alloc kn30 rfl zr30 ?_
    refine w_stw rfl (by constructor) kn30 rfl (by exact trivial) (by first | exact trivial | exact ssh_vec | exact ssh_alg | exact ssh_tab | exact ssh_mat | exact ⟨rfl, fun _ => trivial⟩ | exact ⟨rfl, fun _ => by rw [zr30]; exact ssh_vec⟩) (by exact sz30.symm) ?_
    refine w_assign (by constructor) ?_
    exact hRR
  refine snd_seq ?_
  apply sr tokTB (by kernel_rfl)
  · intro RR hRR
    refine w_assign (by constructor) ?_
    exact hRR
  refine snd_block ?_
  refine snd_loop (S := Nat) (fun i => ([(2, .cptr (algA p (n : Int) T fo)), (3, .cptr (vecA v)), (4, .ptr 4 0 [] 0 (vecA (fun _ => 0))), (6, .ptr 6 0 [] 0 (vecA (fun _ => 0))), (7, .own 907 0 i 57), (8, .int .i64 (i : Int))], [(4, .one (vecA (fun _ => 0)) (vecA (fun _ => 0))), (6, .one (vecA (fun _ => 0)) (vecA (uF p n T))), (907, .one (ZR i) (CR i (n + 1) (fR p n T v)))])) (fun i => i ≤ n) (fun i => n - i) (0) (fun k i => bif Nat.beq k 907 then (17, i) else (k, i)) ?_ ?_ ?_
  · exact ⟨⟨m_calg, (m_cvec (fun _ _ => rfl)), ⟨rfl, rfl, rfl, rfl, rfl⟩, ⟨rfl, rfl, rfl, rfl, rfl⟩, (by first | exact ⟨rfl, rfl, rfl, rfl⟩ | exact ⟨rfl, by omega, rfl, rfl⟩), (by first | exact m_int rfl | exact m_int (by omega) | exact m_int (by simp; done) | (exact m_int (by simp; omega))), trivial⟩, ⟨⟨rfl, (by first | exact trivial | exact ssh_vec | exact ssh_alg | exact ssh_tab | exact ssh_mat | exact ⟨rfl, fun _ => trivial⟩ | exact ⟨rfl, fun _ => by rw [zr30]; exact ssh_vec⟩), (by first | exact mt_vec (fun _ _ => rfl) | exact mt_mat (fun _ _ _ _ => rfl) | exact mt_tab (fun _ _ _ _ _ _ => rfl) | exact mt_arr0 | exact mt_app (fun _ _ => rfl) rfl | exact ⟨rfl, fun _ _ => mt_row (fun _ _ => rfl)⟩ | exact Mt_closed (V := _) closed_alg (fun _ _ _ => trivial) (by simp))⟩, ⟨rfl, (by first | exact trivial | exact ssh_vec | exact ssh_alg | exact ssh_tab | exact ssh_mat | exact ⟨rfl, fun _ => trivial⟩ | exact ⟨rfl, fun _ => by rw [zr30]; exact ssh_vec⟩), (by exact mt_vec (fun _ _ => rfl))⟩, ⟨rfl, (by first | exact trivial | exact ssh_vec | exact ssh_alg | exact ssh_tab | exact ssh_mat | exact ⟨rfl, fun _ => trivial⟩ | exact ⟨rfl, fun _ => by rw [zr30]; exact ssh_vec⟩), (by exact ⟨rfl, fun _ h => absurd h (by omega)⟩)⟩, trivial⟩, ⟨⟨(fun h => by first | exact ⟨rfl, rfl⟩ | exact absurd h (by decide)), (fun h => by first | exact ⟨rfl, rfl⟩ | exact absurd h (by decide)), (fun h => by first | exact ⟨rfl, rfl⟩ | exact absurd h (by decide)), trivial⟩, ⟨(fun h => by first | exact ⟨rfl, rfl⟩ | exact absurd h (by decide)), (fun h => by first | exact ⟨rfl, rfl⟩ | exact absurd h (by decide)), (fun h => by first | exact ⟨rfl, rfl⟩ | exact absurd h (by decide)), trivial⟩, ⟨(fun h => by first | exact ⟨rfl, rfl⟩ | exact absurd h (by decide)), (fun h => by first | exact ⟨rfl, rfl⟩ | exact absurd h (by decide)), (fun h => by first | exact ⟨rfl, rfl⟩ | exact absurd h (by decide)), trivial⟩, trivial⟩⟩
  · exact Nat.zero_le _
  intro i hi0
  refine sq (env2 := [(2, .cptr (algA p (n : Int) T fo)), (3, .cptr (vecA v)), (4, .ptr 4 0 [] 0 (vecA (fun _ => 0))), (6, .ptr 6 0 [] 0 (vecA (fun _ => 0))), (7, .own 907 0 i 57), (8, .int .i64 (i : Int))]) (ol2 := [(4, .one (vecA (fun _ => 0)) (vecA (fun _ => 0))), (6, .one (vecA (fun _ => 0)) (vecA (uF p n T))), (907, .one (ZR i) (CR i (n + 1) (fR p n T v)))]) rfl rfl ?_
  refine snd_seq ?_
  apply sr tokTB (by kernel_rfl)
  · intro RR hRR
    refine w_move (by constructor) ?_
    refine w_fac rfl und32 rfl kn2 nz2 (by decide) rfl (by constructor) ?_
    refine w_ldc rfl kn2 (by constructor) (by exact sz2.symm) (by exact ag2.symm) ?_
    refine w_lss rfl rfl ?_
    exact hRR
  refine snd_cond _ rfl (fun hc21 => ?_) (fun hc21 => ?_)
  · try simp only [hcs] at hc21
    have lt_i : i < n := by omega
    refine snd_skip ?_
    refine snd_seq ?_
    refine snd_block ?_
    apply sr tokTB (by kernel_rfl)
    · intro RR hRR
      refine w_bsl und57 kn2 (by rw [sz2]; rfl) rfl trivial trivial rfl ?_
      refine w_assign (by constructor) ?_
      exact hRR
    refine snd_seq ?_
    apply sr tokTB (by kernel_rfl)
    · intro RR hRR
      refine w_assign (by constructor) ?_
      exact hRR
    refine snd_block ?_
    refine snd_loop (S := Nat) (fun j => ([(2, .cptr (algA p (n : Int) T fo)), (3, .cptr (vecA v)), (4, .ptr 4 0 [] 0 (vecA (fun _ => 0))), (6, .ptr 6 0 [] 0 (vecA (fun _ => 0))), (7, .own 907 0 i 57), (8, .int .i64 (i : Int)), (9, .own 909 0 j 2), (10, .int .i64 (j : Int))], [(4, .one (vecA (fun _ => 0)) (vecA (fun _ => 0))), (6, .one (vecA (fun _ => 0)) (vecA (uF p n T))), (907, .one (ZR i) (CR i (n + 1) (fR p n T v))), (909, .one (Z64 j) (C64 j (fun b => timesF p n T v (eF b) i)))])) (fun j => j ≤ n) (fun j => n - j) (0) (fun k i => bif Nat.beq k 909 then (24, i) else (k, i)) ?_ ?_ ?_
    · exact ⟨⟨m_calg, (m_cvec (fun _ _ => rfl)), ⟨rfl, rfl, rfl, rfl, rfl⟩, ⟨rfl, rfl, rfl, rfl, rfl⟩, (by first | exact ⟨rfl, rfl, rfl, rfl⟩ | exact ⟨rfl, by omega, rfl, rfl⟩), (by first | exact m_int rfl | exact m_int (by omega) | exact m_int (by simp; done) | (exact m_int (by simp; omega))), (by first | exact ⟨rfl, rfl, rfl, rfl⟩ | exact ⟨rfl, by omega, rfl, rfl⟩), (by first | exact m_int rfl | exact m_int (by omega) | exact m_int (by simp; done) | (exact m_int (by simp; omega))), trivial⟩, ⟨⟨rfl, (by first | exact trivial | exact ssh_vec | exact ssh_alg | exact ssh_tab | exact ssh_mat | exact ⟨rfl, fun _ => trivial⟩ | exact ⟨rfl, fun _ => by rw [zr30]; exact ssh_vec⟩), (by first | exact mt_vec (fun _ _ => rfl) | exact mt_mat (fun _ _ _ _ => rfl) | exact mt_tab (fun _ _ _ _ _ _ => rfl) | exact mt_arr0 | exact mt_app (fun _ _ => rfl) rfl | exact ⟨rfl, fun _ _ => mt_row (fun _ _ => rfl)⟩ | exact Mt_closed (V := _) closed_alg (fun _ _ _ => trivial) (by simp))⟩, ⟨rfl, (by first | exact trivial | exact ssh_vec | exact ssh_alg | exact ssh_tab | exact ssh_mat | exact ⟨rfl, fun _ => trivial⟩ | exact ⟨rfl, fun _ => by rw [zr30]; exact ssh_vec⟩), (by exact mt_vec (fun _ _ => rfl))⟩, ⟨rfl, (by first | exact trivial | exact ssh_vec | exact ssh_alg | exact ssh_tab | exact ssh_mat | exact ⟨rfl, fun _ => trivial⟩ | exact ⟨rfl, fun _ => by rw [zr30]; exact ssh_vec⟩), (by first | exact mt_vec (fun _ _ => rfl) | exact mt_mat (fun _ _ _ _ => rfl) | exact mt_tab (fun _ _ _ _ _ _ => rfl) | exact mt_arr0 | exact mt_app (fun _ _ => rfl) rfl | exact ⟨rfl, fun _ _ => mt_row (fun _ _ => rfl)⟩ | exact Mt_closed (V := _) closed_alg (fun _ _ _ => trivial) (by simp))⟩, ⟨rfl, (by first | exact trivial | exact ssh_vec | exact ssh_alg | exact ssh_tab | exact ssh_mat | exact ⟨rfl, fun _ => trivial⟩ | exact ⟨rfl, fun _ => by rw [zr30]; exact ssh_vec⟩), (by exact mt_arr0)⟩, trivial⟩, ⟨⟨(fun h => by first | exact ⟨rfl, rfl⟩ | exact absurd h (by decide)), (fun h => by first | exact ⟨rfl, rfl⟩ | exact absurd h (by decide)), (fun h => by first | exact ⟨rfl, rfl⟩ | exact absurd h (by decide)), (fun h => by first | exact ⟨rfl, rfl⟩ | exact absurd h (by decide)), trivial⟩, ⟨(fun h => by first | exact ⟨rfl, rfl⟩ | exact absurd h (by decide)), (fun h => by first | exact ⟨rfl, rfl⟩ | exact absurd h (by decide)), (fun h => by first | exact ⟨rfl, rfl⟩ | exact absurd h (by decide)), (fun h => by first | exact ⟨rfl, rfl⟩ | exact absurd h (by decide)), trivial⟩, ⟨(fun h => by first | exact ⟨rfl, rfl⟩ | exact absurd h (by decide)), (fun h => by first | exact ⟨rfl, rfl⟩ | exact absurd h (by decide)), (fun h => by first | exact ⟨rfl, rfl⟩ | exact absurd h (by decide)), (fun h => by first | exact ⟨rfl, rfl⟩ | exact absurd h (by decide)), trivial⟩, ⟨(fun h => by first | exact ⟨rfl, rfl⟩ | exact absurd h (by decide)), (fun h => by first | exact ⟨rfl, rfl⟩ | exact absurd h (by decide)), (fun h => by first | exact ⟨rfl, rfl⟩ | exact absurd h (by decide)), (fun h => by first | exact ⟨rfl, rfl⟩ | exact absurd h (by decide)), trivial⟩, trivial⟩⟩
    · exact Nat.zero_le _
    intro j hi2
    refine sq (env2 := [(2, .cptr (algA p (n : Int) T fo)), (3, .cptr (vecA v)), (4, .ptr 4 0 [] 0 (vecA (fun _ => 0))), (6, .ptr 6 0 [] 0 (vecA (fun _ => 0))), (7, .own 907 0 i 57), (8, .int .i64 (i : Int)), (9, .own 909 0 j 2), (10, .int .i64 (j : Int))]) (ol2 := [(4, .one (vecA (fun _ => 0)) (vecA (fun _ => 0))), (6, .one (vecA (fun _ => 0)) (vecA (uF p n T))), (907, .one (ZR i) (CR i (n + 1) (fR p n T v))), (909, .one (Z64 j) (C64 j (fun b => timesF p n T v (eF b) i)))]) rfl rfl ?_
    refine snd_seq ?_
    apply sr tokTB (by kernel_rfl)
    · intro RR hRR
      refine w_move (by constructor) ?_
      refine w_fac rfl und32 rfl kn2 nz2 (by decide) rfl (by constructor) ?_
      refine w_ldc rfl kn2 (by constructor) (by exact sz2.symm) (by exact ag2.symm) ?_
      refine w_lss rfl rfl ?_
      exact hRR
    refine snd_cond _ rfl (fun hc28 => ?_) (fun hc28 => ?_)
    · try simp only [hcs] at hc28
      have lt_j : j < n := by omega
      refine snd_skip ?_
      refine snd_seq ?_
      refine snd_block ?_
      apply ld tokTB mixed (by kernel_rfl) (by kernel_rfl)
      · intro RR hRR
        refine w_move (by constructor) ?_
        refine w_ldc rfl kn32 (by constructor) (by exact sz32.symm) (by exact ag32.symm) ?_
        refine w_ldc rfl kn30 (by constructor) (by exact sz30.symm) (by exact ag30.symm) ?_
        refine w_move (by constructor) ?_
        refine y_call rfl (ec exn) (c_l01Basis (i := j) (by omega)) ?_
        refine y_call rfl (ec (ec (ec exn))) (c_l01Times (u := v) (v := eF j) (by omega) (by omega) hn6 hv0.T8 (hv8) (eF_B8 j)) ?_
        refine w_move (by constructor) ?_
        refine w_ixa rfl rfl und30 kn5 (by exact sz5.symm) ?_ (by constructor) (by exact ag5.symm) ?_
        · exact ⟨by omega, by omega⟩
        refine w_conv rfl und5 und2 (by exact w64b (timesF_B8 (by omega) (by omega)) _) ?_
        refine w_bsl1 und57 kn2 (by rw [sz2]; rfl) rfl (by constructor) (by exact trivial) (by exact sz2.symm) (by first | exact trivial | exact ssh_vec | exact ⟨rfl, fun _ => trivial⟩) ?_
        refine w_app_o und57 rfl rfl kn2 rfl rfl (fun C h => ⟨rfl, rfl, rfl, h⟩) (by rw [by2]; omega) (by omega) rfl ?_
        refine w_assign (by constructor) ?_
        exact hRR
      apply lr tokTB (by kernel_rfl)
      · intro RR hRR
        refine w_move (by constructor) ?_
        refine y_add rfl rfl ?_
        refine w_assign (by constructor) ?_
        exact hRR
      refine ⟨j + 1, (fun k i => bif Nat.beq k 909 then (41, i) else (k, i)), ?_, (by omega), (by dsimp only; omega)⟩
      exact ⟨⟨m_calg, (m_cvec (fun _ _ => rfl)), ⟨rfl, rfl, rfl, rfl, rfl⟩, ⟨rfl, rfl, rfl, rfl, rfl⟩, (by first | exact ⟨rfl, rfl, rfl, rfl⟩ | exact ⟨rfl, by omega, rfl, rfl⟩), (by first | exact m_int rfl | exact m_int (by omega) | exact m_int (by simp; done) | (exact m_int (by simp; omega))), (by first | exact ⟨rfl, rfl, rfl, rfl⟩ | exact ⟨rfl, by omega, rfl, rfl⟩), (by first | exact m_int rfl | exact m_int (by omega) | exact m_int (by simp; done) | (exact m_int (by simp; omega))), trivial⟩, ⟨⟨rfl, (by first | exact trivial | exact ssh_vec | exact ssh_alg | exact ssh_tab | exact ssh_mat | exact ⟨rfl, fun _ => trivial⟩ | exact ⟨rfl, fun _ => by rw [zr30]; exact ssh_vec⟩), (by first | exact mt_vec (fun _ _ => rfl) | exact mt_mat (fun _ _ _ _ => rfl) | exact mt_tab (fun _ _ _ _ _ _ => rfl) | exact mt_arr0 | exact mt_app (fun _ _ => rfl) rfl | exact ⟨rfl, fun _ _ => mt_row (fun _ _ => rfl)⟩ | exact Mt_closed (V := _) closed_alg (fun _ _ _ => trivial) (by simp))⟩, ⟨rfl, (by first | exact trivial | exact ssh_vec | exact ssh_alg | exact ssh_tab | exact ssh_mat | exact ⟨rfl, fun _ => trivial⟩ | exact ⟨rfl, fun _ => by rw [zr30]; exact ssh_vec⟩), (by exact mt_vec (fun _ _ => rfl))⟩, ⟨rfl, (by first | exact trivial | exact ssh_vec | exact ssh_alg | exact ssh_tab | exact ssh_mat | exact ⟨rfl, fun _ => trivial⟩ | exact ⟨rfl, fun _ => by rw [zr30]; exact ssh_vec⟩), (by first | exact mt_vec (fun _ _ => rfl) | exact mt_mat (fun _ _ _ _ => rfl) | exact mt_tab (fun _ _ _ _ _ _ => rfl) | exact mt_arr0 | exact mt_app (fun _ _ => rfl) rfl | exact ⟨rfl, fun _ _ => mt_row (fun _ _ => rfl)⟩ | exact Mt_closed (V := _) closed_alg (fun _ _ _ => trivial) (by simp))⟩, ⟨rfl, (by first | exact trivial | exact ssh_vec | exact ssh_alg | exact ssh_tab | exact ssh_mat | exact ⟨rfl, fun _ => trivial⟩ | exact ⟨rfl, fun _ => by rw [zr30]; exact ssh_vec⟩), (by exact mt_app (fun _ _ => rfl) rfl)⟩, trivial⟩, ⟨⟨(fun h => by first | exact ⟨rfl, rfl⟩ | exact absurd h (by decide)), (fun h => by first | exact ⟨rfl, rfl⟩ | exact absurd h (by decide)), (fun h => by first | exact ⟨rfl, rfl⟩ | exact absurd h (by decide)), (fun h => by first | exact ⟨rfl, rfl⟩ | exact absurd h (by decide)), trivial⟩, ⟨(fun h => by first | exact ⟨rfl, rfl⟩ | exact absurd h (by decide)), (fun h => by first | exact ⟨rfl, rfl⟩ | exact absurd h (by decide)), (fun h => by first | exact ⟨rfl, rfl⟩ | exact absurd h (by decide)), (fun h => by first | exact ⟨rfl, rfl⟩ | exact absurd h (by decide)), trivial⟩, ⟨(fun h => by first | exact ⟨rfl, rfl⟩ | exact absurd h (by decide)), (fun h => by first | exact ⟨rfl, rfl⟩ | exact absurd h (by decide)), (fun h => by first | exact ⟨rfl, rfl⟩ | exact absurd h (by decide)), (fun h => by first | exact ⟨rfl, rfl⟩ | exact absurd h (by decide)), trivial⟩, ⟨(fun h => by first | exact ⟨rfl, rfl⟩ | exact absurd h (by decide)), (fun h => by first | exact ⟨rfl, rfl⟩ | exact absurd h (by decide)), (fun h => by first | exact ⟨rfl, rfl⟩ | exact absurd h (by decide)), (fun h => by first | exact ⟨rfl, rfl⟩ | exact absurd h (by decide)), trivial⟩, trivial⟩⟩
    · try simp only [hcs] at hc28
      have ge_j : n = j := by omega
      subst ge_j
      refine snd_exit ?_
      apply lr tokTB (by kernel_rfl)
      · intro RR hRR
        refine w_move (by constructor) ?_
        refine w_move (by constructor) ?_
        refine w_move (by constructor) ?_
        refine w_iap rfl rfl und30 kn5 rfl (by exact sz5.symm) rfl ?_ ?_
        · exact ⟨by omega, by omega⟩
        first | refine w_ldc rfl kn5 (by constructor) (by exact sz5.symm) (by exact ag5.symm) ?_ | refine w_ldp rfl kn5 rfl (by constructor) (by exact sz5.symm) (by exact ag5.symm) ?_
        refine w_conv rfl und5 und2 (by exact w64b hu8 _) ?_
        refine w_bsl1 und57 kn2 (by rw [sz2]; rfl) rfl (by constructor) (by exact trivial) (by exact sz2.symm) (by first | exact trivial | exact ssh_vec | exact ⟨rfl, fun _ => trivial⟩) ?_
        refine w_app_o und57 rfl rfl kn2 rfl rfl (fun C h => ⟨rfl, rfl, rfl, h⟩) (by rw [by2]; omega) (by omega) rfl ?_
        refine w_bsl1 und52 kn57 (by rw [sz57]; rfl) rfl (by constructor) (by exact trivial) (by exact sz57.symm) (by first | exact trivial | exact ssh_vec | exact ⟨rfl, fun _ => trivial⟩) ?_
        refine w_app_o und52 rfl rfl kn57 rfl rfl (fun C h => ⟨rfl, rfl, rfl, h⟩) (by rw [by57]; omega) (by omega) rfl ?_
        refine w_assign (by constructor) ?_
        exact hRR
      apply lr tokTB (by kernel_rfl)
      · intro RR hRR
        refine w_move (by constructor) ?_
        refine y_add rfl rfl ?_
        refine w_assign (by constructor) ?_
        exact hRR
      refine ⟨i + 1, (fun k i => bif Nat.beq k 907 then (51, i) else (k, i)), ?_, (by omega), (by dsimp only; omega)⟩
      exact ⟨⟨m_calg, (m_cvec (fun _ _ => rfl)), ⟨rfl, rfl, rfl, rfl, rfl⟩, ⟨rfl, rfl, rfl, rfl, rfl⟩, (by first | exact ⟨rfl, rfl, rfl, rfl⟩ | exact ⟨rfl, by omega, rfl, rfl⟩), (by first | exact m_int rfl | exact m_int (by omega) | exact m_int (by simp; done) | (exact m_int (by simp; omega))), trivial⟩, ⟨⟨rfl, (by first | exact trivial | exact ssh_vec | exact ssh_alg | exact ssh_tab | exact ssh_mat | exact ⟨rfl, fun _ => trivial⟩ | exact ⟨rfl, fun _ => by rw [zr30]; exact ssh_vec⟩), (by first | exact mt_vec (fun _ _ => rfl) | exact mt_mat (fun _ _ _ _ => rfl) | exact mt_tab (fun _ _ _ _ _ _ => rfl) | exact mt_arr0 | exact mt_app (fun _ _ => rfl) rfl | exact ⟨rfl, fun _ _ => mt_row (fun _ _ => rfl)⟩ | exact Mt_closed (V := _) closed_alg (fun _ _ _ => trivial) (by simp))⟩, ⟨rfl, (by first | exact trivial | exact ssh_vec | exact ssh_alg | exact ssh_tab | exact ssh_mat | exact ⟨rfl, fun _ => trivial⟩ | exact ⟨rfl, fun _ => by rw [zr30]; exact ssh_vec⟩), (by exact mt_vec (fun _ _ => rfl))⟩, ⟨rfl, (by first | exact trivial | exact ssh_vec | exact ssh_alg | exact ssh_tab | exact ssh_mat | exact ⟨rfl, fun _ => trivial⟩ | exact ⟨rfl, fun _ => by rw [zr30]; exact ssh_vec⟩), (by exact mt_app' (by omega) (fun _ _ => mt_row (fun _ _ => rfl)) (mt_fz (by exact ⟨(ne_fst rfl), (ne_fst rfl), (ne_fst rfl), trivial⟩) rfl (fun j hj => by rcases Nat.lt_or_ge j n with h | h; (rw [appF_lt h]; exact congrArg (AV.int .i64) (sys1_lt (M := fun j => timesF p n T v (eF j)) (k := i) (j := j) (by omega) h).symm); (rw [appF_ge h hj, show j - n = 0 by omega]; exact congrArg (AV.int .i64) (by rw [show j = n by omega]; exact (sys1_n (M := fun j => timesF p n T v (eF j)) (u := uF p n T) (k := i) (by omega)).symm)))))⟩, trivial⟩, ⟨⟨(fun h => by first | exact ⟨rfl, rfl⟩ | exact absurd h (by decide)), (fun h => by first | exact ⟨rfl, rfl⟩ | exact absurd h (by decide)), (fun h => by first | exact ⟨rfl, rfl⟩ | exact absurd h (by decide)), trivial⟩, ⟨(fun h => by first | exact ⟨rfl, rfl⟩ | exact absurd h (by decide)), (fun h => by first | exact ⟨rfl, rfl⟩ | exact absurd h (by decide)), (fun h => by first | exact ⟨rfl, rfl⟩ | exact absurd h (by decide)), trivial⟩, ⟨(fun h => by first | exact ⟨rfl, rfl⟩ | exact absurd h (by decide)), (fun h => by first | exact ⟨rfl, rfl⟩ | exact absurd h (by decide)), (fun h => by first | exact ⟨rfl, rfl⟩ | exact absurd h (by decide)), trivial⟩, trivial⟩⟩
  · try simp only [hcs] at hc21
    have ge_i : n = i := by omega
    subst ge_i
    refine snd_exit ?_
    apply sr tokTB (by kernel_rfl)
    · intro RR hRR
      refine w_fac rfl und32 rfl kn2 nz2 (by decide) rfl (by constructor) ?_
      refine w_ldc rfl kn2 (by constructor) (by exact sz2.symm) (by exact ag2.symm) ?_
      refine w_move (by constructor) ?_
      refine y_call rfl (ec (ec exn)) (c_l01Solve_no (N := n) (n := n) (S := fR p n T v) hv0.hp (by omega) (by omega) (by omega) hSp hone) ?_
      refine w_move (by constructor) ?_
      refine w_ext rfl (by decide) (by constructor) ?_
      refine w_ext rfl (by decide) (by constructor) ?_
      refine w_assign (by constructor) ?_
      refine w_assign (by constructor) ?_
      exact hRR
    apply sr tokTB (by kernel_rfl)
    · intro RR hRR
      refine w_bld_a kn30 zr30 und30 kn5 (fun _ => (by exact sz5.symm)) trivial rfl (by exact sz5.symm) ?_
      refine w_alloc kn30 rfl zr30 ?_
      refine w_stw rfl (by constructor) kn30 rfl (by exact trivial) (by first | exact trivial | exact ssh_vec | exact ssh_alg | exact ssh_tab | exact ssh_mat | exact ⟨rfl, fun _ => trivial⟩ | exact ⟨rfl, fun _ => by rw [zr30]; exact ssh_vec⟩) (by exact sz30.symm) ?_
      exact hRR
    refine snd_seq ?_
    apply sr tokTB (by kernel_rfl)
    · intro RR hRR
      refine w_assign (by constructor) ?_
      exact hRR
    refine snd_block ?_
    refine snd_loop (S := Nat) (fun j => ([(4, .ptr 4 0 [] 0 (vecA (fun _ => 0))), (11, .nilsl), (12, .bool false), (13, .ptr 13 0 [] 0 (vecA (fun _ => 0))), (14, .int .i64 (j : Int))], [(4, .one (vecA (fun _ => 0)) (vecA (fun _ => 0))), (13, .one (vecA (fun _ => 0)) (vecA (fun _ => 0)))])) (fun j => j ≤ 0) (fun j => 0 - j) (0) ρ0 ?_ ?_ ?_
    · exact ⟨⟨⟨rfl, rfl, rfl, rfl, rfl⟩, rfl, (by first | exact m_bool rfl | exact m_bool (by simp)), ⟨rfl, rfl, rfl, rfl, rfl⟩, (by first | exact m_int rfl | exact m_int (by omega) | exact m_int (by simp; done) | (exact m_int (by simp; omega))), trivial⟩, ⟨⟨rfl, (by first | exact trivial | exact ssh_vec | exact ssh_alg | exact ssh_tab | exact ssh_mat | exact ⟨rfl, fun _ => trivial⟩ | exact ⟨rfl, fun _ => by rw [zr30]; exact ssh_vec⟩), (by first | exact mt_vec (fun _ _ => rfl) | exact mt_mat (fun _ _ _ _ => rfl) | exact mt_tab (fun _ _ _ _ _ _ => rfl) | exact mt_arr0 | exact mt_app (fun _ _ => rfl) rfl | exact ⟨rfl, fun _ _ => mt_row (fun _ _ => rfl)⟩ | exact Mt_closed (V := _) closed_alg (fun _ _ _ => trivial) (by simp))⟩, ⟨rfl, (by first | exact trivial | exact ssh_vec | exact ssh_alg | exact ssh_tab | exact ssh_mat | exact ⟨rfl, fun _ => trivial⟩ | exact ⟨rfl, fun _ => by rw [zr30]; exact ssh_vec⟩), (by first | exact mt_vec (fun _ _ => rfl) | exact mt_mat (fun _ _ _ _ => rfl) | exact mt_tab (fun _ _ _ _ _ _ => rfl) | exact mt_arr0 | exact mt_app (fun _ _ => rfl) rfl | exact ⟨rfl, fun _ _ => mt_row (fun _ _ => rfl)⟩ | exact Mt_closed (V := _) closed_alg (fun _ _ _ => trivial) (by simp))⟩, trivial⟩, ⟨⟨(fun h => by first | exact ⟨rfl, rfl⟩ | exact absurd h (by decide)), (fun h => by first | exact ⟨rfl, rfl⟩ | exact absurd h (by decide)), trivial⟩, ⟨(fun h => by first | exact ⟨rfl, rfl⟩ | exact absurd h (by decide)), (fun h => by first | exact ⟨rfl, rfl⟩ | exact absurd h (by decide)), trivial⟩, trivial⟩⟩
    · exact Nat.zero_le _
    intro j hi4
    refine sq (env2 := [(4, .ptr 4 0 [] 0 (vecA (fun _ => 0))), (11, .nilsl), (12, .bool false), (13, .ptr 13 0 [] 0 (vecA (fun _ => 0))), (14, .int .i64 (j : Int))]) (ol2 := [(4, .one (vecA (fun _ => 0)) (vecA (fun _ => 0))), (13, .one (vecA (fun _ => 0)) (vecA (fun _ => 0)))]) rfl rfl ?_
    refine snd_seq ?_
    apply sr tokTB (by kernel_rfl)
    · intro RR hRR
      refine w_move (by constructor) ?_
      refine w_move (by constructor) ?_
      refine w_len_n rfl rfl und57 ?_
      refine w_lss rfl rfl ?_
      exact hRR
    refine snd_cond _ rfl (fun hc63 => ?_) (fun hc63 => ?_)
    · try simp only [hcs] at hc63
      have lt_j : j < 0 := by omega
      omega
    · try simp only [hcs] at hc63
      have ge_j : 0 = j := by omega
      subst ge_j
      refine snd_exit ?_
      apply sr tokTB (by kernel_rfl)
      · intro RR hRR
        refine w_ldp rfl kn30 rfl (by constructor) (by exact sz30.symm) (by exact ag30.symm) ?_
        refine w_move (by constructor) ?_
        refine w_stw rfl (by constructor) kn30 rfl (by exact trivial) (by first | exact trivial | exact ssh_vec | exact ssh_alg | exact ssh_tab | exact ssh_mat | exact ⟨rfl, fun _ => trivial⟩ | exact ⟨rfl, fun _ => by rw [zr30]; exact ssh_vec⟩) (by exact sz30.symm) ?_
        refine w_assign (by constructor) ?_
        exact hRR
      refine snd_ret ?_
      show retQ TB _ _ _ _ _ _
      exact rt_ct (T := TB) rfl kn30 rfl (by exact sz30.symm) (by exact ag30.symm) (fun V => mt_vec (fun z _ => by rw [bkV, if_neg hone])) (fun V => congrArg AV.bool (by rw [decide_eq_false hone]))
theorem c_l02Inverse_ok {p : Int} {n : Nat} {T : Nat → Nat → Nat → Int} {fo : Nat → Int} (hv0 : VN p n T fo) {v : Nat → Int} (hv : VV p n v) (hone : oS p n n (fR p n T v)) : ACalls Try.prog TB 67 [algA p (n : Int) T fo, vecA v] (.tup 2 (pairA (vecA (bkV p n (fR p n T v))) (.bool (decide (oS p n n (fR p n T v)))))) [] := by
  have hp8 := hv0.p0
  have hn6 := hv0.n6
  have hn0 := hv0.n0
  have hv8 := hv.B8 (p := p) (by omega)
  have hu8 : B8 (uF p n T) := B8_of (by omega) hv0.u_Bp
  have hSp : ∀ r, Bp p (fR p n T v r) := fun r => sysR_Bp (fun _ j => timesF_Bp hv0.pp) (fun _ => hv0.u_Bp) r
  obtain ⟨⟨l, hrr⟩, _⟩ := ech_ok (m := n + 1) (R := fR p n T v) hv0.hp n (fun r _ => hSp r)
  have hOB : B8 (cutF (fun a => (echGo p (n + 1) (fR p n T v) n).O a n) n) := fun a => by unfold cutF; dsimp only; split; (have := hrr.bp a (by have := hone.1; omega) n; omega); omega
  refine acalls_of tokTB Try.func67 rfl rfl (Nat.le_of_ble_eq_true rfl) ?_
  apply sr tokTB (by kernel_rfl)
  · intro RR hRR
    refine w_boxc (HV.eq (by constructor)) (by exact trivial) ?_
    refine w_boxc (HV.eq (by constructor)) (by exact trivial) ?_
    refine w_alloc kn30 rfl zr30 ?_
    refine w_assign (by constructor) ?_
    exact hRR
  apply sr tokTB (by kernel_rfl)
  · intro RR hRR
    refine w_ldc rfl kn32 (by constructor) (by exact sz32.symm) (by exact ag32.symm) ?_
    refine y_call rfl (ec exn) (c_l01Unit hv0) ?_
    refine w_bsl und52 kn57 (by rw [sz57]; rfl) rfl trivial trivial rfl ?_
    refine w_alloc kn30 rfl zr30 ?_
    refine w_stw rfl (by constructor) kn30 rfl (by exact trivial) (by first | exact trivial | exact ssh_vec | exact ssh_alg | exact ssh_tab | exact ssh_mat | exact ⟨rfl, fun _ => trivial⟩ | exact ⟨rfl, fun _ => by rw [zr30]; exact ssh_vec⟩) (by exact sz30.symm) ?_
    refine w_assign (by constructor) ?_
    exact hRR
  refine snd_seq ?_
  apply sr tokTB (by kernel_rfl)
  · intro RR hRR
    refine w_assign (by constructor) ?_
    exact hRR
  refine snd_block ?_
  refine snd_loop (S := Nat) (fun i => ([(2, .cptr (algA p (n : Int) T fo)), (3, .cptr (vecA v)), (4, .ptr 4 0 [] 0 (vecA (fun _ => 0))), (6, .ptr 6 0 [] 0 (vecA (fun _ => 0))), (7, .own 907 0 i 57), (8, .int .i64 (i : Int))], [(4, .one (vecA (fun _ => 0)) (vecA (fun _ => 0))), (6, .one (vecA (fun _ => 0)) (vecA (uF p n T))), (907, .one (ZR i) (CR i (n + 1) (fR p n T v)))])) (fun i => i ≤ n) (fun i => n - i) (0) (fun k i => bif Nat.beq k 907 then (17, i) else (k, i)) ?_ ?_ ?_
  · exact ⟨⟨m_calg, (m_cvec (fun _ _ => rfl)), ⟨rfl, rfl, rfl, rfl, rfl⟩, ⟨rfl, rfl, rfl, rfl, rfl⟩, (by first | exact ⟨rfl, rfl, rfl, rfl⟩ | exact ⟨rfl, by omega, rfl, rfl⟩), (by first | exact m_int rfl | exact m_int (by omega) | exact m_int (by simp; done) | (exact m_int (by simp; omega))), trivial⟩, ⟨⟨rfl, (by first | exact trivial | exact ssh_vec | exact ssh_alg | exact ssh_tab | exact ssh_mat | exact ⟨rfl, fun _ => trivial⟩ | exact ⟨rfl, fun _ => by rw [zr30]; exact ssh_vec⟩), (by first | exact mt_vec (fun _ _ => rfl) | exact mt_mat (fun _ _ _ _ => rfl) | exact mt_tab (fun _ _ _ _ _ _ => rfl) | exact mt_arr0 | exact mt_app (fun _ _ => rfl) rfl | exact ⟨rfl, fun _ _ => mt_row (fun _ _ => rfl)⟩ | exact Mt_closed (V := _) closed_alg (fun _ _ _ => trivial) (by simp))⟩, ⟨rfl, (by first | exact trivial | exact ssh_vec | exact ssh_alg | exact ssh_tab | exact ssh_mat | exact ⟨rfl, fun _ => trivial⟩ | exact ⟨rfl, fun _ => by rw [zr30]; exact ssh_vec⟩), (by exact mt_vec (fun _ _ => rfl))⟩, ⟨rfl, (by first | exact trivial | exact ssh_vec | exact ssh_alg | exact ssh_tab | exact ssh_mat | exact ⟨rfl, fun _ => trivial⟩ | exact ⟨rfl, fun _ => by rw [zr30]; exact ssh_vec⟩), (by exact ⟨rfl, fun _ h => absurd h (by omega)⟩)⟩, trivial⟩, ⟨⟨(fun h => by first | exact ⟨rfl, rfl⟩ | exact absurd h (by decide)), (fun h => by first | exact ⟨rfl, rfl⟩ | exact absurd h (by decide)), (fun h => by first | exact ⟨rfl, rfl⟩ | exact absurd h (by decide)), trivial⟩, ⟨(fun h => by first | exact ⟨rfl, rfl⟩ | exact absurd h (by decide)), (fun h => by first | exact ⟨rfl, rfl⟩ | exact absurd h (by decide)), (fun h => by first | exact ⟨rfl, rfl⟩ | exact absurd h (by decide)), trivial⟩, ⟨(fun h => by first | exact ⟨rfl, rfl⟩ | exact absurd h (by decide)), (fun h => by first | exact ⟨rfl, rfl⟩ | exact absurd h (by decide)), (fun h => by first | exact ⟨rfl, rfl⟩ | exact absurd h (by decide)), trivial⟩, trivial⟩⟩
  · exact Nat.zero_le _
  intro i hi0
  refine sq (env2 := [(2, .cptr (algA p (n : Int) T fo)), (3, .cptr (vecA v)), (4, .ptr 4 0 [] 0 (vecA (fun _ => 0))), (6, .ptr 6 0 [] 0 (vecA (fun _ => 0))), (7, .own 907 0 i 57), (8, .int .i64 (i : Int))]) (ol2 := [(4, .one (vecA (fun _ => 0)) (vecA (fun _ => 0))), (6, .one (vecA (fun _ => 0)) (vecA (uF p n T))), (907, .one (ZR i) (CR i (n + 1) (fR p n T v)))]) rfl rfl ?_
  refine snd_seq ?_
  apply sr tokTB (by kernel_rfl)
  · intro RR hRR
    refine w_move (by constructor) ?_
    refine w_fac rfl und32 rfl kn2 nz2 (by decide) rfl (by constructor) ?_
    refine w_ldc rfl kn2 (by constructor) (by exact sz2.symm) (by exact ag2.symm) ?_
    refine w_lss rfl rfl ?_
    exact hRR
  refine snd_cond _ rfl (fun hc21 => ?_) (fun hc21 => ?_)
  · try simp only [hcs] at hc21
    have lt_i : i < n := by omega
    refine snd_skip ?_
    refine snd_seq ?_
    refine snd_block ?_
    apply sr tokTB (by kernel_rfl)
    · intro RR hRR
      refine w_bsl und57 kn2 (by rw [sz2]; rfl) rfl trivial trivial rfl ?_
      refine w_assign (by constructor) ?_
      exact hRR
    refine snd_seq ?_
    apply sr tokTB (by kernel_rfl)
    · intro RR hRR
      refine w_assign (by constructor) ?_
      exact hRR
    refine snd_block ?_
    refine snd_loop (S := Nat) (fun j => ([(2, .cptr (algA p (n : Int) T fo)), (3, .cptr (vecA v)), (4, .ptr 4 0 [] 0 (vecA (fun _ => 0))), (6, .ptr 6 0 [] 0 (vecA (fun _ => 0))), (7, .own 907 0 i 57), (8, .int .i64 (i : Int)), (9, .own 909 0 j 2), (10, .int .i64 (j : Int))], [(4, .one (vecA (fun _ => 0)) (vecA (fun _ => 0))), (6, .one (vecA (fun _ => 0)) (vecA (uF p n T))), (907, .one (ZR i) (CR i (n + 1) (fR p n T v))), (909, .one (Z64 j) (C64 j (fun b => timesF p n T v (eF b) i)))])) (fun j => j ≤ n) (fun j => n - j) (0) (fun k i => bif Nat.beq k 909 then (24, i) else (k, i)) ?_ ?_ ?_
    · exact ⟨⟨m_calg, (m_cvec (fun _ _ => rfl)), ⟨rfl, rfl, rfl, rfl, rfl⟩, ⟨rfl, rfl, rfl, rfl, rfl⟩, (by first | exact ⟨rfl, rfl, rfl, rfl⟩ | exact ⟨rfl, by omega, rfl, rfl⟩), (by first | exact m_int rfl | exact m_int (by omega) | exact m_int (by simp; done) | (exact m_int (by simp; omega))), (by first | exact ⟨rfl, rfl, rfl, rfl⟩ | exact ⟨rfl, by omega, rfl, rfl⟩), (by first | exact m_int rfl | exact m_int (by omega) | exact m_int (by simp; done) | (exact m_int (by simp; omega))), trivial⟩, ⟨⟨rfl, (by first | exact trivial | exact ssh_vec | exact ssh_alg | exact ssh_tab | exact ssh_mat | exact ⟨rfl, fun _ => trivial⟩ | exact ⟨rfl, fun _ => by rw [zr30]; exact ssh_vec⟩), (by first | exact mt_vec (fun _ _ => rfl) | exact mt_mat (fun _ _ _ _ => rfl) | exact mt_tab (fun _ _ _ _ _ _ => rfl) | exact mt_arr0 | exact mt_app (fun _ _ => rfl) rfl | exact ⟨rfl, fun _ _ => mt_row (fun _ _ => rfl)⟩ | exact Mt_closed (V := _) closed_alg (fun _ _ _ => trivial) (by simp))⟩, ⟨rfl, (by first | exact trivial | exact ssh_vec | exact ssh_alg | exact ssh_tab | exact ssh_mat | exact ⟨rfl, fun _ => trivial⟩ | exact ⟨rfl, fun _ => by rw [zr30]; exact ssh_vec⟩), (by exact mt_vec (fun _ _ => rfl))⟩, ⟨rfl, (by first | exact trivial | exact ssh_vec | exact ssh_alg | exact ssh_tab | exact ssh_mat | exact ⟨rfl, fun _ => trivial⟩ | exact ⟨rfl, fun _ => by rw [zr30]; exact ssh_vec⟩), (by first | exact mt_vec (fun _ _ => rfl) | exact mt_mat (fun _ _ _ _ => rfl) | exact mt_tab (fun _ _ _ _ _ _ => rfl) | exact mt_arr0 | exact mt_app (fun _ _ => rfl) rfl | exact ⟨rfl, fun _ _ => mt_row (fun _ _ => rfl)⟩ | exact Mt_closed (V := _) closed_alg (fun _ _ _ => trivial) (by simp))⟩, ⟨rfl, (by first | exact trivial | exact ssh_vec | exact ssh_alg | exact ssh_tab | exact ssh_mat | exact ⟨rfl, fun _ => trivial⟩ | exact ⟨rfl, fun _ => by rw [zr30]; exact ssh_vec⟩), (by exact mt_arr0)⟩, trivial⟩, ⟨⟨(fun h => by first | exact ⟨rfl, rfl⟩ | exact absurd h (by decide)), (fun h => by first | exact ⟨rfl, rfl⟩ | exact absurd h (by decide)), (fun h => by first | exact ⟨rfl, rfl⟩ | exact absurd h (by decide)), (fun h => by first | exact ⟨rfl, rfl⟩ | exact absurd h (by decide)), trivial⟩, ⟨(fun h => by first | exact ⟨rfl, rfl⟩ | exact absurd h (by decide)), (fun h => by first | exact ⟨rfl, rfl⟩ | exact absurd h (by decide)), (fun h => by first | exact ⟨rfl, rfl⟩ | exact absurd h (by decide)), (fun h => by first | exact ⟨rfl, rfl⟩ | exact absurd h (by decide)), trivial⟩, ⟨(fun h => by first | exact ⟨rfl, rfl⟩ | exact absurd h (by decide)), (fun h => by first | exact ⟨rfl, rfl⟩ | exact absurd h (by decide)), (fun h => by first | exact ⟨rfl, rfl⟩ | exact absurd h (by decide)), (fun h => by first | exact ⟨rfl, rfl⟩ | exact absurd h (by decide)), trivial⟩, ⟨(fun h => by first | exact ⟨rfl, rfl⟩ | exact absurd h (by decide)), (fun h => by first | exact ⟨rfl, rfl⟩ | exact absurd h (by decide)), (fun h => by first | exact ⟨rfl, rfl⟩ | exact absurd h (by decide)), (fun h => by first | exact ⟨rfl, rfl⟩ | exact absurd h (by decide)), trivial⟩, trivial⟩⟩
    · exact Nat.zero_le _
    intro j hi2
    refine sq (env2 := [(2, .cptr (algA p (n : Int) T fo)), (3, .cptr (vecA v)), (4, .ptr 4 0 [] 0 (vecA (fun _ => 0))), (6, .ptr 6 0 [] 0 (vecA (fun _ => 0))), (7, .own 907 0 i 57), (8, .int .i64 (i : Int)), (9, .own 909 0 j 2), (10, .int .i64 (j : Int))]) (ol2 := [(4, .one (vecA (fun _ => 0)) (vecA (fun _ => 0))), (6, .one (vecA (fun _ => 0)) (vecA (uF p n T))), (907, .one (ZR i) (CR i (n + 1) (fR p n T v))), (909, .one (Z64 j) (C64 j (fun b => timesF p n T v (eF b) i)))]) rfl rfl ?_
    refine snd_seq ?_
    apply sr tokTB (by kernel_rfl)
    · intro RR hRR
      refine w_move (by constructor) ?_
      refine w_fac rfl und32 rfl kn2 nz2 (by decide) rfl (by constructor) ?_
      refine w_ldc rfl kn2 (by constructor) (by exact sz2.symm) (by exact ag2.symm) ?_
      refine w_lss rfl rfl ?_
      exact hRR
    refine snd_cond _ rfl (fun hc28 => ?_) (fun hc28 => ?_)
    · try simp only [hcs] at hc28
      have lt_j : j < n := by omega
      refine snd_skip ?_
      refine snd_seq ?_
      refine snd_block ?_
      apply ld tokTB mixed (by kernel_rfl) (by kernel_rfl)
      · intro RR hRR
        refine w_move (by constructor) ?_
        refine w_ldc rfl kn32 (by constructor) (by exact sz32.symm) (by exact ag32.symm) ?_
        refine w_ldc rfl kn30 (by constructor) (by exact sz30.symm) (by exact ag30.symm) ?_
        refine w_move (by constructor) ?_
        refine y_call rfl (ec exn) (c_l01Basis (i := j) (by omega)) ?_
        refine y_call rfl (ec (ec (ec exn))) (c_l01Times (u := v) (v := eF j) (by omega) (by omega) hn6 hv0.T8 (hv8) (eF_B8 j)) ?_
        refine w_move (by constructor) ?_
        refine w_ixa rfl rfl und30 kn5 (by exact sz5.symm) ?_ (by constructor) (by exact ag5.symm) ?_
        · exact ⟨by omega, by omega⟩
        refine w_conv rfl und5 und2 (by exact w64b (timesF_B8 (by omega) (by omega)) _) ?_
        refine w_bsl1 und57 kn2 (by rw [sz2]; rfl) rfl (by constructor) (by exact trivial) (by exact sz2.symm) (by first | exact trivial | exact ssh_vec | exact ⟨rfl, fun _ => trivial⟩) ?_
        refine w_app_o und57 rfl rfl kn2 rfl rfl (fun C h => ⟨rfl, rfl, rfl, h⟩) (by rw [by2]; omega) (by omega) rfl ?_
        refine w_assign (by constructor) ?_
        exact hRR
      apply lr tokTB (by kernel_rfl)
      · intro RR hRR
        refine w_move (by constructor) ?_
        refine y_add rfl rfl ?_
        refine w_assign (by constructor) ?_
        exact hRR
      refine ⟨j + 1, (fun k i => bif Nat.beq k 909 then (41, i) else (k, i)), ?_, (by omega), (by dsimp only; omega)⟩
      exact ⟨⟨m_calg, (m_cvec (fun _ _ => rfl)), ⟨rfl, rfl, rfl, rfl, rfl⟩, ⟨rfl, rfl, rfl, rfl, rfl⟩, (by first | exact ⟨rfl, rfl, rfl, rfl⟩ | exact ⟨rfl, by omega, rfl, rfl⟩), (by first | exact m_int rfl | exact m_int (by omega) | exact m_int (by simp; done) | (exact m_int (by simp; omega))), (by first | exact ⟨rfl, rfl, rfl, rfl⟩ | exact ⟨rfl, by omega, rfl, rfl⟩), (by first | exact m_int rfl | exact m_int (by omega) | exact m_int (by simp; done) | (exact m_int (by simp; omega))), trivial⟩, ⟨⟨rfl, (by first | exact trivial | exact ssh_vec | exact ssh_alg | exact ssh_tab | exact ssh_mat | exact ⟨rfl, fun _ => trivial⟩ | exact ⟨rfl, fun _ => by rw [zr30]; exact ssh_vec⟩), (by first | exact mt_vec (fun _ _ => rfl) | exact mt_mat (fun _ _ _ _ => rfl) | exact mt_tab (fun _ _ _ _ _ _ => rfl) | exact mt_arr0 | exact mt_app (fun _ _ => rfl) rfl | exact ⟨rfl, fun _ _ => mt_row (fun _ _ => rfl)⟩ | exact Mt_closed (V := _) closed_alg (fun _ _ _ => trivial) (by simp))⟩, ⟨rfl, (by first | exact trivial | exact ssh_vec | exact ssh_alg | exact ssh_tab | exact ssh_mat | exact ⟨rfl, fun _ => trivial⟩ | exact ⟨rfl, fun _ => by rw [zr30]; exact ssh_vec⟩), (by exact mt_vec (fun _ _ => rfl))⟩, ⟨rfl, (by first | exact trivial | exact ssh_vec | exact ssh_alg | exact ssh_tab | exact ssh_mat | exact ⟨rfl, fun _ => trivial⟩ | exact ⟨rfl, fun _ => by rw [zr30]; exact ssh_vec⟩), (by first | exact mt_vec (fun _ _ => rfl) | exact mt_mat (fun _ _ _ _ => rfl) | exact mt_tab (fun _ _ _ _ _ _ => rfl) | exact mt_arr0 | exact mt_app (fun _ _ => rfl) rfl | exact ⟨rfl, fun _ _ => mt_row (fun _ _ => rfl)⟩ | exact Mt_closed (V := _) closed_alg (fun _ _ _ => trivial) (by simp))⟩, ⟨rfl, (by first | exact trivial | exact ssh_vec | exact ssh_alg | exact ssh_tab | exact ssh_mat | exact ⟨rfl, fun _ => trivial⟩ | exact ⟨rfl, fun _ => by rw [zr30]; exact ssh_vec⟩), (by exact mt_app (fun _ _ => rfl) rfl)⟩, trivial⟩, ⟨⟨(fun h => by first | exact ⟨rfl, rfl⟩ | exact absurd h (by decide)), (fun h => by first | exact ⟨rfl, rfl⟩ | exact absurd h (by decide)), (fun h => by first | exact ⟨rfl, rfl⟩ | exact absurd h (by decide)), (fun h => by first | exact ⟨rfl, rfl⟩ | exact absurd h (by decide)), trivial⟩, ⟨(fun h => by first | exact ⟨rfl, rfl⟩ | exact absurd h (by decide)), (fun h => by first | exact ⟨rfl, rfl⟩ | exact absurd h (by decide)), (fun h => by first | exact ⟨rfl, rfl⟩ | exact absurd h (by decide)), (fun h => by first | exact ⟨rfl, rfl⟩ | exact absurd h (by decide)), trivial⟩, ⟨(fun h => by first | exact ⟨rfl, rfl⟩ | exact absurd h (by decide)), (fun h => by first | exact ⟨rfl, rfl⟩ | exact absurd h (by decide)), (fun h => by first | exact ⟨rfl, rfl⟩ | exact absurd h (by decide)), (fun h => by first | exact ⟨rfl, rfl⟩ | exact absurd h (by decide)), trivial⟩, ⟨(fun h => by first | exact ⟨rfl, rfl⟩ | exact absurd h (by decide)), (fun h => by first | exact ⟨rfl, rfl⟩ | exact absurd h (by decide)), (fun h => by first | exact ⟨rfl, rfl⟩ | exact absurd h (by decide)), (fun h => by first | exact ⟨rfl, rfl⟩ | exact absurd h (by decide)), trivial⟩, trivial⟩⟩
    · try simp only [hcs] at hc28
      have ge_j : n = j := by omega
      subst ge_j
      refine snd_exit ?_
      apply lr tokTB (by kernel_rfl)
      · intro RR hRR
        refine w_move (by constructor) ?_
        refine w_move (by constructor) ?_
        refine w_move (by constructor) ?_
        refine w_iap rfl rfl und30 kn5 rfl (by exact sz5.symm) rfl ?_ ?_
        · exact ⟨by omega, by omega⟩
        first | refine w_ldc rfl kn5 (by constructor) (by exact sz5.symm) (by exact ag5.symm) ?_ | refine w_ldp rfl kn5 rfl (by constructor) (by exact sz5.symm) (by exact ag5.symm) ?_
        refine w_conv rfl und5 und2 (by exact w64b hu8 _) ?_
        refine w_bsl1 und57 kn2 (by rw [sz2]; rfl) rfl (by constructor) (by exact trivial) (by exact sz2.symm) (by first | exact trivial | exact ssh_vec | exact ⟨rfl, fun _ => trivial⟩) ?_
        refine w_app_o und57 rfl rfl kn2 rfl rfl (fun C h => ⟨rfl, rfl, rfl, h⟩) (by rw [by2]; omega) (by omega) rfl ?_
        refine w_bsl1 und52 kn57 (by rw [sz57]; rfl) rfl (by constructor) (by exact trivial) (by exact sz57.symm) (by first | exact trivial | exact ssh_vec | exact ⟨rfl, fun _ => trivial⟩) ?_
        refine w_app_o und52 rfl rfl kn57 rfl rfl (fun C h => ⟨rfl, rfl, rfl, h⟩) (by rw [by57]; omega) (by omega) rfl ?_
        refine w_assign (by constructor) ?_
        exact hRR
      apply lr tokTB (by kernel_rfl)
      · intro RR hRR
        refine w_move (by constructor) ?_
        refine y_add rfl rfl ?_
        refine w_assign (by constructor) ?_
        exact hRR
      refine ⟨i + 1, (fun k i => bif Nat.beq k 907 then (51, i) else (k, i)), ?_, (by omega), (by dsimp only; omega)⟩
      exact ⟨⟨m_calg, (m_cvec (fun _ _ => rfl)), ⟨rfl, rfl, rfl, rfl, rfl⟩, ⟨rfl, rfl, rfl, rfl, rfl⟩, (by first | exact ⟨rfl, rfl, rfl, rfl⟩ | exact ⟨rfl, by omega, rfl, rfl⟩), (by first | exact m_int rfl | exact m_int (by omega) | exact m_int (by simp; done) | (exact m_int (by simp; omega))), trivial⟩, ⟨⟨rfl, (by first | exact trivial | exact ssh_vec | exact ssh_alg | exact ssh_tab | exact ssh_mat | exact ⟨rfl, fun _ => trivial⟩ | exact ⟨rfl, fun _ => by rw [zr30]; exact ssh_vec⟩), (by first | exact mt_vec (fun _ _ => rfl) | exact mt_mat (fun _ _ _ _ => rfl) | exact mt_tab (fun _ _ _ _ _ _ => rfl) | exact mt_arr0 | exact mt_app (fun _ _ => rfl) rfl | exact ⟨rfl, fun _ _ => mt_row (fun _ _ => rfl)⟩ | exact Mt_closed (V := _) closed_alg (fun _ _ _ => trivial) (by simp))⟩, ⟨rfl, (by first | exact trivial | exact ssh_vec | exact ssh_alg | exact ssh_tab | exact ssh_mat | exact ⟨rfl, fun _ => trivial⟩ | exact ⟨rfl, fun _ => by rw [zr30]; exact ssh_vec⟩), (by exact mt_vec (fun _ _ => rfl))⟩, ⟨rfl, (by first | exact trivial | exact ssh_vec | exact ssh_alg | exact ssh_tab | exact ssh_mat | exact ⟨rfl, fun _ => trivial⟩ | exact ⟨rfl, fun _ => by rw [zr30]; exact ssh_vec⟩), (by exact mt_app' (by omega) (fun _ _ => mt_row (fun _ _ => rfl)) (mt_fz (by exact ⟨(ne_fst rfl), (ne_fst rfl), (ne_fst rfl), trivial⟩) rfl (fun j hj => by rcases Nat.lt_or_ge j n with h | h; (rw [appF_lt h]; exact congrArg (AV.int .i64) (sys1_lt (M := fun j => timesF p n T v (eF j)) (k := i) (j := j) (by omega) h).symm); (rw [appF_ge h hj, show j - n = 0 by omega]; exact congrArg (AV.int .i64) (by rw [show j = n by omega]; exact (sys1_n (M := fun j => timesF p n T v (eF j)) (u := uF p n T) (k := i) (by omega)).symm)))))⟩, trivial⟩, ⟨⟨(fun h => by first | exact ⟨rfl, rfl⟩ | exact absurd h (by decide)), (fun h => by first | exact ⟨rfl, rfl⟩ | exact absurd h (by decide)), (fun h => by first | exact ⟨rfl, rfl⟩ | exact absurd h (by decide)), trivial⟩, ⟨(fun h => by first | exact ⟨rfl, rfl⟩ | exact absurd h (by decide)), (fun h => by first | exact ⟨rfl, rfl⟩ | exact absurd h (by decide)), (fun h => by first | exact ⟨rfl, rfl⟩ | exact absurd h (by decide)), trivial⟩, ⟨(fun h => by first | exact ⟨rfl, rfl⟩ | exact absurd h (by decide)), (fun h => by first | exact ⟨rfl, rfl⟩ | exact absurd h (by decide)), (fun h => by first | exact ⟨rfl, rfl⟩ | exact absurd h (by decide)), trivial⟩, trivial⟩⟩
  · try simp only [hcs] at hc21
    have ge_i : n = i := by omega
    subst ge_i
    refine snd_exit ?_
    apply sr tokTB (by kernel_rfl)
    · intro RR hRR
      refine w_fac rfl und32 rfl kn2 nz2 (by decide) rfl (by constructor) ?_
      refine w_ldc rfl kn2 (by constructor) (by exact sz2.symm) (by exact ag2.symm) ?_
      refine w_move (by constructor) ?_
      refine w_call rfl (ec (ec exn)) (c_l01Solve_ok (N := n) (n := n) (S := fR p n T v) hv0.hp (by omega) (by omega) (by omega) hSp hone) (.inl ⟨nr_pair trivial trivial, ⟨fun _ => trivial, trivial⟩⟩) rfl (by constructor) rfl ?_
      refine w_move (by constructor) ?_
      refine w_ext rfl (by decide) (by constructor) ?_
      refine w_ext rfl (by decide) (by constructor) ?_
      refine w_assign (by constructor) ?_
      refine w_assign (by constructor) ?_
      exact hRR
    apply sr tokTB (by kernel_rfl)
    · intro RR hRR
      refine w_bld_a kn30 zr30 und30 kn5 (fun _ => (by exact sz5.symm)) trivial rfl (by exact sz5.symm) ?_
      refine w_alloc kn30 rfl zr30 ?_
      refine w_stw rfl (by constructor) kn30 rfl (by exact trivial) (by first | exact trivial | exact ssh_vec | exact ssh_alg | exact ssh_tab | exact ssh_mat | exact ⟨rfl, fun _ => trivial⟩ | exact ⟨rfl, fun _ => by rw [zr30]; exact ssh_vec⟩) (by exact sz30.symm) ?_
      exact hRR
    refine snd_seq ?_
    apply sr tokTB (by kernel_rfl)
    · intro RR hRR
      refine w_assign (by constructor) ?_
      exact hRR
    refine snd_block ?_
    refine snd_loop (S := Nat) (fun q => ([(4, .ptr 4 0 [] 0 (vecA (fun _ => 0))), (11, .own 57000 0 n 2), (12, .bool true), (13, .ptr 13 0 [] 0 (vecA (fun _ => 0))), (14, .int .i64 (q : Int))], [(4, .one (vecA (fun _ => 0)) (vecA (fun _ => 0))), (57000, .one (Z64 n) (C64 n (fun a => (echGo p (n + 1) (fR p n T v) n).O a n))), (13, .one (vecA (fun _ => 0)) (vecA (cutF (fun a => (echGo p (n + 1) (fR p n T v) n).O a n) q)))])) (fun q => q ≤ n) (fun q => n - q) (0) ρ0 ?_ ?_ ?_
    · exact ⟨⟨⟨rfl, rfl, rfl, rfl, rfl⟩, (by first | exact ⟨rfl, rfl, rfl, rfl⟩ | exact ⟨rfl, by omega, rfl, rfl⟩), (by first | exact m_bool rfl | exact m_bool (by simp)), ⟨rfl, rfl, rfl, rfl, rfl⟩, (by first | exact m_int rfl | exact m_int (by omega) | exact m_int (by simp; done) | (exact m_int (by simp; omega))), trivial⟩, ⟨⟨rfl, (by first | exact trivial | exact ssh_vec | exact ssh_alg | exact ssh_tab | exact ssh_mat | exact ⟨rfl, fun _ => trivial⟩ | exact ⟨rfl, fun _ => by rw [zr30]; exact ssh_vec⟩), (by first | exact mt_vec (fun _ _ => rfl) | exact mt_mat (fun _ _ _ _ => rfl) | exact mt_tab (fun _ _ _ _ _ _ => rfl) | exact mt_arr0 | exact mt_app (fun _ _ => rfl) rfl | exact ⟨rfl, fun _ _ => mt_row (fun _ _ => rfl)⟩ | exact Mt_closed (V := _) closed_alg (fun _ _ _ => trivial) (by simp))⟩, ⟨rfl, (by first | exact trivial | exact ssh_vec | exact ssh_alg | exact ssh_tab | exact ssh_mat | exact ⟨rfl, fun _ => trivial⟩ | exact ⟨rfl, fun _ => by rw [zr30]; exact ssh_vec⟩), (by exact mt_vec (fun _ _ => rfl))⟩, ⟨rfl, (by first | exact trivial | exact ssh_vec | exact ssh_alg | exact ssh_tab | exact ssh_mat | exact ⟨rfl, fun _ => trivial⟩ | exact ⟨rfl, fun _ => by rw [zr30]; exact ssh_vec⟩), (by exact mt_vec (fun z _ => by simp [cutF]))⟩, trivial⟩, ⟨⟨(fun h => by first | exact ⟨rfl, rfl⟩ | exact absurd h (by decide)), (fun h => by first | exact ⟨rfl, rfl⟩ | exact absurd h (by decide)), (fun h => by first | exact ⟨rfl, rfl⟩ | exact absurd h (by decide)), trivial⟩, ⟨(fun h => by first | exact ⟨rfl, rfl⟩ | exact absurd h (by decide)), (fun h => by first | exact ⟨rfl, rfl⟩ | exact absurd h (by decide)), (fun h => by first | exact ⟨rfl, rfl⟩ | exact absurd h (by decide)), trivial⟩, ⟨(fun h => by first | exact ⟨rfl, rfl⟩ | exact absurd h (by decide)), (fun h => by first | exact ⟨rfl, rfl⟩ | exact absurd h (by decide)), (fun h => by first | exact ⟨rfl, rfl⟩ | exact absurd h (by decide)), trivial⟩, trivial⟩⟩
    · exact Nat.zero_le _
    intro q hi4
    refine sq (env2 := [(4, .ptr 4 0 [] 0 (vecA (fun _ => 0))), (11, .own 57000 0 n 2), (12, .bool true), (13, .ptr 13 0 [] 0 (vecA (fun _ => 0))), (14, .int .i64 (q : Int))]) (ol2 := [(4, .one (vecA (fun _ => 0)) (vecA (fun _ => 0))), (57000, .one (Z64 n) (C64 n (fun a => (echGo p (n + 1) (fR p n T v) n).O a n))), (13, .one (vecA (fun _ => 0)) (vecA (cutF (fun a => (echGo p (n + 1) (fR p n T v) n).O a n) q)))]) rfl rfl ?_
    refine snd_seq ?_
    apply sr tokTB (by kernel_rfl)
    · intro RR hRR
      refine w_move (by constructor) ?_
      refine w_move (by constructor) ?_
      refine w_len_o rfl rfl und57 ?_
      refine w_lss rfl rfl ?_
      exact hRR
    refine snd_cond _ rfl (fun hc63 => ?_) (fun hc63 => ?_)
    · try simp only [hcs] at hc63
      have lt_q : q < n := by omega
      refine snd_skip ?_
      refine snd_seq ?_
      refine snd_block ?_
      apply lr tokTB (by kernel_rfl)
      · intro RR hRR
        refine w_move (by constructor) ?_
        refine w_move (by constructor) ?_
        refine w_move (by constructor) ?_
        refine w_iao rfl rfl und57 kn2 ?_ ?_
        · exact ⟨by omega, by omega⟩
        first | refine w_ldc rfl kn2 (by constructor) (by exact sz2.symm) (by exact ag2.symm) ?_ | refine w_ldp rfl kn2 rfl (by constructor) (by exact sz2.symm) (by exact ag2.symm) ?_
        refine w_conv rfl und2 und5 (by exact w8 (by exact (hrr.bp q (by have := hone.1; omega) n).1) (by have := (hrr.bp q (by have := hone.1; omega) n).2; exact Int.lt_of_lt_of_le this (by omega))) ?_
        refine w_iap rfl rfl und30 kn5 rfl (by exact sz5.symm) rfl ?_ ?_
        · exact ⟨by omega, by omega⟩
        first | refine w_stw rfl (by constructor) kn5 rfl (by exact trivial) (by first | exact trivial | exact ssh_vec | exact ssh_alg | exact ssh_tab | exact ssh_mat | exact ⟨rfl, fun _ => trivial⟩ | exact ⟨rfl, fun _ => by rw [zr30]; exact ssh_vec⟩) (by exact sz5.symm) ?_ | refine w_sti rfl rfl kn5 rfl (by exact trivial) (by exact sz5.symm) ?_ | refine w_store rfl (HV.eq (by constructor)) kn5 rfl (by exact trivial) (by first | exact trivial | exact ssh_vec | exact ssh_alg | exact ssh_tab | exact ssh_mat | exact ⟨rfl, fun _ => trivial⟩ | exact ⟨rfl, fun _ => by rw [zr30]; exact ssh_vec⟩) (by exact sz5.symm) (put_in (by first | exact put_mat | exact put_tab | exact put_alg0 | exact put_alg1 | exact put_alg2 | exact put_alg3 | exact put_alg3i | exact put_alg2ij | exact put_alg2ijk | exact put_mat2 | exact put_tab2 | exact put_tab3)) ?_ | refine w_store rfl (HV.eq (by constructor)) kn5 rfl (by exact trivial) (by exact trivial) (by exact sz5.symm) rfl ?_
        exact hRR
      apply lr tokTB (by kernel_rfl)
      · intro RR hRR
        refine w_move (by constructor) ?_
        refine y_add rfl rfl ?_
        refine w_assign (by constructor) ?_
        exact hRR
      refine ⟨q + 1, ρ0, ?_, (by omega), (by dsimp only; omega)⟩
      exact ⟨⟨⟨rfl, rfl, rfl, rfl, rfl⟩, (by first | exact ⟨rfl, rfl, rfl, rfl⟩ | exact ⟨rfl, by omega, rfl, rfl⟩), (by first | exact m_bool rfl | exact m_bool (by simp)), ⟨rfl, rfl, rfl, rfl, rfl⟩, (by first | exact m_int rfl | exact m_int (by omega) | exact m_int (by simp; done) | (exact m_int (by simp; omega))), trivial⟩, ⟨⟨rfl, (by first | exact trivial | exact ssh_vec | exact ssh_alg | exact ssh_tab | exact ssh_mat | exact ⟨rfl, fun _ => trivial⟩ | exact ⟨rfl, fun _ => by rw [zr30]; exact ssh_vec⟩), (by first | exact mt_vec (fun _ _ => rfl) | exact mt_mat (fun _ _ _ _ => rfl) | exact mt_tab (fun _ _ _ _ _ _ => rfl) | exact mt_arr0 | exact mt_app (fun _ _ => rfl) rfl | exact ⟨rfl, fun _ _ => mt_row (fun _ _ => rfl)⟩ | exact Mt_closed (V := _) closed_alg (fun _ _ _ => trivial) (by simp))⟩, ⟨rfl, (by first | exact trivial | exact ssh_vec | exact ssh_alg | exact ssh_tab | exact ssh_mat | exact ⟨rfl, fun _ => trivial⟩ | exact ⟨rfl, fun _ => by rw [zr30]; exact ssh_vec⟩), (by exact mt_vec (fun _ _ => rfl))⟩, ⟨rfl, (by first | exact trivial | exact ssh_vec | exact ssh_alg | exact ssh_tab | exact ssh_mat | exact ⟨rfl, fun _ => trivial⟩ | exact ⟨rfl, fun _ => by rw [zr30]; exact ssh_vec⟩), (by exact mt_vec (fun z _ => upd_cut _ q z))⟩, trivial⟩, ⟨⟨(fun h => by first | exact ⟨rfl, rfl⟩ | exact absurd h (by decide)), (fun h => by first | exact ⟨rfl, rfl⟩ | exact absurd h (by decide)), (fun h => by first | exact ⟨rfl, rfl⟩ | exact absurd h (by decide)), trivial⟩, ⟨(fun h => by first | exact ⟨rfl, rfl⟩ | exact absurd h (by decide)), (fun h => by first | exact ⟨rfl, rfl⟩ | exact absurd h (by decide)), (fun h => by first | exact ⟨rfl, rfl⟩ | exact absurd h (by decide)), trivial⟩, ⟨(fun h => by first | exact ⟨rfl, rfl⟩ | exact absurd h (by decide)), (fun h => by first | exact ⟨rfl, rfl⟩ | exact absurd h (by decide)), (fun h => by first | exact ⟨rfl, rfl⟩ | exact absurd h (by decide)), trivial⟩, trivial⟩⟩
    · try simp only [hcs] at hc63
      have ge_q : n = q := by omega
      subst ge_q
      refine snd_exit ?_
      apply sr tokTB (by kernel_rfl)
      · intro RR hRR
        refine w_ldp rfl kn30 rfl (by constructor) (by exact sz30.symm) (by exact ag30.symm) ?_
        refine w_move (by constructor) ?_
        refine w_stw rfl (by constructor) kn30 rfl (by exact trivial) (by first | exact trivial | exact ssh_vec | exact ssh_alg | exact ssh_tab | exact ssh_mat | exact ⟨rfl, fun _ => trivial⟩ | exact ⟨rfl, fun _ => by rw [zr30]; exact ssh_vec⟩) (by exact sz30.symm) ?_
        refine w_assign (by constructor) ?_
        exact hRR
      refine snd_ret ?_
      show retQ TB _ _ _ _ _ _
      exact rt_ct (T := TB) rfl kn30 rfl (by exact sz30.symm) (by exact ag30.symm) (fun V => mt_vec (fun z _ => by rw [bkV, if_pos hone]; unfold sS cutF; simp)) (fun V => congrArg AV.bool (by rw [decide_eq_true hone]))
end Go.Am

set_option linter.unusedVariables false
set_option linter.unusedSimpArgs false
set_option maxRecDepth 4000
namespace Go.Am
attribute [local irreducible] retQ retQp
open Go.Proofs
def iG (x : Nat) : Nat := if x = 0 then 152 else 153
theorem iHf {p : Int} {n : Nat} {T : Nat → Nat → Nat → Int} {fo : Nat → Int} (hv0 : VN p n T fo) {v : Nat → Int} (hv : VV p n v) : ∀ x, x < 2 → ∀ i, i < n → ACalls Try.prog TB (iG x) (vecA (eF i) :: capL 2 (cap2 (.cptr (.cptr (algA p (n : Int) T fo))) (.cptr (vecA v)))) (vecA (iM p n T v x i)) [] := by
  intro x _ i _
  have hp8 := hv0.p0
  unfold iG iM
  by_cases h : x = 0
  · simp only [h, if_true]; exact c_ahead1 (by omega) (by omega) hv0.n6 hv0.T8 (eF_B8 _) (hv.B8 (by omega))
  · simp only [h, if_false]; exact c_behind1 (by omega) (by omega) hv0.n6 hv0.T8 (eF_B8 _) (hv.B8 (by omega))
theorem c_inverse {p : Int} {n : Nat} {T : Nat → Nat → Nat → Int} {fo : Nat → Int} (hv0 : VN p n T fo) {v : Nat → Int} (hv : VV p n v) : ACalls Try.prog TB 70 [.cptr (algA p (n : Int) T fo), vecA v] (.tup 2 (pairA (vecA (iF p n T v)) (.bool (decide (iOk p n T v))))) [] := by
  have hp8 := hv0.p0
  have hn6 := hv0.n6
  have hn0 := hv0.n0
  refine acalls_of tokTB Try.func70 rfl rfl (Nat.le_of_ble_eq_true rfl) ?_
  apply sr tokTB (by kernel_rfl)
  · intro RR hRR
    refine w_boxc (HV.eq (by constructor)) (by exact trivial) ?_
    refine w_alloc kn30 rfl zr30 ?_
    refine w_assign (by constructor) ?_
    exact hRR
  apply sr tokTB (by kernel_rfl)
  · intro RR hRR
    refine w_move (by constructor) ?_
    refine y_call rfl (ec exn) (c_unit hv0) ?_
    refine w_alloc kn30 rfl zr30 ?_
    refine w_stw rfl (by constructor) kn30 rfl (by exact trivial) (by first | exact trivial | exact ssh_vec | exact ssh_alg | exact ssh_tab | exact ssh_mat | exact ⟨rfl, fun _ => trivial⟩ | exact ⟨rfl, fun _ => by rw [zr30]; exact ssh_vec⟩) (by exact sz30.symm) ?_
    exact hRR
  apply sd tokTB mixed (by kernel_rfl) (by kernel_rfl)
  · intro RR hRR
    refine w_move (by constructor) ?_
    refine w_ldp rfl kn30 rfl (by constructor) (by exact sz30.symm) (by exact ag30.symm) ?_
    refine w_ldp rfl kn30 rfl (by constructor) (by exact sz30.symm) (by exact ag30.symm) ?_
    refine w_bsl2 und27 kn30 (by rw [sz30]; rfl) rfl (by constructor) (by constructor) (by first | exact trivial | exact cel_cap2) (by first | exact trivial | exact cel_cap2) (by exact sz30.symm) (by exact sz30.symm) (by first | exact trivial | exact ssh_vec | exact ⟨rfl, fun _ => trivial⟩) (by first | exact trivial | exact ssh_vec | exact ⟨rfl, fun _ => trivial⟩) ?_
    refine w_move (by constructor) ?_
    refine w_ldc rfl kn30 (by constructor) (by exact sz30.symm) (by exact ag30.symm) ?_
    refine w_callc rfl (ec (ec exn)) (c_ahead) (by exact closed_cap2 closed_calg (closed_vec (n := 6))) (by exact ⟨closed_calg, closed_vec (n := 6), trivial⟩) ?_
    refine w_move (by constructor) ?_
    refine w_ldc rfl kn30 (by constructor) (by exact sz30.symm) (by exact ag30.symm) ?_
    refine w_callc rfl (ec (ec exn)) (c_behind) (by exact closed_cap2 closed_calg (closed_vec (n := 6))) (by exact ⟨closed_calg, closed_vec (n := 6), trivial⟩) ?_
    refine w_bsl2 und66 kn71 (by rw [sz71]; rfl) rfl (by constructor) (by constructor) (by first | exact trivial | exact cel_cap2) (by first | exact trivial | exact cel_cap2) (by exact sz71.symm) (by exact sz71.symm) (by first | exact trivial | exact ssh_vec | exact ⟨rfl, fun _ => trivial⟩) (by first | exact trivial | exact ssh_vec | exact ⟨rfl, fun _ => trivial⟩) ?_
    refine w_call0 rfl rfl ((c_solved (M := 2) (n := n) (G := iG) (NC := fun _ => 2) (CP := fun _ => cap2 (.cptr (.cptr (algA p (n : Int) T fo))) (.cptr (vecA v))) (Fv := iM p n T v) (W := fun _ => uF p n T) (p := p) (T := T) (fo := fo) hv0.hp (by omega) (by omega) hn0 hn6 (fun _ => closed_cap2 closed_calg (closed_vec (n := 6))) (fun x i => iM_Bp hv0.pp v x i) (fun _ => hv0.u_Bp) (iHf hv0 hv)).mt ⟨mt_expc (by exact closed_calg) (by simp), mt_exp2 rfl (mt_expc (closed_vec (n := 6)) (by simp)) (mt_expc (closed_vec (n := 6)) (by simp)), mt_exp2 rfl (mt_expc (closed_cap2 closed_calg (closed_vec (n := 6))) (by simp)) (mt_expc (closed_cap2 closed_calg (closed_vec (n := 6))) (by simp)), trivial⟩) (by exact nr_pair (fun _ => trivial) trivial) (fun _ => by exact shift_pair rfl rfl) ?_
    refine w_ext rfl (by decide) (by constructor) ?_
    refine w_ext rfl (by decide) (by constructor) ?_
    refine w_stw rfl (by constructor) kn30 rfl (by exact trivial) (by first | exact trivial | exact ssh_vec | exact ssh_alg | exact ssh_tab | exact ssh_mat | exact ⟨rfl, fun _ => trivial⟩ | exact ⟨rfl, fun _ => by rw [zr30]; exact ssh_vec⟩) (by exact sz30.symm) ?_
    refine w_assign (by constructor) ?_
    exact hRR
  refine snd_ret ?_
  show retQ TB _ _ _ _ _ _
  exact rt_ct (T := TB) rfl kn30 rfl sz30.symm ag30.symm (fun V => mt_vec (fun _ _ => rfl)) (fun V => congrArg AV.bool rfl)
theorem c_l02Inverse {p : Int} {n : Nat} {T : Nat → Nat → Nat → Int} {fo : Nat → Int} (hv0 : VN p n T fo) {v : Nat → Int} (hv : VV p n v) : ACalls Try.prog TB 67 [algA p (n : Int) T fo, vecA v] (.tup 2 (pairA (vecA (bkV p n (fR p n T v))) (.bool (decide (iOk p n T v))))) [] := by
  rw [← decide_eq_decide.2 (fwd_iff hv0 hv)]
  by_cases h : oS p n n (fR p n T v)
  · exact c_l02Inverse_ok hv0 hv h
  · exact c_l02Inverse_no hv0 hv h
end Go.Am

set_option linter.unusedVariables false
set_option linter.unusedSimpArgs false
set_option maxRecDepth 4000
namespace Go.Am
attribute [local irreducible] retQ retQp
open Go.Proofs
theorem c_eqByteA6 {v : Nat → Int} : ACalls Try.prog TB 154 [vecA v, vecA v] (.bool true) [] := by
  refine acalls_of tokTB Try.func154 rfl rfl (Nat.le_of_ble_eq_true rfl) ?_
  apply sr tokTB (by kernel_rfl)
  · intro RR hRR
    refine w_boxc (HV.eq (by constructor)) (by exact trivial) ?_
    refine w_boxc (HV.eq (by constructor)) (by exact trivial) ?_
    refine w_assign (by constructor) ?_
    exact hRR
  refine snd_seq ?_
  apply sr tokTB (by kernel_rfl)
  · intro RR hRR
    refine w_assign (by constructor) ?_
    exact hRR
  refine snd_block ?_
  refine snd_loop (S := Nat) (fun i => ([(2, .cptr (vecA v)), (3, .cptr (vecA v)), (5, .int .i64 (i : Int))], [])) (fun i => i ≤ 6) (fun i => 6 - i) (0) ρ0 ?_ ?_ ?_
  · exact ⟨⟨(m_cvec (fun _ _ => rfl)), (m_cvec (fun _ _ => rfl)), (by first | exact m_int rfl | exact m_int (by omega) | exact m_int (by simp; done) | (exact m_int (by simp; omega))), trivial⟩, trivial, trivial⟩
  · exact Nat.zero_le _
  intro i hi0
  refine sq (env2 := [(2, .cptr (vecA v)), (3, .cptr (vecA v)), (5, .int .i64 (i : Int))]) (ol2 := []) rfl rfl ?_
  refine snd_seq ?_
  apply sr tokTB (by kernel_rfl)
  · intro RR hRR
    refine w_move (by constructor) ?_
    refine w_lss rfl rfl ?_
    exact hRR
  refine snd_cond _ rfl (fun hc7 => ?_) (fun hc7 => ?_)
  · try simp only [hcs] at hc7
    have lt_i : i < 6 := by omega
    refine snd_skip ?_
    refine snd_seq ?_
    refine snd_block ?_
    apply sd tokTB mixed (by kernel_rfl) (by kernel_rfl)
    · intro RR hRR
      refine w_move (by constructor) ?_
      refine w_iac rfl rfl und22 kn5 (by exact sz5.symm) ?_ rfl ?_
      · exact ⟨by omega, by omega⟩
      first | refine w_ldc rfl kn5 (by constructor) (by exact sz5.symm) (by exact ag5.symm) ?_ | refine w_ldp rfl kn5 rfl (by constructor) (by exact sz5.symm) (by exact ag5.symm) ?_
      refine w_move (by constructor) ?_
      refine w_iac rfl rfl und22 kn5 (by exact sz5.symm) ?_ rfl ?_
      · exact ⟨by omega, by omega⟩
      first | refine w_ldc rfl kn5 (by constructor) (by exact sz5.symm) (by exact ag5.symm) ?_ | refine w_ldp rfl kn5 rfl (by constructor) (by exact sz5.symm) (by exact ag5.symm) ?_
      refine w_neq rfl rfl ?_
      exact hRR
    refine snd_cond_false (by exact congrArg AV.bool (decide_eq_false (by simp))) ?_
    refine snd_skip ?_
    apply lr tokTB (by kernel_rfl)
    · intro RR hRR
      refine w_move (by constructor) ?_
      refine y_add rfl rfl ?_
      refine w_assign (by constructor) ?_
      exact hRR
    refine ⟨i + 1, ρ0, ?_, (by omega), (by dsimp only; omega)⟩
    exact ⟨⟨(m_cvec (fun _ _ => rfl)), (m_cvec (fun _ _ => rfl)), (by first | exact m_int rfl | exact m_int (by omega) | exact m_int (by simp; done) | (exact m_int (by simp; omega))), trivial⟩, trivial, trivial⟩
  · try simp only [hcs] at hc7
    have ge_i : 6 = i := by omega
    subst ge_i
    refine snd_exit ?_
    apply sr tokTB (by kernel_rfl)
    · intro RR hRR
      refine w_assign (by constructor) ?_
      exact hRR
    refine snd_ret ?_
    exact rt (T := TB) (fun V => rfl)
theorem c_eqByteA6A6 {M : Nat → Nat → Int} : ACalls Try.prog TB 118 [matA M, matA M] (.bool true) [] := by
  refine acalls_of tokTB Try.func118 rfl rfl (Nat.le_of_ble_eq_true rfl) ?_
  apply sr tokTB (by kernel_rfl)
  · intro RR hRR
    refine w_boxc (HV.eq (by constructor)) (by exact trivial) ?_
    refine w_boxc (HV.eq (by constructor)) (by exact trivial) ?_
    refine w_assign (by constructor) ?_
    exact hRR
  refine snd_seq ?_
  apply sr tokTB (by kernel_rfl)
  · intro RR hRR
    refine w_assign (by constructor) ?_
    exact hRR
  refine snd_block ?_
  refine snd_loop (S := Nat) (fun i => ([(2, .cptr (matA M)), (3, .cptr (matA M)), (5, .int .i64 (i : Int))], [])) (fun i => i ≤ 6) (fun i => 6 - i) (0) ρ0 ?_ ?_ ?_
  · exact ⟨⟨(by exact Mt_closed (V := _) (by first | exact fun _ _ => trivial | exact fun _ _ _ => trivial) (fun _ _ _ => trivial) (by simp)), (by exact Mt_closed (V := _) (by first | exact fun _ _ => trivial | exact fun _ _ _ => trivial) (fun _ _ _ => trivial) (by simp)), (by first | exact m_int rfl | exact m_int (by omega) | exact m_int (by simp; done) | (exact m_int (by simp; omega))), trivial⟩, trivial, trivial⟩
  · exact Nat.zero_le _
  intro i hi0
  refine sq (env2 := [(2, .cptr (matA M)), (3, .cptr (matA M)), (5, .int .i64 (i : Int))]) (ol2 := []) rfl rfl ?_
  refine snd_seq ?_
  apply sr tokTB (by kernel_rfl)
  · intro RR hRR
    refine w_move (by constructor) ?_
    refine w_lss rfl rfl ?_
    exact hRR
  refine snd_cond _ rfl (fun hc7 => ?_) (fun hc7 => ?_)
  · try simp only [hcs] at hc7
    have lt_i : i < 6 := by omega
    refine snd_skip ?_
    refine snd_seq ?_
    refine snd_block ?_
    apply sd tokTB mixed (by kernel_rfl) (by kernel_rfl)
    · intro RR hRR
      refine w_move (by constructor) ?_
      refine w_iac rfl rfl und23 kn22 (by exact sz22.symm) ?_ rfl ?_
      · exact ⟨by omega, by omega⟩
      refine w_ldc rfl kn22 (by constructor) (by exact sz22.symm) (by exact ag22.symm) ?_
      refine w_move (by constructor) ?_
      refine w_iac rfl rfl und23 kn22 (by exact sz22.symm) ?_ rfl ?_
      · exact ⟨by omega, by omega⟩
      refine w_ldc rfl kn22 (by constructor) (by exact sz22.symm) (by exact ag22.symm) ?_
      refine y_call rfl (ec (ec exn)) (c_eqByteA6 (v := M i)) ?_
      refine w_not rfl ?_
      exact hRR
    refine snd_cond_false (by exact rfl) ?_
    refine snd_skip ?_
    apply lr tokTB (by kernel_rfl)
    · intro RR hRR
      refine w_move (by constructor) ?_
      refine y_add rfl rfl ?_
      refine w_assign (by constructor) ?_
      exact hRR
    refine ⟨i + 1, ρ0, ?_, (by omega), (by dsimp only; omega)⟩
    exact ⟨⟨(by exact Mt_closed (V := _) (by first | exact fun _ _ => trivial | exact fun _ _ _ => trivial) (fun _ _ _ => trivial) (by simp)), (by exact Mt_closed (V := _) (by first | exact fun _ _ => trivial | exact fun _ _ _ => trivial) (fun _ _ _ => trivial) (by simp)), (by first | exact m_int rfl | exact m_int (by omega) | exact m_int (by simp; done) | (exact m_int (by simp; omega))), trivial⟩, trivial, trivial⟩
  · try simp only [hcs] at hc7
    have ge_i : 6 = i := by omega
    subst ge_i
    refine snd_exit ?_
    apply sr tokTB (by kernel_rfl)
    · intro RR hRR
      refine w_assign (by constructor) ?_
      exact hRR
    refine snd_ret ?_
    exact rt (T := TB) (fun V => rfl)
theorem c_eqByteA6A6A6 {T : T3} : ACalls Try.prog TB 72 [tabA T, tabA T] (.bool true) [] := by
  refine acalls_of tokTB Try.func72 rfl rfl (Nat.le_of_ble_eq_true rfl) ?_
  apply sr tokTB (by kernel_rfl)
  · intro RR hRR
    refine w_boxc (HV.eq (by constructor)) (by exact trivial) ?_
    refine w_boxc (HV.eq (by constructor)) (by exact trivial) ?_
    refine w_assign (by constructor) ?_
    exact hRR
  refine snd_seq ?_
  apply sr tokTB (by kernel_rfl)
  · intro RR hRR
    refine w_assign (by constructor) ?_
    exact hRR
  refine snd_block ?_
  refine snd_loop (S := Nat) (fun i => ([(2, .cptr (tabA T)), (3, .cptr (tabA T)), (5, .int .i64 (i : Int))], [])) (fun i => i ≤ 6) (fun i => 6 - i) (0) ρ0 ?_ ?_ ?_
  · exact ⟨⟨(by exact Mt_closed (V := _) (by first | exact fun _ _ => trivial | exact fun _ _ _ => trivial) (fun _ _ _ => trivial) (by simp)), (by exact Mt_closed (V := _) (by first | exact fun _ _ => trivial | exact fun _ _ _ => trivial) (fun _ _ _ => trivial) (by simp)), (by first | exact m_int rfl | exact m_int (by omega) | exact m_int (by simp; done) | (exact m_int (by simp; omega))), trivial⟩, trivial, trivial⟩
  · exact Nat.zero_le _
  intro i hi0
  refine sq (env2 := [(2, .cptr (tabA T)), (3, .cptr (tabA T)), (5, .int .i64 (i : Int))]) (ol2 := []) rfl rfl ?_
  refine snd_seq ?_
  apply sr tokTB (by kernel_rfl)
  · intro RR hRR
    refine w_move (by constructor) ?_
    refine w_lss rfl rfl ?_
    exact hRR
  refine snd_cond _ rfl (fun hc7 => ?_) (fun hc7 => ?_)
  · try simp only [hcs] at hc7
    have lt_i : i < 6 := by omega
    refine snd_skip ?_
    refine snd_seq ?_
    refine snd_block ?_
    apply sd tokTB mixed (by kernel_rfl) (by kernel_rfl)
    · intro RR hRR
      refine w_move (by constructor) ?_
      refine w_iac rfl rfl und24 kn23 (by exact sz23.symm) ?_ rfl ?_
      · exact ⟨by omega, by omega⟩
      refine w_ldc rfl kn23 (by constructor) (by exact sz23.symm) (by exact ag23.symm) ?_
      refine w_move (by constructor) ?_
      refine w_iac rfl rfl und24 kn23 (by exact sz23.symm) ?_ rfl ?_
      · exact ⟨by omega, by omega⟩
      refine w_ldc rfl kn23 (by constructor) (by exact sz23.symm) (by exact ag23.symm) ?_
      refine y_call rfl (ec (ec exn)) (c_eqByteA6A6 (M := T i)) ?_
      refine w_not rfl ?_
      exact hRR
    refine snd_cond_false (by exact rfl) ?_
    refine snd_skip ?_
    apply lr tokTB (by kernel_rfl)
    · intro RR hRR
      refine w_move (by constructor) ?_
      refine y_add rfl rfl ?_
      refine w_assign (by constructor) ?_
      exact hRR
    refine ⟨i + 1, ρ0, ?_, (by omega), (by dsimp only; omega)⟩
    exact ⟨⟨(by exact Mt_closed (V := _) (by first | exact fun _ _ => trivial | exact fun _ _ _ => trivial) (fun _ _ _ => trivial) (by simp)), (by exact Mt_closed (V := _) (by first | exact fun _ _ => trivial | exact fun _ _ _ => trivial) (fun _ _ _ => trivial) (by simp)), (by first | exact m_int rfl | exact m_int (by omega) | exact m_int (by simp; done) | (exact m_int (by simp; omega))), trivial⟩, trivial, trivial⟩
  · try simp only [hcs] at hc7
    have ge_i : 6 = i := by omega
    subst ge_i
    refine snd_exit ?_
    apply sr tokTB (by kernel_rfl)
    · intro RR hRR
      refine w_assign (by constructor) ?_
      exact hRR
    refine snd_ret ?_
    exact rt (T := TB) (fun V => rfl)
theorem c_eqAlgebra {p n : Int} {T : Nat → Nat → Nat → Int} {fo : Nat → Int} : ACalls Try.prog TB 24 [algA p n T fo, algA p n T fo] (.bool true) [] := by
  refine acalls_of tokTB Try.func24 rfl rfl (Nat.le_of_ble_eq_true rfl) ?_
  apply sr tokTB (by kernel_rfl)
  · intro RR hRR
    refine w_boxc (HV.eq (by constructor)) (by exact trivial) ?_
    refine w_boxc (HV.eq (by constructor)) (by exact trivial) ?_
    refine w_assign (by constructor) ?_
    exact hRR
  refine snd_seq ?_
  apply sr tokTB (by kernel_rfl)
  · intro RR hRR
    refine w_fac rfl und32 rfl kn2 nz2 (by decide) rfl (by constructor) ?_
    refine w_ldc rfl kn2 (by constructor) (by exact sz2.symm) (by exact ag2.symm) ?_
    refine w_fac rfl und32 rfl kn2 nz2 (by decide) rfl (by constructor) ?_
    refine w_ldc rfl kn2 (by constructor) (by exact sz2.symm) (by exact ag2.symm) ?_
    refine w_neq rfl rfl ?_
    exact hRR
  refine snd_cond_false (by exact congrArg AV.bool (decide_eq_false (by simp))) ?_
  refine snd_skip ?_
  refine snd_seq ?_
  apply sr tokTB (by kernel_rfl)
  · intro RR hRR
    refine w_fac rfl und32 rfl kn2 nz2 (by decide) rfl (by constructor) ?_
    refine w_ldc rfl kn2 (by constructor) (by exact sz2.symm) (by exact ag2.symm) ?_
    refine w_fac rfl und32 rfl kn2 nz2 (by decide) rfl (by constructor) ?_
    refine w_ldc rfl kn2 (by constructor) (by exact sz2.symm) (by exact ag2.symm) ?_
    refine w_neq rfl rfl ?_
    exact hRR
  refine snd_cond_false (by exact congrArg AV.bool (decide_eq_false (by simp))) ?_
  refine snd_skip ?_
  refine snd_seq ?_
  apply sr tokTB (by kernel_rfl)
  · intro RR hRR
    refine w_fac rfl und32 rfl kn24 nz24 (by decide) rfl (by constructor) ?_
    refine w_ldc rfl kn24 (by constructor) (by exact sz24.symm) (by exact ag24.symm) ?_
    refine w_fac rfl und32 rfl kn24 nz24 (by decide) rfl (by constructor) ?_
    refine w_ldc rfl kn24 (by constructor) (by exact sz24.symm) (by exact ag24.symm) ?_
    refine y_call rfl (ec (ec exn)) (c_eqByteA6A6A6 (T := T)) ?_
    refine w_not rfl ?_
    exact hRR
  refine snd_cond_false (by exact rfl) ?_
  refine snd_skip ?_
  refine snd_seq ?_
  apply sr tokTB (by kernel_rfl)
  · intro RR hRR
    refine w_fac rfl und32 rfl kn30 nz30 (by decide) rfl (by constructor) ?_
    refine w_ldc rfl kn30 (by constructor) (by exact sz30.symm) (by exact ag30.symm) ?_
    refine w_fac rfl und32 rfl kn30 nz30 (by decide) rfl (by constructor) ?_
    refine w_ldc rfl kn30 (by constructor) (by exact sz30.symm) (by exact ag30.symm) ?_
    refine y_call rfl (ec (ec exn)) (((show decide (eqN 6 fo fo) = true from decide_eq_true (fun i _ => rfl)) ▸ c_eqVector (u := fo) (v := fo))) ?_
    refine w_not rfl ?_
    exact hRR
  refine snd_cond_false (by exact rfl) ?_
  refine snd_skip ?_
  apply sr tokTB (by kernel_rfl)
  · intro RR hRR
    refine w_assign (by constructor) ?_
    exact hRR
  refine snd_ret ?_
  exact rt (T := TB) (fun V => rfl)
end Go.Am

set_option linter.unusedVariables false
set_option linter.unusedSimpArgs false
set_option maxRecDepth 4000
namespace Go.Am
attribute [local irreducible] retQ retQp
open Go.Proofs
theorem c_l02Code1_ok {p : Int} {n : Nat} {T : Nat → Nat → Nat → Int} {fo : Nat → Int} (hv0 : VN p n T fo) {v : Nat → Int} (hv : VV p n v) (hr : rankT p n T fo = n) : ACalls Try.prog TB 66 [algA p (n : Int) T fo, vlA 1 (vs1 v)] (.int .i64 0) [] := by
  refine acalls_of tokTB Try.func66 rfl rfl (Nat.le_of_ble_eq_true rfl) ?_
  apply sr tokTB (by kernel_rfl)
  · intro RR hRR
    refine w_boxc (HV.eq (by constructor)) (by exact trivial) ?_
    refine w_assign (by constructor) ?_
    exact hRR
  refine snd_seq ?_
  refine snd_block ?_
  apply sr tokTB (by kernel_rfl)
  · intro RR hRR
    refine w_ldc rfl kn32 (by constructor) (by exact sz32.symm) (by exact ag32.symm) ?_
    refine w_move (by constructor) ?_
    refine y_call rfl (exc exp_alg (exc ex_vl exn)) (c_l01Code1_ok hv0 hv) ?_
    refine w_neq rfl rfl ?_
    refine w_assign (by constructor) ?_
    exact hRR
  refine snd_cond_false rfl ?_
  apply sr tokTB (by kernel_rfl)
  · intro RR hRR
    refine w_ldc rfl kn32 (by constructor) (by exact sz32.symm) (by exact ag32.symm) ?_
    refine y_call rfl (ec exn) (c_l01Frobenius hv0) ?_
    refine w_not rfl ?_
    refine w_assign (by constructor) ?_
    exact hRR
  refine snd_cond_false (by exact not_t hr) ?_
  refine snd_skip ?_
  apply sr tokTB (by kernel_rfl)
  · intro RR hRR
    refine w_assign (by constructor) ?_
    exact hRR
  refine snd_ret ?_
  exact rt (T := TB) (fun V => rfl)
theorem c_l02Code1_nf {p : Int} {n : Nat} {T : Nat → Nat → Nat → Int} {fo : Nat → Int} (hv0 : VN p n T fo) {v : Nat → Int} (hv : VV p n v) (hr : ¬ rankT p n T fo = n) : ACalls Try.prog TB 66 [algA p (n : Int) T fo, vlA 1 (vs1 v)] (.int .i64 5) [] := by
  refine acalls_of tokTB Try.func66 rfl rfl (Nat.le_of_ble_eq_true rfl) ?_
  apply sr tokTB (by kernel_rfl)
  · intro RR hRR
    refine w_boxc (HV.eq (by constructor)) (by exact trivial) ?_
    refine w_assign (by constructor) ?_
    exact hRR
  refine snd_seq ?_
  refine snd_block ?_
  apply sr tokTB (by kernel_rfl)
  · intro RR hRR
    refine w_ldc rfl kn32 (by constructor) (by exact sz32.symm) (by exact ag32.symm) ?_
    refine w_move (by constructor) ?_
    refine y_call rfl (exc exp_alg (exc ex_vl exn)) (c_l01Code1_ok hv0 hv) ?_
    refine w_neq rfl rfl ?_
    refine w_assign (by constructor) ?_
    exact hRR
  refine snd_cond_false rfl ?_
  apply sr tokTB (by kernel_rfl)
  · intro RR hRR
    refine w_ldc rfl kn32 (by constructor) (by exact sz32.symm) (by exact ag32.symm) ?_
    refine y_call rfl (ec exn) (c_l01Frobenius hv0) ?_
    refine w_not rfl ?_
    refine w_assign (by constructor) ?_
    exact hRR
  refine snd_cond_true (by exact not_f hr) ?_
  apply sr tokTB (by kernel_rfl)
  · intro RR hRR
    refine w_assign (by constructor) ?_
    exact hRR
  refine snd_ret ?_
  exact rt (T := TB) (fun V => rfl)
theorem c_l02Code1_no {p n : Int} {T : Nat → Nat → Nat → Int} {fo : Nat → Int} (hT : RB T) (hf : RV fo) {v : Nat → Int} (hv : B8 v) (hz : ¬ VZ p n T fo 1 (vs1 v)) : ACalls Try.prog TB 66 [algA p n T fo, vlA 1 (vs1 v)] (.int .i64 1) [] := by
  refine acalls_of tokTB Try.func66 rfl rfl (Nat.le_of_ble_eq_true rfl) ?_
  apply sr tokTB (by kernel_rfl)
  · intro RR hRR
    refine w_boxc (HV.eq (by constructor)) (by exact trivial) ?_
    refine w_assign (by constructor) ?_
    exact hRR
  refine snd_seq ?_
  refine snd_block ?_
  apply sr tokTB (by kernel_rfl)
  · intro RR hRR
    refine w_ldc rfl kn32 (by constructor) (by exact sz32.symm) (by exact ag32.symm) ?_
    refine w_move (by constructor) ?_
    refine y_call rfl (exc exp_alg (exc ex_vl exn)) (c_l01Code1_no hT hf hv hz) ?_
    refine w_neq rfl rfl ?_
    refine w_assign (by constructor) ?_
    exact hRR
  refine snd_cond_true rfl ?_
  apply sr tokTB (by kernel_rfl)
  · intro RR hRR
    refine w_assign (by constructor) ?_
    exact hRR
  refine snd_ret ?_
  exact rt (T := TB) (fun V => rfl)
theorem c_stated1_ok {p : Int} {n : Nat} {T : Nat → Nat → Nat → Int} {fo : Nat → Int} (hv0 : VN p n T fo) {v : Nat → Int} (hv : VV p n v) (hr : rankT p n T fo = n) : ACalls Try.prog TB 69 [algA p (n : Int) T fo, vlA 1 (vs1 v)] (.int .i64 0) [] := by
  refine acalls_of tokTB Try.func69 rfl rfl (Nat.le_of_ble_eq_true rfl) ?_
  apply sr tokTB (by kernel_rfl)
  · intro RR hRR
    refine w_boxc (HV.eq (by constructor)) (by exact trivial) ?_
    refine w_assign (by constructor) ?_
    exact hRR
  refine snd_seq ?_
  apply sr tokTB (by kernel_rfl)
  · intro RR hRR
    refine w_ldc rfl kn32 (by constructor) (by exact sz32.symm) (by exact ag32.symm) ?_
    refine w_move (by constructor) ?_
    refine y_call rfl (exc exp_alg (exc ex_vl exn)) (c_valid1_ok hv0 hv) ?_
    refine w_assign (by constructor) ?_
    exact hRR
  apply sr tokTB (by kernel_rfl)
  · intro RR hRR
    refine w_move (by constructor) ?_
    refine w_neq rfl rfl ?_
    exact hRR
  refine snd_cond_false rfl ?_
  refine snd_skip ?_
  refine snd_seq ?_
  apply sr tokTB (by kernel_rfl)
  · intro RR hRR
    refine y_call rfl (ec exn) (c_frobenius hv0) ?_
    refine w_not rfl ?_
    exact hRR
  refine snd_cond_false (by exact not_t hr) ?_
  refine snd_skip ?_
  apply sr tokTB (by kernel_rfl)
  · intro RR hRR
    refine w_assign (by constructor) ?_
    exact hRR
  refine snd_ret ?_
  exact rt (T := TB) (fun V => rfl)
theorem c_stated1_nf {p : Int} {n : Nat} {T : Nat → Nat → Nat → Int} {fo : Nat → Int} (hv0 : VN p n T fo) {v : Nat → Int} (hv : VV p n v) (hr : ¬ rankT p n T fo = n) : ACalls Try.prog TB 69 [algA p (n : Int) T fo, vlA 1 (vs1 v)] (.int .i64 5) [] := by
  refine acalls_of tokTB Try.func69 rfl rfl (Nat.le_of_ble_eq_true rfl) ?_
  apply sr tokTB (by kernel_rfl)
  · intro RR hRR
    refine w_boxc (HV.eq (by constructor)) (by exact trivial) ?_
    refine w_assign (by constructor) ?_
    exact hRR
  refine snd_seq ?_
  apply sr tokTB (by kernel_rfl)
  · intro RR hRR
    refine w_ldc rfl kn32 (by constructor) (by exact sz32.symm) (by exact ag32.symm) ?_
    refine w_move (by constructor) ?_
    refine y_call rfl (exc exp_alg (exc ex_vl exn)) (c_valid1_ok hv0 hv) ?_
    refine w_assign (by constructor) ?_
    exact hRR
  apply sr tokTB (by kernel_rfl)
  · intro RR hRR
    refine w_move (by constructor) ?_
    refine w_neq rfl rfl ?_
    exact hRR
  refine snd_cond_false rfl ?_
  refine snd_skip ?_
  refine snd_seq ?_
  apply sr tokTB (by kernel_rfl)
  · intro RR hRR
    refine y_call rfl (ec exn) (c_frobenius hv0) ?_
    refine w_not rfl ?_
    exact hRR
  refine snd_cond_true (by exact not_f hr) ?_
  apply sr tokTB (by kernel_rfl)
  · intro RR hRR
    refine w_assign (by constructor) ?_
    exact hRR
  refine snd_ret ?_
  exact rt (T := TB) (fun V => rfl)
theorem c_stated1_no {p n : Int} {T : Nat → Nat → Nat → Int} {fo : Nat → Int} (hT : RB T) (hf : RV fo) {v : Nat → Int} (hv : B8 v) (hz : ¬ VZ p n T fo 1 (vs1 v)) : ACalls Try.prog TB 69 [algA p n T fo, vlA 1 (vs1 v)] (.int .i64 1) [] := by
  refine acalls_of tokTB Try.func69 rfl rfl (Nat.le_of_ble_eq_true rfl) ?_
  apply sr tokTB (by kernel_rfl)
  · intro RR hRR
    refine w_boxc (HV.eq (by constructor)) (by exact trivial) ?_
    refine w_assign (by constructor) ?_
    exact hRR
  refine snd_seq ?_
  apply sr tokTB (by kernel_rfl)
  · intro RR hRR
    refine w_ldc rfl kn32 (by constructor) (by exact sz32.symm) (by exact ag32.symm) ?_
    refine w_move (by constructor) ?_
    refine y_call rfl (exc exp_alg (exc ex_vl exn)) (c_valid1_no hT hf hv hz) ?_
    refine w_assign (by constructor) ?_
    exact hRR
  apply sr tokTB (by kernel_rfl)
  · intro RR hRR
    refine w_move (by constructor) ?_
    refine w_neq rfl rfl ?_
    exact hRR
  refine snd_cond_true rfl ?_
  apply sr tokTB (by kernel_rfl)
  · intro RR hRR
    refine w_move (by constructor) ?_
    refine w_assign (by constructor) ?_
    exact hRR
  refine snd_ret ?_
  exact rt (T := TB) (fun V => rfl)
theorem c_l02Change {p : Int} {n : Nat} {T : Nat → Nat → Nat → Int} {fo : Nat → Int} (hv0 : VN p n T fo) {v : Nat → Int} (hv : VV p n v) : ACalls Try.prog TB 68 [algA p (n : Int) T fo, vecA v] (algA p (n : Int) T (mixF (fun a => formF p fo (timesF p n T v (eF a))) fo (n))) [] := by
  have hp8 := hv0.p0
  have hn6 := hv0.n6
  have hv8 := hv.B8 (p := p) (by omega)
  refine acalls_of tokTB Try.func68 rfl rfl (Nat.le_of_ble_eq_true rfl) ?_
  apply sr tokTB (by kernel_rfl)
  · intro RR hRR
    refine w_boxc (HV.eq (by constructor)) (by exact trivial) ?_
    refine w_boxc (HV.eq (by constructor)) (by exact trivial) ?_
    refine w_alloc kn32 rfl zr32 ?_
    exact hRR
  apply sr tokTB (by kernel_rfl)
  · intro RR hRR
    refine w_ldc rfl kn32 (by constructor) (by exact sz32.symm) (by exact ag32.symm) ?_
    refine w_alloc kn32 rfl zr32 ?_
    refine w_stw rfl (by constructor) kn32 rfl (by exact trivial) (by first | exact trivial | exact ssh_vec | exact ssh_alg | exact ssh_tab | exact ssh_mat | exact ⟨rfl, fun _ => trivial⟩ | exact ⟨rfl, fun _ => by rw [zr30]; exact ssh_vec⟩) (by exact sz32.symm) ?_
    exact hRR
  refine snd_seq ?_
  apply sr tokTB (by kernel_rfl)
  · intro RR hRR
    refine w_assign (by constructor) ?_
    exact hRR
  refine snd_block ?_
  refine snd_loop (S := Nat) (fun i => ([(2, .cptr (algA p (n : Int) T fo)), (3, .cptr (vecA v)), (4, .ptr 4 0 [] 0 (algA 0 0 (fun _ _ _ => 0) (fun _ => 0))), (5, .ptr 5 0 [] 0 (algA 0 0 (fun _ _ _ => 0) (fun _ => 0))), (6, .int .i64 (i : Int))], [(4, .one (algA 0 0 (fun _ _ _ => 0) (fun _ => 0)) (algA 0 0 (fun _ _ _ => 0) (fun _ => 0))), (5, .one (algA 0 0 (fun _ _ _ => 0) (fun _ => 0)) (algA p (n : Int) T (mixF (fun a => formF p fo (timesF p n T v (eF a))) fo (i))))])) (fun i => i ≤ n) (fun i => n - i) (0) ρ0 ?_ ?_ ?_
  · exact ⟨⟨m_calg, (m_cvec (fun _ _ => rfl)), ⟨rfl, rfl, rfl, rfl, rfl⟩, ⟨rfl, rfl, rfl, rfl, rfl⟩, (by first | exact m_int rfl | exact m_int (by omega) | exact m_int (by simp; done) | (exact m_int (by simp; omega))), trivial⟩, ⟨⟨rfl, (by first | exact trivial | exact ssh_vec | exact ssh_alg | exact ssh_tab | exact ssh_mat | exact ⟨rfl, fun _ => trivial⟩ | exact ⟨rfl, fun _ => by rw [zr30]; exact ssh_vec⟩), (by first | exact mt_vec (fun _ _ => rfl) | exact mt_mat (fun _ _ _ _ => rfl) | exact mt_tab (fun _ _ _ _ _ _ => rfl) | exact mt_arr0 | exact mt_app (fun _ _ => rfl) rfl | exact ⟨rfl, fun _ _ => mt_row (fun _ _ => rfl)⟩ | exact Mt_closed (V := _) closed_alg (fun _ _ _ => trivial) (by simp))⟩, ⟨rfl, (by first | exact trivial | exact ssh_vec | exact ssh_alg | exact ssh_tab | exact ssh_mat | exact ⟨rfl, fun _ => trivial⟩ | exact ⟨rfl, fun _ => by rw [zr30]; exact ssh_vec⟩), (by exact mt_alg rfl rfl (fun _ _ _ _ _ _ => rfl) (fun z _ => by simp [mixF]))⟩, trivial⟩, ⟨⟨(fun h => by first | exact ⟨rfl, rfl⟩ | exact absurd h (by decide)), (fun h => by first | exact ⟨rfl, rfl⟩ | exact absurd h (by decide)), trivial⟩, ⟨(fun h => by first | exact ⟨rfl, rfl⟩ | exact absurd h (by decide)), (fun h => by first | exact ⟨rfl, rfl⟩ | exact absurd h (by decide)), trivial⟩, trivial⟩⟩
  · exact Nat.zero_le _
  intro i hi0
  refine sq (env2 := [(2, .cptr (algA p (n : Int) T fo)), (3, .cptr (vecA v)), (4, .ptr 4 0 [] 0 (algA 0 0 (fun _ _ _ => 0) (fun _ => 0))), (5, .ptr 5 0 [] 0 (algA 0 0 (fun _ _ _ => 0) (fun _ => 0))), (6, .int .i64 (i : Int))]) (ol2 := [(4, .one (algA 0 0 (fun _ _ _ => 0) (fun _ => 0)) (algA 0 0 (fun _ _ _ => 0) (fun _ => 0))), (5, .one (algA 0 0 (fun _ _ _ => 0) (fun _ => 0)) (algA p (n : Int) T (mixF (fun a => formF p fo (timesF p n T v (eF a))) fo (i))))]) rfl rfl ?_
  refine snd_seq ?_
  apply sr tokTB (by kernel_rfl)
  · intro RR hRR
    refine w_move (by constructor) ?_
    refine w_fac rfl und32 rfl kn2 nz2 (by decide) rfl (by constructor) ?_
    refine w_ldc rfl kn2 (by constructor) (by exact sz2.symm) (by exact ag2.symm) ?_
    refine w_lss rfl rfl ?_
    exact hRR
  refine snd_cond _ rfl (fun hc11 => ?_) (fun hc11 => ?_)
  · try simp only [hcs] at hc11
    have lt_i : i < n := by omega
    refine snd_skip ?_
    refine snd_seq ?_
    refine snd_block ?_
    apply ld tokTB mixed (by kernel_rfl) (by kernel_rfl)
    · intro RR hRR
      refine w_move (by constructor) ?_
      refine w_ldc rfl kn32 (by constructor) (by exact sz32.symm) (by exact ag32.symm) ?_
      refine w_ldc rfl kn32 (by constructor) (by exact sz32.symm) (by exact ag32.symm) ?_
      refine w_ldc rfl kn30 (by constructor) (by exact sz30.symm) (by exact ag30.symm) ?_
      refine w_move (by constructor) ?_
      refine y_call rfl (ec exn) (c_l01Basis (i := i) (by omega)) ?_
      refine y_call rfl (ec (ec (ec exn))) (c_l01Times (u := v) (v := eF i) (by omega) (by omega) hn6 hv0.T8 hv8 (eF_B8 i)) ?_
      refine y_call rfl (ec (ec exn)) (c_l01Form (v := timesF p n T v (eF i)) (by omega) hv0.f8 (timesF_B8 (by omega) (by omega))) ?_
      refine w_conv rfl und2 und5 (by exact w8 (formF_bd (by omega) _ _).1 (by have := (formF_bd (p := p) (by omega) fo (timesF p n T v (eF i))).2; exact Int.lt_of_lt_of_le this (by omega))) ?_
      refine w_fap rfl und32 rfl kn30 nz30 rfl (by decide) rfl ?_
      first | refine w_iac rfl rfl und30 kn5 (by exact sz5.symm) ?_ rfl ?_ | refine w_iap rfl rfl und30 kn5 rfl (by exact sz5.symm) rfl ?_ ?_
      · exact ⟨by omega, by omega⟩
      first | refine w_stw rfl (by constructor) kn5 rfl (by exact trivial) (by first | exact trivial | exact ssh_vec | exact ssh_alg | exact ssh_tab | exact ssh_mat | exact ⟨rfl, fun _ => trivial⟩ | exact ⟨rfl, fun _ => by rw [zr30]; exact ssh_vec⟩) (by exact sz5.symm) ?_ | refine w_sti rfl rfl kn5 rfl (by exact trivial) (by exact sz5.symm) ?_ | refine w_store rfl (HV.eq (by constructor)) kn5 rfl (by exact trivial) (by first | exact trivial | exact ssh_vec | exact ssh_alg | exact ssh_tab | exact ssh_mat | exact ⟨rfl, fun _ => trivial⟩ | exact ⟨rfl, fun _ => by rw [zr30]; exact ssh_vec⟩) (by exact sz5.symm) (put_in (by first | exact put_mat | exact put_tab | exact put_alg0 | exact put_alg1 | exact put_alg2 | exact put_alg3 | exact put_alg3i | exact put_alg2ij | exact put_alg2ijk | exact put_mat2 | exact put_tab2 | exact put_tab3)) ?_ | refine w_store rfl (HV.eq (by constructor)) kn5 rfl (by exact trivial) (by exact trivial) (by exact sz5.symm) rfl ?_
      exact hRR
    apply lr tokTB (by kernel_rfl)
    · intro RR hRR
      refine w_move (by constructor) ?_
      refine y_add rfl rfl ?_
      refine w_assign (by constructor) ?_
      exact hRR
    refine ⟨i + 1, ρ0, ?_, (by omega), (by dsimp only; omega)⟩
    exact ⟨⟨m_calg, (m_cvec (fun _ _ => rfl)), ⟨rfl, rfl, rfl, rfl, rfl⟩, ⟨rfl, rfl, rfl, rfl, rfl⟩, (by first | exact m_int rfl | exact m_int (by omega) | exact m_int (by simp; done) | (exact m_int (by simp; omega))), trivial⟩, ⟨⟨rfl, (by first | exact trivial | exact ssh_vec | exact ssh_alg | exact ssh_tab | exact ssh_mat | exact ⟨rfl, fun _ => trivial⟩ | exact ⟨rfl, fun _ => by rw [zr30]; exact ssh_vec⟩), (by first | exact mt_vec (fun _ _ => rfl) | exact mt_mat (fun _ _ _ _ => rfl) | exact mt_tab (fun _ _ _ _ _ _ => rfl) | exact mt_arr0 | exact mt_app (fun _ _ => rfl) rfl | exact ⟨rfl, fun _ _ => mt_row (fun _ _ => rfl)⟩ | exact Mt_closed (V := _) closed_alg (fun _ _ _ => trivial) (by simp))⟩, ⟨rfl, (by first | exact trivial | exact ssh_vec | exact ssh_alg | exact ssh_tab | exact ssh_mat | exact ⟨rfl, fun _ => trivial⟩ | exact ⟨rfl, fun _ => by rw [zr30]; exact ssh_vec⟩), (by exact mt_alg rfl rfl (fun _ _ _ _ _ _ => rfl) (fun z _ => upd_mix _ _ i z))⟩, trivial⟩, ⟨⟨(fun h => by first | exact ⟨rfl, rfl⟩ | exact absurd h (by decide)), (fun h => by first | exact ⟨rfl, rfl⟩ | exact absurd h (by decide)), trivial⟩, ⟨(fun h => by first | exact ⟨rfl, rfl⟩ | exact absurd h (by decide)), (fun h => by first | exact ⟨rfl, rfl⟩ | exact absurd h (by decide)), trivial⟩, trivial⟩⟩
  · try simp only [hcs] at hc11
    have ge_i : n = i := by omega
    subst ge_i
    refine snd_exit ?_
    apply sr tokTB (by kernel_rfl)
    · intro RR hRR
      refine w_ldp rfl kn32 rfl (by constructor) (by exact sz32.symm) (by exact ag32.symm) ?_
      refine w_stw rfl (by constructor) kn32 rfl (by exact trivial) (by first | exact trivial | exact ssh_vec | exact ssh_alg | exact ssh_tab | exact ssh_mat | exact ⟨rfl, fun _ => trivial⟩ | exact ⟨rfl, fun _ => by rw [zr30]; exact ssh_vec⟩) (by exact sz32.symm) ?_
      exact hRR
    refine snd_ret ?_
    exact rt_c (T := TB) rfl kn32 rfl sz32.symm ag32.symm (fun V => m_alg)
theorem c_sChangeForm_ok {p : Int} {n : Nat} {T : Nat → Nat → Nat → Int} {fo : Nat → Int} (hv0 : VN p n T fo) {v : Nat → Int} (hv : VV p n v) (hr : rankT p n T fo = n) (hi : iOk p n T v) : ACalls Try.prog TB 21 [algA p (n : Int) T fo, vecA v] (.tup 2 (pairA (algA p (n : Int) T (mixF (fun a => formF p fo (timesF p n T v (eF a))) fo (n))) (.int .i64 0))) [] := by
  have hp8 := hv0.p0
  have hn6 := hv0.n6
  have hv8 := hv.B8 (p := p) (by omega)
  refine acalls_of tokTB Try.func21 rfl rfl (Nat.le_of_ble_eq_true rfl) ?_
  apply sr tokTB (by kernel_rfl)
  · intro RR hRR
    refine w_boxc (HV.eq (by constructor)) (by exact trivial) ?_
    refine w_boxc (HV.eq (by constructor)) (by exact trivial) ?_
    refine w_alloc kn32 rfl zr32 ?_
    refine w_assign (by constructor) ?_
    exact hRR
  refine snd_seq ?_
  apply sr tokTB (by kernel_rfl)
  · intro RR hRR
    refine w_ldc rfl kn32 (by constructor) (by exact sz32.symm) (by exact ag32.symm) ?_
    refine w_ldc rfl kn30 (by constructor) (by exact sz30.symm) (by exact ag30.symm) ?_
    refine w_bsl1 und27 kn30 (by rw [sz30]; rfl) rfl (by constructor) (by exact trivial) (by exact sz30.symm) (by first | exact trivial | exact ssh_vec | exact ⟨rfl, fun _ => trivial⟩) ?_
    refine y_call rfl (exc exp_alg (exc (ex_l1 zr30 rfl) exn)) (c_l02Code1_ok hv0 hv hr) ?_
    refine w_assign (by constructor) ?_
    exact hRR
  apply sr tokTB (by kernel_rfl)
  · intro RR hRR
    refine w_move (by constructor) ?_
    refine w_neq rfl rfl ?_
    exact hRR
  refine snd_cond_false rfl ?_
  refine snd_skip ?_
  refine snd_seq ?_
  apply sr tokTB (by kernel_rfl)
  · intro RR hRR
    refine w_ldc rfl kn32 (by constructor) (by exact sz32.symm) (by exact ag32.symm) ?_
    refine w_ldc rfl kn30 (by constructor) (by exact sz30.symm) (by exact ag30.symm) ?_
    refine y_call rfl (ec (ec exn)) (c_l02Inverse hv0 hv) ?_
    refine w_move (by constructor) ?_
    refine w_ext rfl (by decide) (by constructor) ?_
    refine w_ext rfl (by decide) (by constructor) ?_
    refine w_alloc kn30 rfl zr30 ?_
    refine w_stw rfl (by constructor) kn30 rfl (by exact trivial) (by first | exact trivial | exact ssh_vec | exact ssh_alg | exact ssh_tab | exact ssh_mat | exact ⟨rfl, fun _ => trivial⟩ | exact ⟨rfl, fun _ => by rw [zr30]; exact ssh_vec⟩) (by exact sz30.symm) ?_
    refine w_assign (by constructor) ?_
    exact hRR
  apply sr tokTB (by kernel_rfl)
  · intro RR hRR
    refine w_move (by constructor) ?_
    refine w_not rfl ?_
    exact hRR
  refine snd_cond_false (by exact not_t hi) ?_
  refine snd_skip ?_
  apply sr tokTB (by kernel_rfl)
  · intro RR hRR
    refine w_ldc rfl kn32 (by constructor) (by exact sz32.symm) (by exact ag32.symm) ?_
    refine w_ldc rfl kn30 (by constructor) (by exact sz30.symm) (by exact ag30.symm) ?_
    refine y_call rfl (ec (ec exn)) (c_l02Change hv0 hv) ?_
    refine w_stw rfl (by constructor) kn32 rfl (by exact trivial) (by first | exact trivial | exact ssh_vec | exact ssh_alg | exact ssh_tab | exact ssh_mat | exact ⟨rfl, fun _ => trivial⟩ | exact ⟨rfl, fun _ => by rw [zr30]; exact ssh_vec⟩) (by exact sz32.symm) ?_
    refine w_assign (by constructor) ?_
    exact hRR
  refine snd_ret ?_
  show retQ TB _ _ _ _ _ _
  exact rt_ct (T := TB) rfl kn32 rfl (by exact sz32.symm) (by exact ag32.symm) (fun V => m_alg) (fun V => rfl)
theorem c_sChangeForm_ni {p : Int} {n : Nat} {T : Nat → Nat → Nat → Int} {fo : Nat → Int} (hv0 : VN p n T fo) {v : Nat → Int} (hv : VV p n v) (hr : rankT p n T fo = n) (hi : ¬ iOk p n T v) : ACalls Try.prog TB 21 [algA p (n : Int) T fo, vecA v] (.tup 2 (pairA (algA 0 0 (fun _ _ _ => 0) (fun _ => 0)) (.int .i64 5))) [] := by
  refine acalls_of tokTB Try.func21 rfl rfl (Nat.le_of_ble_eq_true rfl) ?_
  apply sr tokTB (by kernel_rfl)
  · intro RR hRR
    refine w_boxc (HV.eq (by constructor)) (by exact trivial) ?_
    refine w_boxc (HV.eq (by constructor)) (by exact trivial) ?_
    refine w_alloc kn32 rfl zr32 ?_
    refine w_assign (by constructor) ?_
    exact hRR
  refine snd_seq ?_
  apply sr tokTB (by kernel_rfl)
  · intro RR hRR
    refine w_ldc rfl kn32 (by constructor) (by exact sz32.symm) (by exact ag32.symm) ?_
    refine w_ldc rfl kn30 (by constructor) (by exact sz30.symm) (by exact ag30.symm) ?_
    refine w_bsl1 und27 kn30 (by rw [sz30]; rfl) rfl (by constructor) (by exact trivial) (by exact sz30.symm) (by first | exact trivial | exact ssh_vec | exact ⟨rfl, fun _ => trivial⟩) ?_
    refine y_call rfl (exc exp_alg (exc (ex_l1 zr30 rfl) exn)) (c_l02Code1_ok hv0 hv hr) ?_
    refine w_assign (by constructor) ?_
    exact hRR
  apply sr tokTB (by kernel_rfl)
  · intro RR hRR
    refine w_move (by constructor) ?_
    refine w_neq rfl rfl ?_
    exact hRR
  refine snd_cond_false rfl ?_
  refine snd_skip ?_
  refine snd_seq ?_
  apply sr tokTB (by kernel_rfl)
  · intro RR hRR
    refine w_ldc rfl kn32 (by constructor) (by exact sz32.symm) (by exact ag32.symm) ?_
    refine w_ldc rfl kn30 (by constructor) (by exact sz30.symm) (by exact ag30.symm) ?_
    refine y_call rfl (ec (ec exn)) (c_l02Inverse hv0 hv) ?_
    refine w_move (by constructor) ?_
    refine w_ext rfl (by decide) (by constructor) ?_
    refine w_ext rfl (by decide) (by constructor) ?_
    refine w_alloc kn30 rfl zr30 ?_
    refine w_stw rfl (by constructor) kn30 rfl (by exact trivial) (by first | exact trivial | exact ssh_vec | exact ssh_alg | exact ssh_tab | exact ssh_mat | exact ⟨rfl, fun _ => trivial⟩ | exact ⟨rfl, fun _ => by rw [zr30]; exact ssh_vec⟩) (by exact sz30.symm) ?_
    refine w_assign (by constructor) ?_
    exact hRR
  apply sr tokTB (by kernel_rfl)
  · intro RR hRR
    refine w_move (by constructor) ?_
    refine w_not rfl ?_
    exact hRR
  refine snd_cond_true (by exact not_f hi) ?_
  apply sr tokTB (by kernel_rfl)
  · intro RR hRR
    refine w_bld_s kn32 zr32 und32 rfl (by exact ⟨rfl, kn2, sz2, rfl, kn2, sz2, rfl, kn24, sz24, rfl, kn30, sz30, trivial⟩) trivial rfl ?_
    refine w_stw rfl (by constructor) kn32 rfl (by exact trivial) (by first | exact trivial | exact ssh_vec | exact ssh_alg | exact ssh_tab | exact ssh_mat | exact ⟨rfl, fun _ => trivial⟩ | exact ⟨rfl, fun _ => by rw [zr30]; exact ssh_vec⟩) (by exact sz32.symm) ?_
    refine w_assign (by constructor) ?_
    exact hRR
  refine snd_ret ?_
  show retQ TB _ _ _ _ _ _
  exact rt_ct (T := TB) rfl kn32 rfl (by exact sz32.symm) (by exact ag32.symm) (fun V => m_alg) (fun V => rfl)
theorem c_sChangeForm_nf {p : Int} {n : Nat} {T : Nat → Nat → Nat → Int} {fo : Nat → Int} (hv0 : VN p n T fo) {v : Nat → Int} (hv : VV p n v) (hr : ¬ rankT p n T fo = n) : ACalls Try.prog TB 21 [algA p (n : Int) T fo, vecA v] (.tup 2 (pairA (algA 0 0 (fun _ _ _ => 0) (fun _ => 0)) (.int .i64 5))) [] := by
  refine acalls_of tokTB Try.func21 rfl rfl (Nat.le_of_ble_eq_true rfl) ?_
  apply sr tokTB (by kernel_rfl)
  · intro RR hRR
    refine w_boxc (HV.eq (by constructor)) (by exact trivial) ?_
    refine w_boxc (HV.eq (by constructor)) (by exact trivial) ?_
    refine w_alloc kn32 rfl zr32 ?_
    refine w_assign (by constructor) ?_
    exact hRR
  refine snd_seq ?_
  apply sr tokTB (by kernel_rfl)
  · intro RR hRR
    refine w_ldc rfl kn32 (by constructor) (by exact sz32.symm) (by exact ag32.symm) ?_
    refine w_ldc rfl kn30 (by constructor) (by exact sz30.symm) (by exact ag30.symm) ?_
    refine w_bsl1 und27 kn30 (by rw [sz30]; rfl) rfl (by constructor) (by exact trivial) (by exact sz30.symm) (by first | exact trivial | exact ssh_vec | exact ⟨rfl, fun _ => trivial⟩) ?_
    refine y_call rfl (exc exp_alg (exc (ex_l1 zr30 rfl) exn)) (c_l02Code1_nf hv0 hv hr) ?_
    refine w_assign (by constructor) ?_
    exact hRR
  apply sr tokTB (by kernel_rfl)
  · intro RR hRR
    refine w_move (by constructor) ?_
    refine w_neq rfl rfl ?_
    exact hRR
  refine snd_cond_true rfl ?_
  apply sr tokTB (by kernel_rfl)
  · intro RR hRR
    refine w_bld_s kn32 zr32 und32 rfl (by exact ⟨rfl, kn2, sz2, rfl, kn2, sz2, rfl, kn24, sz24, rfl, kn30, sz30, trivial⟩) trivial rfl ?_
    refine w_move (by constructor) ?_
    refine w_stw rfl (by constructor) kn32 rfl (by exact trivial) (by first | exact trivial | exact ssh_vec | exact ssh_alg | exact ssh_tab | exact ssh_mat | exact ⟨rfl, fun _ => trivial⟩ | exact ⟨rfl, fun _ => by rw [zr30]; exact ssh_vec⟩) (by exact sz32.symm) ?_
    refine w_assign (by constructor) ?_
    exact hRR
  refine snd_ret ?_
  show retQ TB _ _ _ _ _ _
  exact rt_ct (T := TB) rfl kn32 rfl (by exact sz32.symm) (by exact ag32.symm) (fun V => m_alg) (fun V => rfl)
theorem c_sChangeForm_no {p n : Int} {T : Nat → Nat → Nat → Int} {fo : Nat → Int} (hT : RB T) (hf : RV fo) {v : Nat → Int} (hv : B8 v) (hz : ¬ VZ p n T fo 1 (vs1 v)) : ACalls Try.prog TB 21 [algA p n T fo, vecA v] (.tup 2 (pairA (algA 0 0 (fun _ _ _ => 0) (fun _ => 0)) (.int .i64 1))) [] := by
  refine acalls_of tokTB Try.func21 rfl rfl (Nat.le_of_ble_eq_true rfl) ?_
  apply sr tokTB (by kernel_rfl)
  · intro RR hRR
    refine w_boxc (HV.eq (by constructor)) (by exact trivial) ?_
    refine w_boxc (HV.eq (by constructor)) (by exact trivial) ?_
    refine w_alloc kn32 rfl zr32 ?_
    refine w_assign (by constructor) ?_
    exact hRR
  refine snd_seq ?_
  apply sr tokTB (by kernel_rfl)
  · intro RR hRR
    refine w_ldc rfl kn32 (by constructor) (by exact sz32.symm) (by exact ag32.symm) ?_
    refine w_ldc rfl kn30 (by constructor) (by exact sz30.symm) (by exact ag30.symm) ?_
    refine w_bsl1 und27 kn30 (by rw [sz30]; rfl) rfl (by constructor) (by exact trivial) (by exact sz30.symm) (by first | exact trivial | exact ssh_vec | exact ⟨rfl, fun _ => trivial⟩) ?_
    refine y_call rfl (exc exp_alg (exc (ex_l1 zr30 rfl) exn)) (c_l02Code1_no hT hf hv hz) ?_
    refine w_assign (by constructor) ?_
    exact hRR
  apply sr tokTB (by kernel_rfl)
  · intro RR hRR
    refine w_move (by constructor) ?_
    refine w_neq rfl rfl ?_
    exact hRR
  refine snd_cond_true rfl ?_
  apply sr tokTB (by kernel_rfl)
  · intro RR hRR
    refine w_bld_s kn32 zr32 und32 rfl (by exact ⟨rfl, kn2, sz2, rfl, kn2, sz2, rfl, kn24, sz24, rfl, kn30, sz30, trivial⟩) trivial rfl ?_
    refine w_move (by constructor) ?_
    refine w_stw rfl (by constructor) kn32 rfl (by exact trivial) (by first | exact trivial | exact ssh_vec | exact ssh_alg | exact ssh_tab | exact ssh_mat | exact ⟨rfl, fun _ => trivial⟩ | exact ⟨rfl, fun _ => by rw [zr30]; exact ssh_vec⟩) (by exact sz32.symm) ?_
    refine w_assign (by constructor) ?_
    exact hRR
  refine snd_ret ?_
  show retQ TB _ _ _ _ _ _
  exact rt_ct (T := TB) rfl kn32 rfl (by exact sz32.symm) (by exact ag32.symm) (fun V => m_alg) (fun V => rfl)
theorem c_iChangeForm_ok {p : Int} {n : Nat} {T : Nat → Nat → Nat → Int} {fo : Nat → Int} (hv0 : VN p n T fo) {v : Nat → Int} (hv : VV p n v) (hr : rankT p n T fo = n) (hi : iOk p n T v) : ACalls Try.prog TB 23 [algA p (n : Int) T fo, vecA v] (.tup 2 (pairA (algA p (n : Int) T (mixF (fun a => formF p fo (timesF p n T v (eF a))) fo (n))) (.int .i64 0))) [] := by
  have hp8 := hv0.p0
  have hn6 := hv0.n6
  have hv8 := hv.B8 (p := p) (by omega)
  refine acalls_of tokTB Try.func23 rfl rfl (Nat.le_of_ble_eq_true rfl) ?_
  apply sr tokTB (by kernel_rfl)
  · intro RR hRR
    refine w_boxc (HV.eq (by constructor)) (by exact trivial) ?_
    refine w_boxc (HV.eq (by constructor)) (by exact trivial) ?_
    refine w_alloc kn32 rfl zr32 ?_
    refine w_assign (by constructor) ?_
    exact hRR
  refine snd_seq ?_
  apply sr tokTB (by kernel_rfl)
  · intro RR hRR
    refine w_ldc rfl kn32 (by constructor) (by exact sz32.symm) (by exact ag32.symm) ?_
    refine w_ldc rfl kn30 (by constructor) (by exact sz30.symm) (by exact ag30.symm) ?_
    refine w_bsl1 und27 kn30 (by rw [sz30]; rfl) rfl (by constructor) (by exact trivial) (by exact sz30.symm) (by first | exact trivial | exact ssh_vec | exact ⟨rfl, fun _ => trivial⟩) ?_
    refine y_call rfl (exc exp_alg (exc (ex_l1 zr30 rfl) exn)) (c_stated1_ok hv0 hv hr) ?_
    refine w_assign (by constructor) ?_
    exact hRR
  apply sr tokTB (by kernel_rfl)
  · intro RR hRR
    refine w_move (by constructor) ?_
    refine w_neq rfl rfl ?_
    exact hRR
  refine snd_cond_false rfl ?_
  refine snd_skip ?_
  refine snd_seq ?_
  apply sr tokTB (by kernel_rfl)
  · intro RR hRR
    refine w_ldc rfl kn30 (by constructor) (by exact sz30.symm) (by exact ag30.symm) ?_
    refine y_call rfl (ec (ec exn)) (c_inverse hv0 hv) ?_
    refine w_move (by constructor) ?_
    refine w_ext rfl (by decide) (by constructor) ?_
    refine w_ext rfl (by decide) (by constructor) ?_
    refine w_alloc kn30 rfl zr30 ?_
    refine w_stw rfl (by constructor) kn30 rfl (by exact trivial) (by first | exact trivial | exact ssh_vec | exact ssh_alg | exact ssh_tab | exact ssh_mat | exact ⟨rfl, fun _ => trivial⟩ | exact ⟨rfl, fun _ => by rw [zr30]; exact ssh_vec⟩) (by exact sz30.symm) ?_
    refine w_assign (by constructor) ?_
    exact hRR
  apply sr tokTB (by kernel_rfl)
  · intro RR hRR
    refine w_move (by constructor) ?_
    refine w_not rfl ?_
    exact hRR
  refine snd_cond_false (by exact not_t hi) ?_
  refine snd_skip ?_
  apply sr tokTB (by kernel_rfl)
  · intro RR hRR
    refine w_ldc rfl kn32 (by constructor) (by exact sz32.symm) (by exact ag32.symm) ?_
    refine w_alloc kn32 rfl zr32 ?_
    refine w_stw rfl (by constructor) kn32 rfl (by exact trivial) (by first | exact trivial | exact ssh_vec | exact ssh_alg | exact ssh_tab | exact ssh_mat | exact ⟨rfl, fun _ => trivial⟩ | exact ⟨rfl, fun _ => by rw [zr30]; exact ssh_vec⟩) (by exact sz32.symm) ?_
    exact hRR
  refine snd_seq ?_
  apply sr tokTB (by kernel_rfl)
  · intro RR hRR
    refine y_call rfl (ec exn) (c_n) ?_
    refine w_move (by constructor) ?_
    exact hRR
  refine snd_block ?_
  refine snd_loop (S := Nat) (fun i => ([(2, .cptr (algA p (n : Int) T fo)), (3, .cptr (vecA v)), (4, .ptr 4 0 [] 0 (algA 0 0 (fun _ _ _ => 0) (fun _ => 0))), (9, .ptr 9 0 [] 0 (algA 0 0 (fun _ _ _ => 0) (fun _ => 0))), (28, .int .i64 (n : Int)), (29, .int .i64 (i : Int))], [(4, .one (algA 0 0 (fun _ _ _ => 0) (fun _ => 0)) (algA 0 0 (fun _ _ _ => 0) (fun _ => 0))), (9, .one (algA 0 0 (fun _ _ _ => 0) (fun _ => 0)) (algA p (n : Int) T (mixF (fun a => formF p fo (timesF p n T v (eF a))) fo (i))))])) (fun i => i ≤ n) (fun i => n - i) (0) ρ0 ?_ ?_ ?_
  · exact ⟨⟨m_calg, (m_cvec (fun _ _ => rfl)), ⟨rfl, rfl, rfl, rfl, rfl⟩, ⟨rfl, rfl, rfl, rfl, rfl⟩, (by first | exact m_int rfl | exact m_int (by omega) | exact m_int (by simp; done) | (exact m_int (by simp; omega))), (by first | exact m_int rfl | exact m_int (by omega) | exact m_int (by simp; done) | (exact m_int (by simp; omega))), trivial⟩, ⟨⟨rfl, (by first | exact trivial | exact ssh_vec | exact ssh_alg | exact ssh_tab | exact ssh_mat | exact ⟨rfl, fun _ => trivial⟩ | exact ⟨rfl, fun _ => by rw [zr30]; exact ssh_vec⟩), (by first | exact mt_vec (fun _ _ => rfl) | exact mt_mat (fun _ _ _ _ => rfl) | exact mt_tab (fun _ _ _ _ _ _ => rfl) | exact mt_arr0 | exact mt_app (fun _ _ => rfl) rfl | exact ⟨rfl, fun _ _ => mt_row (fun _ _ => rfl)⟩ | exact Mt_closed (V := _) closed_alg (fun _ _ _ => trivial) (by simp))⟩, ⟨rfl, (by first | exact trivial | exact ssh_vec | exact ssh_alg | exact ssh_tab | exact ssh_mat | exact ⟨rfl, fun _ => trivial⟩ | exact ⟨rfl, fun _ => by rw [zr30]; exact ssh_vec⟩), (by exact mt_alg rfl rfl (fun _ _ _ _ _ _ => rfl) (fun z _ => by simp [mixF]))⟩, trivial⟩, ⟨⟨(fun h => by first | exact ⟨rfl, rfl⟩ | exact absurd h (by decide)), (fun h => by first | exact ⟨rfl, rfl⟩ | exact absurd h (by decide)), trivial⟩, ⟨(fun h => by first | exact ⟨rfl, rfl⟩ | exact absurd h (by decide)), (fun h => by first | exact ⟨rfl, rfl⟩ | exact absurd h (by decide)), trivial⟩, trivial⟩⟩
  · exact Nat.zero_le _
  intro i hi0
  refine sq (env2 := [(2, .cptr (algA p (n : Int) T fo)), (3, .cptr (vecA v)), (4, .ptr 4 0 [] 0 (algA 0 0 (fun _ _ _ => 0) (fun _ => 0))), (9, .ptr 9 0 [] 0 (algA 0 0 (fun _ _ _ => 0) (fun _ => 0))), (28, .int .i64 (n : Int)), (29, .int .i64 (i : Int))]) (ol2 := [(4, .one (algA 0 0 (fun _ _ _ => 0) (fun _ => 0)) (algA 0 0 (fun _ _ _ => 0) (fun _ => 0))), (9, .one (algA 0 0 (fun _ _ _ => 0) (fun _ => 0)) (algA p (n : Int) T (mixF (fun a => formF p fo (timesF p n T v (eF a))) fo (i))))]) rfl rfl ?_
  apply sr tokTB (by kernel_rfl)
  · intro RR hRR
    refine w_lss rfl rfl ?_
    exact hRR
  refine snd_seq ?_
  refine snd_cond _ rfl (fun hc30 => ?_) (fun hc30 => ?_)
  · try simp only [hcs] at hc30
    have lt_i : i < n := by omega
    refine snd_skip ?_
    refine snd_seq ?_
    refine snd_block ?_
    apply sr tokTB (by kernel_rfl)
    · intro RR hRR
      refine w_move (by constructor) ?_
      refine w_assign (by constructor) ?_
      exact hRR
    apply ld tokTB mixed (by kernel_rfl) (by kernel_rfl)
    · intro RR hRR
      refine w_move (by constructor) ?_
      refine w_ldc rfl kn30 (by constructor) (by exact sz30.symm) (by exact ag30.symm) ?_
      refine w_move (by constructor) ?_
      refine y_call rfl (ec exn) (c_basis (i := i) (by omega)) ?_
      refine y_call rfl (ec (ec (ec exn))) (c_times (u := v) (v := eF i) (by omega) (by omega) hn6 hv0.T8 hv8 (eF_B8 i)) ?_
      refine y_call rfl (ec (ec exn)) (c_form (v := timesF p n T v (eF i)) (by omega) hv0.f8 (timesF_B8 (by omega) (by omega))) ?_
      refine w_conv rfl und2 und5 (by exact w8 (formF_bd (by omega) _ _).1 (by have := (formF_bd (p := p) (by omega) fo (timesF p n T v (eF i))).2; exact Int.lt_of_lt_of_le this (by omega))) ?_
      refine w_fap rfl und32 rfl kn30 nz30 rfl (by decide) rfl ?_
      first | refine w_iac rfl rfl und30 kn5 (by exact sz5.symm) ?_ rfl ?_ | refine w_iap rfl rfl und30 kn5 rfl (by exact sz5.symm) rfl ?_ ?_
      · exact ⟨by omega, by omega⟩
      first | refine w_stw rfl (by constructor) kn5 rfl (by exact trivial) (by first | exact trivial | exact ssh_vec | exact ssh_alg | exact ssh_tab | exact ssh_mat | exact ⟨rfl, fun _ => trivial⟩ | exact ⟨rfl, fun _ => by rw [zr30]; exact ssh_vec⟩) (by exact sz5.symm) ?_ | refine w_sti rfl rfl kn5 rfl (by exact trivial) (by exact sz5.symm) ?_ | refine w_store rfl (HV.eq (by constructor)) kn5 rfl (by exact trivial) (by first | exact trivial | exact ssh_vec | exact ssh_alg | exact ssh_tab | exact ssh_mat | exact ⟨rfl, fun _ => trivial⟩ | exact ⟨rfl, fun _ => by rw [zr30]; exact ssh_vec⟩) (by exact sz5.symm) (put_in (by first | exact put_mat | exact put_tab | exact put_alg0 | exact put_alg1 | exact put_alg2 | exact put_alg3 | exact put_alg3i | exact put_alg2ij | exact put_alg2ijk | exact put_mat2 | exact put_tab2 | exact put_tab3)) ?_ | refine w_store rfl (HV.eq (by constructor)) kn5 rfl (by exact trivial) (by exact trivial) (by exact sz5.symm) rfl ?_
      exact hRR
    apply lr tokTB (by kernel_rfl)
    · intro RR hRR
      refine y_add rfl rfl ?_
      refine w_move (by constructor) ?_
      exact hRR
    refine ⟨i + 1, ρ0, ?_, (by omega), (by dsimp only; omega)⟩
    exact ⟨⟨m_calg, (m_cvec (fun _ _ => rfl)), ⟨rfl, rfl, rfl, rfl, rfl⟩, ⟨rfl, rfl, rfl, rfl, rfl⟩, (by first | exact m_int rfl | exact m_int (by omega) | exact m_int (by simp; done) | (exact m_int (by simp; omega))), (by first | exact m_int rfl | exact m_int (by omega) | exact m_int (by simp; done) | (exact m_int (by simp; omega))), trivial⟩, ⟨⟨rfl, (by first | exact trivial | exact ssh_vec | exact ssh_alg | exact ssh_tab | exact ssh_mat | exact ⟨rfl, fun _ => trivial⟩ | exact ⟨rfl, fun _ => by rw [zr30]; exact ssh_vec⟩), (by first | exact mt_vec (fun _ _ => rfl) | exact mt_mat (fun _ _ _ _ => rfl) | exact mt_tab (fun _ _ _ _ _ _ => rfl) | exact mt_arr0 | exact mt_app (fun _ _ => rfl) rfl | exact ⟨rfl, fun _ _ => mt_row (fun _ _ => rfl)⟩ | exact Mt_closed (V := _) closed_alg (fun _ _ _ => trivial) (by simp))⟩, ⟨rfl, (by first | exact trivial | exact ssh_vec | exact ssh_alg | exact ssh_tab | exact ssh_mat | exact ⟨rfl, fun _ => trivial⟩ | exact ⟨rfl, fun _ => by rw [zr30]; exact ssh_vec⟩), (by exact mt_alg rfl rfl (fun _ _ _ _ _ _ => rfl) (fun z _ => upd_mix _ _ i z))⟩, trivial⟩, ⟨⟨(fun h => by first | exact ⟨rfl, rfl⟩ | exact absurd h (by decide)), (fun h => by first | exact ⟨rfl, rfl⟩ | exact absurd h (by decide)), trivial⟩, ⟨(fun h => by first | exact ⟨rfl, rfl⟩ | exact absurd h (by decide)), (fun h => by first | exact ⟨rfl, rfl⟩ | exact absurd h (by decide)), trivial⟩, trivial⟩⟩
  · try simp only [hcs] at hc30
    have ge_i : n = i := by omega
    subst ge_i
    refine snd_exit ?_
    apply sr tokTB (by kernel_rfl)
    · intro RR hRR
      refine w_ldp rfl kn32 rfl (by constructor) (by exact sz32.symm) (by exact ag32.symm) ?_
      refine w_stw rfl (by constructor) kn32 rfl (by exact trivial) (by first | exact trivial | exact ssh_vec | exact ssh_alg | exact ssh_tab | exact ssh_mat | exact ⟨rfl, fun _ => trivial⟩ | exact ⟨rfl, fun _ => by rw [zr30]; exact ssh_vec⟩) (by exact sz32.symm) ?_
      refine w_assign (by constructor) ?_
      exact hRR
    refine snd_ret ?_
    show retQ TB _ _ _ _ _ _
    exact rt_ct (T := TB) rfl kn32 rfl (by exact sz32.symm) (by exact ag32.symm) (fun V => m_alg) (fun V => rfl)
theorem c_iChangeForm_ni {p : Int} {n : Nat} {T : Nat → Nat → Nat → Int} {fo : Nat → Int} (hv0 : VN p n T fo) {v : Nat → Int} (hv : VV p n v) (hr : rankT p n T fo = n) (hi : ¬ iOk p n T v) : ACalls Try.prog TB 23 [algA p (n : Int) T fo, vecA v] (.tup 2 (pairA (algA 0 0 (fun _ _ _ => 0) (fun _ => 0)) (.int .i64 5))) [] := by
  refine acalls_of tokTB Try.func23 rfl rfl (Nat.le_of_ble_eq_true rfl) ?_
  apply sr tokTB (by kernel_rfl)
  · intro RR hRR
    refine w_boxc (HV.eq (by constructor)) (by exact trivial) ?_
    refine w_boxc (HV.eq (by constructor)) (by exact trivial) ?_
    refine w_alloc kn32 rfl zr32 ?_
    refine w_assign (by constructor) ?_
    exact hRR
  refine snd_seq ?_
  apply sr tokTB (by kernel_rfl)
  · intro RR hRR
    refine w_ldc rfl kn32 (by constructor) (by exact sz32.symm) (by exact ag32.symm) ?_
    refine w_ldc rfl kn30 (by constructor) (by exact sz30.symm) (by exact ag30.symm) ?_
    refine w_bsl1 und27 kn30 (by rw [sz30]; rfl) rfl (by constructor) (by exact trivial) (by exact sz30.symm) (by first | exact trivial | exact ssh_vec | exact ⟨rfl, fun _ => trivial⟩) ?_
    refine y_call rfl (exc exp_alg (exc (ex_l1 zr30 rfl) exn)) (c_stated1_ok hv0 hv hr) ?_
    refine w_assign (by constructor) ?_
    exact hRR
  apply sr tokTB (by kernel_rfl)
  · intro RR hRR
    refine w_move (by constructor) ?_
    refine w_neq rfl rfl ?_
    exact hRR
  refine snd_cond_false rfl ?_
  refine snd_skip ?_
  refine snd_seq ?_
  apply sr tokTB (by kernel_rfl)
  · intro RR hRR
    refine w_ldc rfl kn30 (by constructor) (by exact sz30.symm) (by exact ag30.symm) ?_
    refine y_call rfl (ec (ec exn)) (c_inverse hv0 hv) ?_
    refine w_move (by constructor) ?_
    refine w_ext rfl (by decide) (by constructor) ?_
    refine w_ext rfl (by decide) (by constructor) ?_
    refine w_alloc kn30 rfl zr30 ?_
    refine w_stw rfl (by constructor) kn30 rfl (by exact trivial) (by first | exact trivial | exact ssh_vec | exact ssh_alg | exact ssh_tab | exact ssh_mat | exact ⟨rfl, fun _ => trivial⟩ | exact ⟨rfl, fun _ => by rw [zr30]; exact ssh_vec⟩) (by exact sz30.symm) ?_
    refine w_assign (by constructor) ?_
    exact hRR
  apply sr tokTB (by kernel_rfl)
  · intro RR hRR
    refine w_move (by constructor) ?_
    refine w_not rfl ?_
    exact hRR
  refine snd_cond_true (by exact not_f hi) ?_
  apply sr tokTB (by kernel_rfl)
  · intro RR hRR
    refine w_bld_s kn32 zr32 und32 rfl (by exact ⟨rfl, kn2, sz2, rfl, kn2, sz2, rfl, kn24, sz24, rfl, kn30, sz30, trivial⟩) trivial rfl ?_
    refine w_stw rfl (by constructor) kn32 rfl (by exact trivial) (by first | exact trivial | exact ssh_vec | exact ssh_alg | exact ssh_tab | exact ssh_mat | exact ⟨rfl, fun _ => trivial⟩ | exact ⟨rfl, fun _ => by rw [zr30]; exact ssh_vec⟩) (by exact sz32.symm) ?_
    refine w_assign (by constructor) ?_
    exact hRR
  refine snd_ret ?_
  show retQ TB _ _ _ _ _ _
  exact rt_ct (T := TB) rfl kn32 rfl (by exact sz32.symm) (by exact ag32.symm) (fun V => m_alg) (fun V => rfl)
theorem c_iChangeForm_nf {p : Int} {n : Nat} {T : Nat → Nat → Nat → Int} {fo : Nat → Int} (hv0 : VN p n T fo) {v : Nat → Int} (hv : VV p n v) (hr : ¬ rankT p n T fo = n) : ACalls Try.prog TB 23 [algA p (n : Int) T fo, vecA v] (.tup 2 (pairA (algA 0 0 (fun _ _ _ => 0) (fun _ => 0)) (.int .i64 5))) [] := by
  refine acalls_of tokTB Try.func23 rfl rfl (Nat.le_of_ble_eq_true rfl) ?_
  apply sr tokTB (by kernel_rfl)
  · intro RR hRR
    refine w_boxc (HV.eq (by constructor)) (by exact trivial) ?_
    refine w_boxc (HV.eq (by constructor)) (by exact trivial) ?_
    refine w_alloc kn32 rfl zr32 ?_
    refine w_assign (by constructor) ?_
    exact hRR
  refine snd_seq ?_
  apply sr tokTB (by kernel_rfl)
  · intro RR hRR
    refine w_ldc rfl kn32 (by constructor) (by exact sz32.symm) (by exact ag32.symm) ?_
    refine w_ldc rfl kn30 (by constructor) (by exact sz30.symm) (by exact ag30.symm) ?_
    refine w_bsl1 und27 kn30 (by rw [sz30]; rfl) rfl (by constructor) (by exact trivial) (by exact sz30.symm) (by first | exact trivial | exact ssh_vec | exact ⟨rfl, fun _ => trivial⟩) ?_
    refine y_call rfl (exc exp_alg (exc (ex_l1 zr30 rfl) exn)) (c_stated1_nf hv0 hv hr) ?_
    refine w_assign (by constructor) ?_
    exact hRR
  apply sr tokTB (by kernel_rfl)
  · intro RR hRR
    refine w_move (by constructor) ?_
    refine w_neq rfl rfl ?_
    exact hRR
  refine snd_cond_true rfl ?_
  apply sr tokTB (by kernel_rfl)
  · intro RR hRR
    refine w_bld_s kn32 zr32 und32 rfl (by exact ⟨rfl, kn2, sz2, rfl, kn2, sz2, rfl, kn24, sz24, rfl, kn30, sz30, trivial⟩) trivial rfl ?_
    refine w_move (by constructor) ?_
    refine w_stw rfl (by constructor) kn32 rfl (by exact trivial) (by first | exact trivial | exact ssh_vec | exact ssh_alg | exact ssh_tab | exact ssh_mat | exact ⟨rfl, fun _ => trivial⟩ | exact ⟨rfl, fun _ => by rw [zr30]; exact ssh_vec⟩) (by exact sz32.symm) ?_
    refine w_assign (by constructor) ?_
    exact hRR
  refine snd_ret ?_
  show retQ TB _ _ _ _ _ _
  exact rt_ct (T := TB) rfl kn32 rfl (by exact sz32.symm) (by exact ag32.symm) (fun V => m_alg) (fun V => rfl)
theorem c_iChangeForm_no {p n : Int} {T : Nat → Nat → Nat → Int} {fo : Nat → Int} (hT : RB T) (hf : RV fo) {v : Nat → Int} (hv : B8 v) (hz : ¬ VZ p n T fo 1 (vs1 v)) : ACalls Try.prog TB 23 [algA p n T fo, vecA v] (.tup 2 (pairA (algA 0 0 (fun _ _ _ => 0) (fun _ => 0)) (.int .i64 1))) [] := by
  refine acalls_of tokTB Try.func23 rfl rfl (Nat.le_of_ble_eq_true rfl) ?_
  apply sr tokTB (by kernel_rfl)
  · intro RR hRR
    refine w_boxc (HV.eq (by constructor)) (by exact trivial) ?_
    refine w_boxc (HV.eq (by constructor)) (by exact trivial) ?_
    refine w_alloc kn32 rfl zr32 ?_
    refine w_assign (by constructor) ?_
    exact hRR
  refine snd_seq ?_
  apply sr tokTB (by kernel_rfl)
  · intro RR hRR
    refine w_ldc rfl kn32 (by constructor) (by exact sz32.symm) (by exact ag32.symm) ?_
    refine w_ldc rfl kn30 (by constructor) (by exact sz30.symm) (by exact ag30.symm) ?_
    refine w_bsl1 und27 kn30 (by rw [sz30]; rfl) rfl (by constructor) (by exact trivial) (by exact sz30.symm) (by first | exact trivial | exact ssh_vec | exact ⟨rfl, fun _ => trivial⟩) ?_
    refine y_call rfl (exc exp_alg (exc (ex_l1 zr30 rfl) exn)) (c_stated1_no hT hf hv hz) ?_
    refine w_assign (by constructor) ?_
    exact hRR
  apply sr tokTB (by kernel_rfl)
  · intro RR hRR
    refine w_move (by constructor) ?_
    refine w_neq rfl rfl ?_
    exact hRR
  refine snd_cond_true rfl ?_
  apply sr tokTB (by kernel_rfl)
  · intro RR hRR
    refine w_bld_s kn32 zr32 und32 rfl (by exact ⟨rfl, kn2, sz2, rfl, kn2, sz2, rfl, kn24, sz24, rfl, kn30, sz30, trivial⟩) trivial rfl ?_
    refine w_move (by constructor) ?_
    refine w_stw rfl (by constructor) kn32 rfl (by exact trivial) (by first | exact trivial | exact ssh_vec | exact ssh_alg | exact ssh_tab | exact ssh_mat | exact ⟨rfl, fun _ => trivial⟩ | exact ⟨rfl, fun _ => by rw [zr30]; exact ssh_vec⟩) (by exact sz32.symm) ?_
    refine w_assign (by constructor) ?_
    exact hRR
  refine snd_ret ?_
  show retQ TB _ _ _ _ _ _
  exact rt_ct (T := TB) rfl kn32 rfl (by exact sz32.symm) (by exact ag32.symm) (fun V => m_alg) (fun V => rfl)
theorem lChangeForm_ok {p : Int} {n : Nat} {T : Nat → Nat → Nat → Int} {fo : Nat → Int} (hv0 : VN p n T fo) {v : Nat → Int} (hv : VV p n v) (hr : rankT p n T fo = n) (hi : iOk p n T v) : ACalls Try.prog TB 4 [algA p (n : Int) T fo, vecA v] (.bool true) [] := by
  refine acalls_of tokTB Try.func4 rfl rfl (Nat.le_of_ble_eq_true rfl) ?_
  apply sr tokTB (by kernel_rfl)
  · intro RR hRR
    refine w_boxc (HV.eq (by constructor)) (by exact trivial) ?_
    refine w_boxc (HV.eq (by constructor)) (by exact trivial) ?_
    refine w_assign (by constructor) ?_
    exact hRR
  apply sd tokTB mixed (by kernel_rfl) (by kernel_rfl)
  · intro RR hRR
    refine w_ldc rfl kn26 (by constructor) (by exact sz26.symm) (by exact ag26.symm) ?_
    refine y_call rfl (ec exn) (c_toAlgebra) ?_
    refine w_ldc rfl kn22 (by constructor) (by exact sz22.symm) (by exact ag22.symm) ?_
    refine y_call rfl (ec exn) (c_toVector) ?_
    refine y_call rfl (ec (ec exn)) (c_sChangeForm_ok hv0 hv hr hi) ?_
    refine w_move (by constructor) ?_
    refine w_ext rfl (by decide) (by constructor) ?_
    refine w_ext rfl (by decide) (by constructor) ?_
    refine w_alloc kn32 rfl zr32 ?_
    refine w_stw rfl (by constructor) kn32 rfl (by exact trivial) (by first | exact trivial | exact ssh_vec | exact ssh_alg | exact ssh_tab | exact ssh_mat | exact ⟨rfl, fun _ => trivial⟩ | exact ⟨rfl, fun _ => by rw [zr30]; exact ssh_vec⟩) (by exact sz32.symm) ?_
    refine w_assign (by constructor) ?_
    exact hRR
  apply sd tokTB mixed (by kernel_rfl) (by kernel_rfl)
  · intro RR hRR
    refine w_ldc rfl kn26 (by constructor) (by exact sz26.symm) (by exact ag26.symm) ?_
    refine y_call rfl (ec exn) (c_toAlgebra) ?_
    refine w_ldc rfl kn22 (by constructor) (by exact sz22.symm) (by exact ag22.symm) ?_
    refine y_call rfl (ec exn) (c_toVector) ?_
    refine y_call rfl (ec (ec exn)) (c_iChangeForm_ok hv0 hv hr hi) ?_
    refine w_move (by constructor) ?_
    refine w_ext rfl (by decide) (by constructor) ?_
    refine w_ext rfl (by decide) (by constructor) ?_
    refine w_alloc kn32 rfl zr32 ?_
    refine w_stw rfl (by constructor) kn32 rfl (by exact trivial) (by first | exact trivial | exact ssh_vec | exact ssh_alg | exact ssh_tab | exact ssh_mat | exact ⟨rfl, fun _ => trivial⟩ | exact ⟨rfl, fun _ => by rw [zr30]; exact ssh_vec⟩) (by exact sz32.symm) ?_
    refine w_assign (by constructor) ?_
    exact hRR
  refine snd_seq ?_
  apply srG (env' := (33, .bool (!true || decide ((0 : Int) ≠ 0))) :: (32, .any) :: (31, .any) :: (30, .any) :: (29, _) :: (28, _) :: (27, _) :: (26, _) :: (25, _) :: _) tokTB (by kernel_rfl)
  · intro RR hRR
    refine w_ldp rfl kn32 rfl (by constructor) (by exact sz32.symm) (by exact ag32.symm) ?_
    refine w_ldp rfl kn32 rfl (by constructor) (by exact sz32.symm) (by exact ag32.symm) ?_
    refine y_call rfl (ec (ec exn)) (c_eqAlgebra) ?_
    refine w_not rfl ?_
    refine w_move (by constructor) ?_
    refine w_g rfl rfl (fun hg4 => ?_) (fun hg4 => ?_)
    · skip
      refine w_move (by constructor) ?_
      refine w_g_on rfl rfl hg4 ?_
      refine w_move (by constructor) ?_
      refine w_g_on rfl rfl hg4 ?_
      refine w_neq rfl rfl ?_
      refine w_pick_0 rfl hg4 (by constructor) ?_
      try simp only [Int.toNat_natCast] at hg4
      exact hRR _ (EL.cons (.inr (by first | rfl | (simp only [hg4, els]; done) | (simp only [hg4, els]; rfl) | simp [hg4])) (EL.cons (.inl rfl) (EL.cons (.inl rfl) (EL.cons (.inl rfl) (EL.cons (.inr rfl) (EL.cons (.inr rfl) (EL.cons (.inr rfl) (EL.cons (.inr rfl) (EL.cons (.inr rfl) (EL.refl _))))))))))
    · have hg4 := eq_true_of_ne_false hg4
      refine w_g_off rfl rfl (by rw [hg4]; decide) ?_
      refine w_g_off rfl rfl (by rw [hg4]; decide) ?_
      refine w_pick_1 rfl hg4 (by constructor) ?_
      try simp only [Int.toNat_natCast] at hg4
      exact hRR _ (EL.cons (.inr (by first | rfl | (simp only [hg4, els]; done) | (simp only [hg4, els]; rfl) | simp [hg4])) (EL.cons (.inl rfl) (EL.cons (.inl rfl) (EL.cons (.inl rfl) (EL.cons (.inr rfl) (EL.cons (.inr rfl) (EL.cons (.inr rfl) (EL.cons (.inr rfl) (EL.cons (.inr rfl) (EL.refl _))))))))))
  refine snd_cond _ rfl (fun hc33 => ?_) (fun hc33 => ?_)
  · skip
    exact absurd hc33 (by simp [eqN])
  · skip
    refine snd_skip ?_
    apply sr tokTB (by kernel_rfl)
    · intro RR hRR
      refine w_assign (by constructor) ?_
      exact hRR
    refine snd_ret ?_
    exact rt (T := TB) (fun V => by first | exact m_bool rfl | exact m_int rfl)
theorem lChangeForm_ni {p : Int} {n : Nat} {T : Nat → Nat → Nat → Int} {fo : Nat → Int} (hv0 : VN p n T fo) {v : Nat → Int} (hv : VV p n v) (hr : rankT p n T fo = n) (hi : ¬ iOk p n T v) : ACalls Try.prog TB 4 [algA p (n : Int) T fo, vecA v] (.bool true) [] := by
  refine acalls_of tokTB Try.func4 rfl rfl (Nat.le_of_ble_eq_true rfl) ?_
  apply sr tokTB (by kernel_rfl)
  · intro RR hRR
    refine w_boxc (HV.eq (by constructor)) (by exact trivial) ?_
    refine w_boxc (HV.eq (by constructor)) (by exact trivial) ?_
    refine w_assign (by constructor) ?_
    exact hRR
  apply sd tokTB mixed (by kernel_rfl) (by kernel_rfl)
  · intro RR hRR
    refine w_ldc rfl kn26 (by constructor) (by exact sz26.symm) (by exact ag26.symm) ?_
    refine y_call rfl (ec exn) (c_toAlgebra) ?_
    refine w_ldc rfl kn22 (by constructor) (by exact sz22.symm) (by exact ag22.symm) ?_
    refine y_call rfl (ec exn) (c_toVector) ?_
    refine y_call rfl (ec (ec exn)) (c_sChangeForm_ni hv0 hv hr hi) ?_
    refine w_move (by constructor) ?_
    refine w_ext rfl (by decide) (by constructor) ?_
    refine w_ext rfl (by decide) (by constructor) ?_
    refine w_alloc kn32 rfl zr32 ?_
    refine w_stw rfl (by constructor) kn32 rfl (by exact trivial) (by first | exact trivial | exact ssh_vec | exact ssh_alg | exact ssh_tab | exact ssh_mat | exact ⟨rfl, fun _ => trivial⟩ | exact ⟨rfl, fun _ => by rw [zr30]; exact ssh_vec⟩) (by exact sz32.symm) ?_
    refine w_assign (by constructor) ?_
    exact hRR
  apply sd tokTB mixed (by kernel_rfl) (by kernel_rfl)
  · intro RR hRR
    refine w_ldc rfl kn26 (by constructor) (by exact sz26.symm) (by exact ag26.symm) ?_
    refine y_call rfl (ec exn) (c_toAlgebra) ?_
    refine w_ldc rfl kn22 (by constructor) (by exact sz22.symm) (by exact ag22.symm) ?_
    refine y_call rfl (ec exn) (c_toVector) ?_
    refine y_call rfl (ec (ec exn)) (c_iChangeForm_ni hv0 hv hr hi) ?_
    refine w_move (by constructor) ?_
    refine w_ext rfl (by decide) (by constructor) ?_
    refine w_ext rfl (by decide) (by constructor) ?_
    refine w_alloc kn32 rfl zr32 ?_
    refine w_stw rfl (by constructor) kn32 rfl (by exact trivial) (by first | exact trivial | exact ssh_vec | exact ssh_alg | exact ssh_tab | exact ssh_mat | exact ⟨rfl, fun _ => trivial⟩ | exact ⟨rfl, fun _ => by rw [zr30]; exact ssh_vec⟩) (by exact sz32.symm) ?_
    refine w_assign (by constructor) ?_
    exact hRR
  refine snd_seq ?_
  apply srG (env' := (33, .bool (!true || decide ((5 : Int) ≠ 5))) :: (32, .any) :: (31, .any) :: (30, .any) :: (29, _) :: (28, _) :: (27, _) :: (26, _) :: (25, _) :: _) tokTB (by kernel_rfl)
  · intro RR hRR
    refine w_ldp rfl kn32 rfl (by constructor) (by exact sz32.symm) (by exact ag32.symm) ?_
    refine w_ldp rfl kn32 rfl (by constructor) (by exact sz32.symm) (by exact ag32.symm) ?_
    refine y_call rfl (ec (ec exn)) (c_eqAlgebra) ?_
    refine w_not rfl ?_
    refine w_move (by constructor) ?_
    refine w_g rfl rfl (fun hg4 => ?_) (fun hg4 => ?_)
    · skip
      refine w_move (by constructor) ?_
      refine w_g_on rfl rfl hg4 ?_
      refine w_move (by constructor) ?_
      refine w_g_on rfl rfl hg4 ?_
      refine w_neq rfl rfl ?_
      refine w_pick_0 rfl hg4 (by constructor) ?_
      try simp only [Int.toNat_natCast] at hg4
      exact hRR _ (EL.cons (.inr (by first | rfl | (simp only [hg4, els]; done) | (simp only [hg4, els]; rfl) | simp [hg4])) (EL.cons (.inl rfl) (EL.cons (.inl rfl) (EL.cons (.inl rfl) (EL.cons (.inr rfl) (EL.cons (.inr rfl) (EL.cons (.inr rfl) (EL.cons (.inr rfl) (EL.cons (.inr rfl) (EL.refl _))))))))))
    · have hg4 := eq_true_of_ne_false hg4
      refine w_g_off rfl rfl (by rw [hg4]; decide) ?_
      refine w_g_off rfl rfl (by rw [hg4]; decide) ?_
      refine w_pick_1 rfl hg4 (by constructor) ?_
      try simp only [Int.toNat_natCast] at hg4
      exact hRR _ (EL.cons (.inr (by first | rfl | (simp only [hg4, els]; done) | (simp only [hg4, els]; rfl) | simp [hg4])) (EL.cons (.inl rfl) (EL.cons (.inl rfl) (EL.cons (.inl rfl) (EL.cons (.inr rfl) (EL.cons (.inr rfl) (EL.cons (.inr rfl) (EL.cons (.inr rfl) (EL.cons (.inr rfl) (EL.refl _))))))))))
  refine snd_cond _ rfl (fun hc33 => ?_) (fun hc33 => ?_)
  · skip
    exact absurd hc33 (by simp [eqN])
  · skip
    refine snd_skip ?_
    apply sr tokTB (by kernel_rfl)
    · intro RR hRR
      refine w_assign (by constructor) ?_
      exact hRR
    refine snd_ret ?_
    exact rt (T := TB) (fun V => by first | exact m_bool rfl | exact m_int rfl)
theorem lChangeForm_nf {p : Int} {n : Nat} {T : Nat → Nat → Nat → Int} {fo : Nat → Int} (hv0 : VN p n T fo) {v : Nat → Int} (hv : VV p n v) (hr : ¬ rankT p n T fo = n) : ACalls Try.prog TB 4 [algA p (n : Int) T fo, vecA v] (.bool true) [] := by
  refine acalls_of tokTB Try.func4 rfl rfl (Nat.le_of_ble_eq_true rfl) ?_
  apply sr tokTB (by kernel_rfl)
  · intro RR hRR
    refine w_boxc (HV.eq (by constructor)) (by exact trivial) ?_
    refine w_boxc (HV.eq (by constructor)) (by exact trivial) ?_
    refine w_assign (by constructor) ?_
    exact hRR
  apply sd tokTB mixed (by kernel_rfl) (by kernel_rfl)
  · intro RR hRR
    refine w_ldc rfl kn26 (by constructor) (by exact sz26.symm) (by exact ag26.symm) ?_
    refine y_call rfl (ec exn) (c_toAlgebra) ?_
    refine w_ldc rfl kn22 (by constructor) (by exact sz22.symm) (by exact ag22.symm) ?_
    refine y_call rfl (ec exn) (c_toVector) ?_
    refine y_call rfl (ec (ec exn)) (c_sChangeForm_nf hv0 hv hr) ?_
    refine w_move (by constructor) ?_
    refine w_ext rfl (by decide) (by constructor) ?_
    refine w_ext rfl (by decide) (by constructor) ?_
    refine w_alloc kn32 rfl zr32 ?_
    refine w_stw rfl (by constructor) kn32 rfl (by exact trivial) (by first | exact trivial | exact ssh_vec | exact ssh_alg | exact ssh_tab | exact ssh_mat | exact ⟨rfl, fun _ => trivial⟩ | exact ⟨rfl, fun _ => by rw [zr30]; exact ssh_vec⟩) (by exact sz32.symm) ?_
    refine w_assign (by constructor) ?_
    exact hRR
  apply sd tokTB mixed (by kernel_rfl) (by kernel_rfl)
  · intro RR hRR
    refine w_ldc rfl kn26 (by constructor) (by exact sz26.symm) (by exact ag26.symm) ?_
    refine y_call rfl (ec exn) (c_toAlgebra) ?_
    refine w_ldc rfl kn22 (by constructor) (by exact sz22.symm) (by exact ag22.symm) ?_
    refine y_call rfl (ec exn) (c_toVector) ?_
    refine y_call rfl (ec (ec exn)) (c_iChangeForm_nf hv0 hv hr) ?_
    refine w_move (by constructor) ?_
    refine w_ext rfl (by decide) (by constructor) ?_
    refine w_ext rfl (by decide) (by constructor) ?_
    refine w_alloc kn32 rfl zr32 ?_
    refine w_stw rfl (by constructor) kn32 rfl (by exact trivial) (by first | exact trivial | exact ssh_vec | exact ssh_alg | exact ssh_tab | exact ssh_mat | exact ⟨rfl, fun _ => trivial⟩ | exact ⟨rfl, fun _ => by rw [zr30]; exact ssh_vec⟩) (by exact sz32.symm) ?_
    refine w_assign (by constructor) ?_
    exact hRR
  refine snd_seq ?_
  apply srG (env' := (33, .bool (!true || decide ((5 : Int) ≠ 5))) :: (32, .any) :: (31, .any) :: (30, .any) :: (29, _) :: (28, _) :: (27, _) :: (26, _) :: (25, _) :: _) tokTB (by kernel_rfl)
  · intro RR hRR
    refine w_ldp rfl kn32 rfl (by constructor) (by exact sz32.symm) (by exact ag32.symm) ?_
    refine w_ldp rfl kn32 rfl (by constructor) (by exact sz32.symm) (by exact ag32.symm) ?_
    refine y_call rfl (ec (ec exn)) (c_eqAlgebra) ?_
    refine w_not rfl ?_
    refine w_move (by constructor) ?_
    refine w_g rfl rfl (fun hg4 => ?_) (fun hg4 => ?_)
    · skip
      refine w_move (by constructor) ?_
      refine w_g_on rfl rfl hg4 ?_
      refine w_move (by constructor) ?_
      refine w_g_on rfl rfl hg4 ?_
      refine w_neq rfl rfl ?_
      refine w_pick_0 rfl hg4 (by constructor) ?_
      try simp only [Int.toNat_natCast] at hg4
      exact hRR _ (EL.cons (.inr (by first | rfl | (simp only [hg4, els]; done) | (simp only [hg4, els]; rfl) | simp [hg4])) (EL.cons (.inl rfl) (EL.cons (.inl rfl) (EL.cons (.inl rfl) (EL.cons (.inr rfl) (EL.cons (.inr rfl) (EL.cons (.inr rfl) (EL.cons (.inr rfl) (EL.cons (.inr rfl) (EL.refl _))))))))))
    · have hg4 := eq_true_of_ne_false hg4
      refine w_g_off rfl rfl (by rw [hg4]; decide) ?_
      refine w_g_off rfl rfl (by rw [hg4]; decide) ?_
      refine w_pick_1 rfl hg4 (by constructor) ?_
      try simp only [Int.toNat_natCast] at hg4
      exact hRR _ (EL.cons (.inr (by first | rfl | (simp only [hg4, els]; done) | (simp only [hg4, els]; rfl) | simp [hg4])) (EL.cons (.inl rfl) (EL.cons (.inl rfl) (EL.cons (.inl rfl) (EL.cons (.inr rfl) (EL.cons (.inr rfl) (EL.cons (.inr rfl) (EL.cons (.inr rfl) (EL.cons (.inr rfl) (EL.refl _))))))))))
  refine snd_cond _ rfl (fun hc33 => ?_) (fun hc33 => ?_)
  · skip
    exact absurd hc33 (by simp [eqN])
  · skip
    refine snd_skip ?_
    apply sr tokTB (by kernel_rfl)
    · intro RR hRR
      refine w_assign (by constructor) ?_
      exact hRR
    refine snd_ret ?_
    exact rt (T := TB) (fun V => by first | exact m_bool rfl | exact m_int rfl)
theorem lChangeForm_no {p n : Int} {T : Nat → Nat → Nat → Int} {fo : Nat → Int} (hT : RB T) (hf : RV fo) {v : Nat → Int} (hv : B8 v) (hz : ¬ VZ p n T fo 1 (vs1 v)) : ACalls Try.prog TB 4 [algA p n T fo, vecA v] (.bool true) [] := by
  refine acalls_of tokTB Try.func4 rfl rfl (Nat.le_of_ble_eq_true rfl) ?_
  apply sr tokTB (by kernel_rfl)
  · intro RR hRR
    refine w_boxc (HV.eq (by constructor)) (by exact trivial) ?_
    refine w_boxc (HV.eq (by constructor)) (by exact trivial) ?_
    refine w_assign (by constructor) ?_
    exact hRR
  apply sd tokTB mixed (by kernel_rfl) (by kernel_rfl)
  · intro RR hRR
    refine w_ldc rfl kn26 (by constructor) (by exact sz26.symm) (by exact ag26.symm) ?_
    refine y_call rfl (ec exn) (c_toAlgebra) ?_
    refine w_ldc rfl kn22 (by constructor) (by exact sz22.symm) (by exact ag22.symm) ?_
    refine y_call rfl (ec exn) (c_toVector) ?_
    refine y_call rfl (ec (ec exn)) (c_sChangeForm_no hT hf hv hz) ?_
    refine w_move (by constructor) ?_
    refine w_ext rfl (by decide) (by constructor) ?_
    refine w_ext rfl (by decide) (by constructor) ?_
    refine w_alloc kn32 rfl zr32 ?_
    refine w_stw rfl (by constructor) kn32 rfl (by exact trivial) (by first | exact trivial | exact ssh_vec | exact ssh_alg | exact ssh_tab | exact ssh_mat | exact ⟨rfl, fun _ => trivial⟩ | exact ⟨rfl, fun _ => by rw [zr30]; exact ssh_vec⟩) (by exact sz32.symm) ?_
    refine w_assign (by constructor) ?_
    exact hRR
  apply sd tokTB mixed (by kernel_rfl) (by kernel_rfl)
  · intro RR hRR
    refine w_ldc rfl kn26 (by constructor) (by exact sz26.symm) (by exact ag26.symm) ?_
    refine y_call rfl (ec exn) (c_toAlgebra) ?_
    refine w_ldc rfl kn22 (by constructor) (by exact sz22.symm) (by exact ag22.symm) ?_
    refine y_call rfl (ec exn) (c_toVector) ?_
    refine y_call rfl (ec (ec exn)) (c_iChangeForm_no hT hf hv hz) ?_
    refine w_move (by constructor) ?_
    refine w_ext rfl (by decide) (by constructor) ?_
    refine w_ext rfl (by decide) (by constructor) ?_
    refine w_alloc kn32 rfl zr32 ?_
    refine w_stw rfl (by constructor) kn32 rfl (by exact trivial) (by first | exact trivial | exact ssh_vec | exact ssh_alg | exact ssh_tab | exact ssh_mat | exact ⟨rfl, fun _ => trivial⟩ | exact ⟨rfl, fun _ => by rw [zr30]; exact ssh_vec⟩) (by exact sz32.symm) ?_
    refine w_assign (by constructor) ?_
    exact hRR
  refine snd_seq ?_
  apply srG (env' := (33, .bool (!true || decide ((1 : Int) ≠ 1))) :: (32, .any) :: (31, .any) :: (30, .any) :: (29, _) :: (28, _) :: (27, _) :: (26, _) :: (25, _) :: _) tokTB (by kernel_rfl)
  · intro RR hRR
    refine w_ldp rfl kn32 rfl (by constructor) (by exact sz32.symm) (by exact ag32.symm) ?_
    refine w_ldp rfl kn32 rfl (by constructor) (by exact sz32.symm) (by exact ag32.symm) ?_
    refine y_call rfl (ec (ec exn)) (c_eqAlgebra) ?_
    refine w_not rfl ?_
    refine w_move (by constructor) ?_
    refine w_g rfl rfl (fun hg4 => ?_) (fun hg4 => ?_)
    · skip
      refine w_move (by constructor) ?_
      refine w_g_on rfl rfl hg4 ?_
      refine w_move (by constructor) ?_
      refine w_g_on rfl rfl hg4 ?_
      refine w_neq rfl rfl ?_
      refine w_pick_0 rfl hg4 (by constructor) ?_
      try simp only [Int.toNat_natCast] at hg4
      exact hRR _ (EL.cons (.inr (by first | rfl | (simp only [hg4, els]; done) | (simp only [hg4, els]; rfl) | simp [hg4])) (EL.cons (.inl rfl) (EL.cons (.inl rfl) (EL.cons (.inl rfl) (EL.cons (.inr rfl) (EL.cons (.inr rfl) (EL.cons (.inr rfl) (EL.cons (.inr rfl) (EL.cons (.inr rfl) (EL.refl _))))))))))
    · have hg4 := eq_true_of_ne_false hg4
      refine w_g_off rfl rfl (by rw [hg4]; decide) ?_
      refine w_g_off rfl rfl (by rw [hg4]; decide) ?_
      refine w_pick_1 rfl hg4 (by constructor) ?_
      try simp only [Int.toNat_natCast] at hg4
      exact hRR _ (EL.cons (.inr (by first | rfl | (simp only [hg4, els]; done) | (simp only [hg4, els]; rfl) | simp [hg4])) (EL.cons (.inl rfl) (EL.cons (.inl rfl) (EL.cons (.inl rfl) (EL.cons (.inr rfl) (EL.cons (.inr rfl) (EL.cons (.inr rfl) (EL.cons (.inr rfl) (EL.cons (.inr rfl) (EL.refl _))))))))))
  refine snd_cond _ rfl (fun hc33 => ?_) (fun hc33 => ?_)
  · skip
    exact absurd hc33 (by simp [eqN])
  · skip
    refine snd_skip ?_
    apply sr tokTB (by kernel_rfl)
    · intro RR hRR
      refine w_assign (by constructor) ?_
      exact hRR
    refine snd_ret ?_
    exact rt (T := TB) (fun V => by first | exact m_bool rfl | exact m_int rfl)
theorem law_ChangeForm {p n : Int} {T : Nat → Nat → Nat → Int} {fo : Nat → Int} {v : Nat → Int} (hT : RB T) (hf : RV fo) (hv : RV v) : ACalls Try.prog TB 4 [algA p n T fo, vecA v] (.bool true) [] := by
  by_cases hz : VZ p n T fo 1 (vs1 v)
  · obtain ⟨h1, h2⟩ := VZ_1.1 hz
    obtain ⟨hv0, hn⟩ := VN_of hT hf h1
    obtain ⟨m, rfl⟩ : ∃ m : Nat, n = (m : Int) := ⟨n.toNat, hn⟩
    have hv0 : VN p m T fo := hv0
    have hp0 : 0 < p := by have := hv0.p0; omega
    have hvv := VV_of hp0 hv0.n6 hv h2
    by_cases hr : rankT p m T fo = m
    · by_cases hi : iOk p m T v
      · exact lChangeForm_ok hv0 hvv hr hi
      · exact lChangeForm_ni hv0 hvv hr hi
    · exact lChangeForm_nf hv0 hvv hr
  · exact lChangeForm_no hT hf hv.b hz
end Go.Am

