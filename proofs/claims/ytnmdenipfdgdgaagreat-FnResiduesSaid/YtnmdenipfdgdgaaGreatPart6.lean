/- Part 6 of what the law stands on: abstract values, their walk, contracts of functions. My own work. Conditions: none. -/
import Derived.Test.YtnmdenipfdgdgaaGreatPart5
set_option linter.unusedVariables false
set_option linter.unusedSimpArgs false
set_option linter.unusedSectionVars false
set_option maxRecDepth 4000
namespace Go.Am
attribute [local irreducible] retQ retQp
open Go.Proofs
theorem c_valid1_ok {p : Int} {n : Nat} {T : Nat → Nat → Nat → Int} {fo : Nat → Int} (hv0 : VN p n T fo) {v : Nat → Int} (hv : VV p n v) : ACalls Tryz.prog TB 35 [algA p (n : Int) T fo, vlA 1 (vs1 v)] (.int .i64 0) [] := by
  have hp : p ≤ 256 := by have := hv0.p0; omega
  have h := c_valid hv0.rb hv0.rv (M := 1) (by omega) (vs1_B8 (hv.B8 hp)) (p := p) (n := (n : Int)) (T := T) (fo := fo)
  rwa [cZ_ok (VZ_1.2 ⟨hv0.va, hv.sm⟩)] at h
end Go.Am

set_option maxRecDepth 4000
namespace Go.Am
attribute [local irreducible] retQ retQp
open Go.Proofs
theorem c_table {p : Int} {n : Nat} {T : Nat → Nat → Nat → Int} {fo : Nat → Int} (hv0 : VN p n T fo) : ACalls Tryz.prog TB 67 [.cptr (algA p (n : Int) T fo)] (.own 0 0 n 24) [(0, .one (ZR n) (CO 1 n (fun _ => n) 2)), (1, .many (famF n (fun _ => n) (formT p T fo)))] := by
  have hp8 := hv0.p0
  have hn6 := hv0.n6
  have hn0 := hv0.n0
  refine acalls_of tokTB Tryz.func67 rfl rfl (Nat.le_of_ble_eq_true rfl) ?_
  apply sr tokTB (by kernel_rfl)
  · intro RR hRR
    refine wa ?_
    exact hRR
  apply sr tokTB (by kernel_rfl)
  · intro RR hRR
    refine w_bsl und63 kn24 (by rw [sz24]; rfl) rfl trivial trivial rfl ?_
    refine wa ?_
    exact hRR
  refine snd_seq ?_
  apply sr tokTB (by kernel_rfl)
  · intro RR hRR
    refine wm ?_
    refine y_call rfl (ec exn) (c_n) ?_
    refine wm ?_
    exact hRR
  refine snd_block ?_
  refine snd_loop (S := Nat) (fun i => ([(0, .cptr (algA p (n : Int) T fo)), (3, .own 905 0 i 24), (9, .int .i64 (n : Int)), (10, .int .i64 (i : Int))], [(905, .one (ZR (i)) (CO 1 (i) ((fun _ => n)) 2)), (1, .many (famF (i) ((fun _ => n)) (formT p T fo)))])) (fun i => i ≤ n) (fun i => n - i) (0) (ρP 905 1 7 912 0) ?_ ?_ ?_
  · exact emb_fam (by decide) (by decide) (by decide) (by decide) rfl (fun j hj => absurd hj (by omega)) (fun h => absurd h (by omega)) (fun h => absurd h (by omega)) (fun r hr => absurd hr (by omega)) ⟨m_calg, (by first | exact ⟨rfl, rfl, rfl, rfl⟩ | exact ⟨rfl, by omega, rfl, rfl⟩), (mi), (mi), trivial⟩
  · exact Nat.zero_le _
  intro i hi0
  refine sq (env2 := [(0, .cptr (algA p (n : Int) T fo)), (3, .own 905 0 i 24), (9, .int .i64 (n : Int)), (10, .int .i64 (i : Int))]) (ol2 := [(905, .one (ZR (i)) (CO 1 (i) ((fun _ => n)) 2)), (1, .many (famF (i) ((fun _ => n)) (formT p T fo)))]) rfl rfl ?_
  apply sr tokTB (by kernel_rfl)
  · intro RR hRR
    refine w_lss rfl rfl ?_
    exact hRR
  refine snd_seq ?_
  refine snd_cond _ rfl (fun hc11 => ?_) (fun hc11 => ?_)
  · try simp only [hcs] at hc11
    have lt_i : i < n := by omega
    refine snd_skip ?_
    refine snd_seq ?_
    refine snd_block ?_
    apply sr tokTB (by kernel_rfl)
    · intro RR hRR
      refine wm ?_
      refine wa ?_
      exact hRR
    apply sr tokTB (by kernel_rfl)
    · intro RR hRR
      refine w_bsl und24 kn2 (by rw [sz2]; rfl) rfl trivial trivial rfl ?_
      refine wa ?_
      exact hRR
    refine snd_seq ?_
    apply sr tokTB (by kernel_rfl)
    · intro RR hRR
      refine wm ?_
      refine y_call rfl (ec exn) (c_n) ?_
      refine wm ?_
      exact hRR
    refine snd_block ?_
    refine snd_loop (S := Nat) (fun j => ([(0, .cptr (algA p (n : Int) T fo)), (3, .own 905 0 i 24), (4, .int .i64 (i : Int)), (5, .own 909 0 j 2), (9, .int .i64 (n : Int)), (10, .int .i64 (i : Int)), (15, .int .i64 (n : Int)), (16, .int .i64 (j : Int))], [(905, .one (ZR (i)) (CO 1 (i) ((fun _ => n)) 2)), (1, .many (famF (i) ((fun _ => n)) (formT p T fo))), (909, .one (Z64 j) (C64 j (formT p T fo i)))])) (fun j => j ≤ n) (fun j => n - j) (0) (ρQ 905 1 905 912 i 909 13) ?_ ?_ ?_
    · exact emb_fam1 (by decide) (by decide) (by decide) (by decide) (by decide) (by decide) (by decide) (by decide) (by decide) rfl (fun j hj hne => rfl) (fun h => absurd h (by omega)) (fun h => absurd h (by omega)) (fun r hr hne => famF_at (c := i) (w := (fun _ => n)) (F := formT p T fo) (by omega)) ⟨_, rfl, ⟨rfl, fun _ => trivial⟩, fun V => mt_arr0⟩ ⟨m_calg, (by first | exact ⟨rfl, rfl, rfl, rfl⟩ | exact ⟨rfl, by omega, rfl, rfl⟩), (mi), (by first | exact ⟨rfl, rfl, rfl, rfl⟩ | exact ⟨rfl, by omega, rfl, rfl⟩), (mi), (mi), (mi), (mi), trivial⟩
    · exact Nat.zero_le _
    intro j hi2
    refine sq (env2 := [(0, .cptr (algA p (n : Int) T fo)), (3, .own 905 0 i 24), (4, .int .i64 (i : Int)), (5, .own 909 0 j 2), (9, .int .i64 (n : Int)), (10, .int .i64 (i : Int)), (15, .int .i64 (n : Int)), (16, .int .i64 (j : Int))]) (ol2 := [(905, .one (ZR (i)) (CO 1 (i) ((fun _ => n)) 2)), (1, .many (famF (i) ((fun _ => n)) (formT p T fo))), (909, .one (Z64 j) (C64 j (formT p T fo i)))]) rfl rfl ?_
    apply sr tokTB (by kernel_rfl)
    · intro RR hRR
      refine w_lss rfl rfl ?_
      exact hRR
    refine snd_seq ?_
    refine snd_cond _ rfl (fun hc17 => ?_) (fun hc17 => ?_)
    · try simp only [hcs] at hc17
      have lt_j : j < n := by omega
      refine snd_skip ?_
      refine snd_seq ?_
      refine snd_block ?_
      apply sr tokTB (by kernel_rfl)
      · intro RR hRR
        refine wm ?_
        refine wa ?_
        exact hRR
      apply lr tokTB (by kernel_rfl)
      · intro RR hRR
        refine wm ?_
        refine wm ?_
        refine wm ?_
        refine wm ?_
        refine wm ?_
        refine w_nilc rfl ?_
        refine w_fac rfl und32 rfl kn29 nz29 (by decide) rfl (by constructor) ?_
        refine w_iac rfl rfl und29 kn28 (by exact sz28.symm) ?_ rfl ?_
        · exact ⟨by omega, by omega⟩
        refine w_iac rfl rfl und28 kn27 (by exact sz27.symm) ?_ rfl ?_
        · exact ⟨by omega, by omega⟩
        refine w_ldc rfl kn27 (by constructor) (by exact sz27.symm) (by exact ag27.symm) ?_
        refine y_call rfl (ec (ec exn)) (c_form (v := T i j) (by omega) hv0.f8 (hv0.T8 i j)) ?_
        refine w_bsl1 und24 kn2 (by rw [sz2]; rfl) rfl (by constructor) (by first | exact trivial | exact cel_cap2) (by exact sz2.symm) (by first | exact trivial | exact ssh_vec | exact ⟨rfl, fun _ => trivial⟩) ?_
        refine w_app_o und24 rfl rfl kn2 rfl rfl (fun C h => ⟨rfl, rfl, rfl, h⟩) (by rw [by2]; omega) (by omega) rfl ?_
        refine wa ?_
        exact hRR
      apply lr tokTB (by kernel_rfl)
      · intro RR hRR
        refine y_add rfl rfl ?_
        refine wm ?_
        exact hRR
      refine ⟨j + 1, (ρQ 905 1 905 912 i 909 31), ?_, (by omega), (by dsimp only; omega)⟩
      exact emb_fam1 (by decide) (by decide) (by decide) (by decide) (by decide) (by decide) (by decide) (by decide) (by decide) rfl (fun j hj hne => rfl) (fun h => absurd h (by omega)) (fun h => absurd h (by omega)) (fun r hr hne => famF_at (c := i) (w := (fun _ => n)) (F := formT p T fo) (by omega)) ⟨_, rfl, ⟨rfl, fun _ => trivial⟩, fun V => mt_app (fun _ _ => rfl) rfl⟩ ⟨m_calg, (by first | exact ⟨rfl, rfl, rfl, rfl⟩ | exact ⟨rfl, by omega, rfl, rfl⟩), (mi), (by first | exact ⟨rfl, rfl, rfl, rfl⟩ | exact ⟨rfl, by omega, rfl, rfl⟩), (mi), (mi), (mi), (mi), trivial⟩
    · try simp only [hcs] at hc17
      have ge_j : n = j := by omega
      subst ge_j
      refine snd_exit ?_
      apply lr tokTB (by kernel_rfl)
      · intro RR hRR
        refine wm ?_
        refine wm ?_
        refine w_bsl1 und63 kn24 (by rw [sz24]; rfl) rfl (by constructor) (by first | exact trivial | exact cel_cap2) (by exact sz24.symm) (by first | exact trivial | exact ssh_vec | exact ⟨rfl, fun _ => trivial⟩) ?_
        refine w_app_o und63 rfl rfl kn24 rfl rfl (fun C h => ⟨rfl, rfl, rfl, h⟩) (by rw [by24]; omega) (by omega) rfl ?_
        refine wa ?_
        exact hRR
      apply lr tokTB (by kernel_rfl)
      · intro RR hRR
        refine y_add rfl rfl ?_
        refine wm ?_
        exact hRR
      refine ⟨i + 1, (ρP 905 1 36 909 i), ?_, (by omega), (by dsimp only; omega)⟩
      exact emb_fam (by decide) (by decide) (by decide) (by decide) rfl (fun j hj hne => appF_lt (by omega)) (fun h => (appF_ge (Nat.le_refl _) (by omega)).trans (by rw [Nat.sub_self]; rfl)) (fun h => ⟨_, rfl, fun V => mt_vec (fun j hj => rfl)⟩) (fun r hr hne => famF_at (c := i) (w := (fun _ => n)) (F := formT p T fo) (by omega)) ⟨m_calg, (by first | exact ⟨rfl, rfl, rfl, rfl⟩ | exact ⟨rfl, by omega, rfl, rfl⟩), (mi), (mi), trivial⟩
  · try simp only [hcs] at hc11
    have ge_i : n = i := by omega
    subst ge_i
    refine snd_exit ?_
    apply sr tokTB (by kernel_rfl)
    · intro RR hRR
      refine wm ?_
      refine wa ?_
      exact hRR
    refine snd_ret ?_
    show retQ TB _ _ _ _ _ _
    exact rt_fam (T := TB) (a := 905) rfl (by decide) rfl rfl (fun r hr => famF_at (c := n) (w := fun _ => n) (F := formT p T fo) hr)
theorem c_frobenius {p : Int} {n : Nat} {T : Nat → Nat → Nat → Int} {fo : Nat → Int} (hv0 : VN p n T fo) : ACalls Tryz.prog TB 34 [.cptr (algA p (n : Int) T fo)] (.bool (decide (rankT p n T fo = n))) [] := by
  have hp8 := hv0.p0
  have hn6 := hv0.n6
  have hn0 := hv0.n0
  refine acalls_of tokTB Tryz.func34 rfl rfl (Nat.le_of_ble_eq_true rfl) ?_
  apply sr tokTB (by kernel_rfl)
  · intro RR hRR
    refine wa ?_
    exact hRR
  apply sd tokTB mixed (by kernel_rfl) (by kernel_rfl)
  · intro RR hRR
    refine wm ?_
    refine w_call rfl (ec exn) (c_table hv0) (.inl ⟨trivial, ⟨fun _ => trivial, fun i sh c h => (by obtain ⟨_, _, rfl⟩ := famF_some h; exact fun _ => trivial), trivial⟩⟩) rfl (by constructor) rfl ?_
    refine wm ?_
    refine w_nilc rfl ?_
    refine w_fac rfl und32 rfl kn2 nz2 (by decide) rfl (by constructor) ?_
    refine w_ldc rfl kn2 (by constructor) (by exact sz2.symm) (by exact ag2.symm) ?_
    refine w_call rfl rfl ((rows_len (c_reduce (n := n) (m := n) (R := formT p T fo) hv0.hp (by omega) (by omega) (fun i => B8_of (by omega) (formT_Bp (by omega) i)))).mt ⟨mt_fam0 rfl (fun r hr => by show (match famF n (fun _ => n) (formT p T fo) r with | some (sh, c) => some (sh, Am.shift 5000 c) | none => none) = _; rw [famF_at hr]; rfl) (fun _ _ => rfl) (fun _ _ _ _ => rfl), rfl, trivial⟩) (.inl ⟨trivial, ⟨fun _ => trivial, trivial⟩⟩) rfl (by constructor) rfl ?_
    refine w_len_o rfl rfl und63 ?_
    refine wm ?_
    refine y_call rfl (ec exn) (c_n) ?_
    refine w_eql rfl rfl ?_
    refine wa ?_
    exact hRR
  refine snd_ret ?_
  exact rt (T := TB) (fun V => m_bool (decide_eq_decide.2 (by unfold rankT; omega)))
end Go.Am

set_option maxRecDepth 4000
namespace Go.Am
attribute [local irreducible] retQ retQp
open Go.Proofs
theorem c_asked_ok {p : Int} {n : Nat} {T : Nat → Nat → Nat → Int} {fo : Nat → Int} (hv0 : VN p n T fo) {g : Nat} {b : Bool} (hg : ACalls Tryz.prog TB g [.cptr (algA p (n : Int) T fo)] (.bool b) []) : ACalls Tryz.prog TB 33 [algA p (n : Int) T fo, .fn g 0 (fun _ => .any)] (.tup 2 (pairA (.bool b) (.int .i64 0))) [] := by
  refine acalls_of tokTB Tryz.func33 rfl rfl (Nat.le_of_ble_eq_true rfl) ?_
  apply sr tokTB (by kernel_rfl)
  · intro RR hRR
    refine w_boxc (HV.eq (by constructor)) (by exact trivial) ?_
    refine wa ?_
    refine wa ?_
    exact hRR
  refine snd_seq ?_
  apply sr tokTB (by kernel_rfl)
  · intro RR hRR
    refine w_ldc rfl kn32 (by constructor) (by exact sz32.symm) (by exact ag32.symm) ?_
    refine y_call rfl (ec exn) (c_IsAlgebra hv0.rb hv0.rv) ?_
    refine w_not rfl ?_
    exact hRR
  refine snd_cond_false (by exact not_t hv0.va) ?_
  refine snd_skip ?_
  apply sr tokTB (by kernel_rfl)
  · intro RR hRR
    refine wm ?_
    refine y_call rfl (ec exn) (hg) ?_
    refine wa ?_
    refine wa ?_
    exact hRR
  refine snd_ret ?_
  exact rt_tt (T := TB) (fun V => rfl) (fun V => rfl)
theorem c_iIsFrobenius_ok {p : Int} {n : Nat} {T : Nat → Nat → Nat → Int} {fo : Nat → Int} (hv0 : VN p n T fo) : ACalls Tryz.prog TB 11 [algA p (n : Int) T fo] (.tup 2 (pairA (.bool (decide (rankT p n T fo = n))) (.int .i64 0))) [] := by
  refine acalls_of tokTB Tryz.func11 rfl rfl (Nat.le_of_ble_eq_true rfl) ?_
  apply sr tokTB (by kernel_rfl)
  · intro RR hRR
    refine w_boxc (HV.eq (by constructor)) (by exact trivial) ?_
    refine wa ?_
    refine wa ?_
    exact hRR
  apply sr tokTB (by kernel_rfl)
  · intro RR hRR
    refine w_ldc rfl kn32 (by constructor) (by exact sz32.symm) (by exact ag32.symm) ?_
    refine w_call0 rfl (ec (ec exn)) (c_asked_ok hv0 (b := (decide (rankT p n T fo = n))) (c_frobenius hv0)) (by exact nr_pair trivial trivial) (fun _ => by exact shift_pair rfl rfl) ?_
    refine we ?_
    refine we ?_
    refine wa ?_
    refine wa ?_
    exact hRR
  refine snd_ret ?_
  exact rt_tt (T := TB) (fun V => rfl) (fun V => rfl)
end Go.Am

set_option maxRecDepth 4000
namespace Go.Am
attribute [local irreducible] retQ retQp
open Go.Proofs
theorem c_add {p n k : Int} {T : Nat → Nat → Nat → Int} {fo u v : Nat → Int} (hp : 2 ≤ p ∧ p ≤ 13) (hu : B8 u) (hv : B8 v) (hk : 0 ≤ k ∧ k ≤ 1000000000000) : ACalls Tryz.prog TB 103 [.cptr (algA p n T fo), vecA u, vecA v, .int .i64 k] (vecA (addF p u v k)) [] := by
  refine acalls_of tokTB Tryz.func103 rfl rfl (Nat.le_of_ble_eq_true rfl) ?_
  apply sr tokTB (by kernel_rfl)
  · intro RR hRR
    refine w_boxp (HV.eq (by constructor)) (by exact trivial) rfl (sx) ?_
    refine w_boxc (HV.eq (by constructor)) (by exact trivial) ?_
    refine w_alloc kn30 rfl zr30 ?_
    exact hRR
  refine snd_seq ?_
  apply sr tokTB (by kernel_rfl)
  · intro RR hRR
    refine wm ?_
    exact hRR
  refine snd_block ?_
  refine snd_loop (S := Nat) (fun i => ([(0, .cptr (algA p n T fo)), (3, .int .i64 k), (5, .ptr 5 0 [] 0 (vecA u)), (6, .cptr (vecA v)), (8, .ptr 8 0 [] 0 (vecA (fun _ => 0))), (10, .int .i64 (i : Int))], [(5, .one (vecA u) (vecA (mixF (addF p u v k) u i))), (8, .one (vecA (fun _ => 0)) (vecA (fun _ => 0)))])) (fun i => i ≤ 6) (fun i => 6 - i) (0) ρ0 ?_ ?_ ?_
  · exact ⟨⟨m_calg, (mi), ⟨rfl, rfl, rfl, rfl, rfl⟩, (m_cvec (fun _ _ => rfl)), ⟨rfl, rfl, rfl, rfl, rfl⟩, (mi), trivial⟩, ⟨⟨rfl, (sx), (by exact mt_vec (fun z _ => by simp [mixF]))⟩, ⟨rfl, (sx), (by first | exact mt_vec (fun _ _ => rfl) | exact mt_mat (fun _ _ _ _ => rfl) | exact mt_tab (fun _ _ _ _ _ _ => rfl) | exact mt_arr0 | exact mt_app (fun _ _ => rfl) rfl | exact ⟨rfl, fun _ _ => mt_row (fun _ _ => rfl)⟩ | exact Mt_closed (V := _) closed_alg (fun _ _ _ => trivial) (by simp))⟩, trivial⟩, ⟨⟨(fun h => by first | exact ⟨rfl, rfl⟩ | exact absurd h (by decide)), (fun h => by first | exact ⟨rfl, rfl⟩ | exact absurd h (by decide)), trivial⟩, ⟨(fun h => by first | exact ⟨rfl, rfl⟩ | exact absurd h (by decide)), (fun h => by first | exact ⟨rfl, rfl⟩ | exact absurd h (by decide)), trivial⟩, trivial⟩⟩
  · exact Nat.zero_le _
  intro i hi0
  refine sq (env2 := [(0, .cptr (algA p n T fo)), (3, .int .i64 k), (5, .ptr 5 0 [] 0 (vecA u)), (6, .cptr (vecA v)), (8, .ptr 8 0 [] 0 (vecA (fun _ => 0))), (10, .int .i64 (i : Int))]) (ol2 := [(5, .one (vecA u) (vecA (mixF (addF p u v k) u i))), (8, .one (vecA (fun _ => 0)) (vecA (fun _ => 0)))]) rfl rfl ?_
  have hkv := kv_bd hv (k := k) (by omega) i
  have hui := hu i
  apply sr tokTB (by kernel_rfl)
  · intro RR hRR
    refine w_lss rfl rfl ?_
    exact hRR
  refine snd_seq ?_
  refine snd_cond _ rfl (fun hc11 => ?_) (fun hc11 => ?_)
  · try simp only [hcs] at hc11
    have lt_i : i < 6 := by omega
    refine snd_skip ?_
    refine snd_seq ?_
    refine snd_block ?_
    apply sr tokTB (by kernel_rfl)
    · intro RR hRR
      refine wm ?_
      refine wa ?_
      exact hRR
    apply ld tokTB mixed (by kernel_rfl) (by kernel_rfl)
    · intro RR hRR
      refine wm ?_
      refine wm ?_
      refine w_iap rfl rfl und30 kn5 rfl (by exact sz5.symm) rfl ?_ ?_
      · exact ⟨by omega, by omega⟩
      first | refine w_ldc rfl kn5 (by constructor) (by exact sz5.symm) (by exact ag5.symm) ?_ | refine w_ldp rfl kn5 rfl (by constructor) (by exact sz5.symm) (by exact ag5.symm) ?_
      refine w_conv rfl und5 und2 (by exact w_mixc hu i) ?_
      refine wm ?_
      refine wm ?_
      refine w_iac rfl rfl und30 kn5 (by exact sz5.symm) ?_ rfl ?_
      · exact ⟨by omega, by omega⟩
      first | refine w_ldc rfl kn5 (by constructor) (by exact sz5.symm) (by exact ag5.symm) ?_ | refine w_ldp rfl kn5 rfl (by constructor) (by exact sz5.symm) (by exact ag5.symm) ?_
      refine w_conv rfl und5 und2 (by exact w64b hv _) ?_
      refine w_mul rfl rfl (by exact w64 (n := k * v i) (by omega) (by omega)) ?_
      refine w_add rfl rfl (by exact w64 (n := u i + k * v i) (by omega) (by omega)) ?_
      refine wm ?_
      refine w_nilc rfl ?_
      refine w_fac rfl und32 rfl kn2 nz2 (by decide) rfl (by constructor) ?_
      refine w_ldc rfl kn2 (by constructor) (by exact sz2.symm) (by exact ag2.symm) ?_
      refine w_rem rfl rfl (by first | assumption | omega) ?_
      refine w_conv rfl und2 und5 (by exact (congrArg IntKind.u8.wrap (add_tmod hu hv hk.1 i)).trans (w_addF hp u v k i)) ?_
      refine w_iap rfl rfl und30 kn5 rfl (by exact sz5.symm) rfl ?_ ?_
      · exact ⟨by omega, by omega⟩
      first | refine w_stw rfl (by constructor) kn5 rfl (by exact trivial) (sx) (by exact sz5.symm) ?_ | refine w_sti rfl rfl kn5 rfl (by exact trivial) (by exact sz5.symm) ?_ | refine w_store rfl (HV.eq (by constructor)) kn5 rfl (by exact trivial) (sx) (by exact sz5.symm) (pin_) ?_ | refine w_store rfl (HV.eq (by constructor)) kn5 rfl (by exact trivial) (by exact trivial) (by exact sz5.symm) rfl ?_
      exact hRR
    apply lr tokTB (by kernel_rfl)
    · intro RR hRR
      refine y_add rfl rfl ?_
      refine wm ?_
      exact hRR
    refine ⟨i + 1, ρ0, ?_, (by omega), (by dsimp only; omega)⟩
    exact ⟨⟨m_calg, (mi), ⟨rfl, rfl, rfl, rfl, rfl⟩, (m_cvec (fun _ _ => rfl)), ⟨rfl, rfl, rfl, rfl, rfl⟩, (mi), trivial⟩, ⟨⟨rfl, (sx), (by exact mt_vec (fun z _ => upd_mix _ _ i z))⟩, ⟨rfl, (sx), (by first | exact mt_vec (fun _ _ => rfl) | exact mt_mat (fun _ _ _ _ => rfl) | exact mt_tab (fun _ _ _ _ _ _ => rfl) | exact mt_arr0 | exact mt_app (fun _ _ => rfl) rfl | exact ⟨rfl, fun _ _ => mt_row (fun _ _ => rfl)⟩ | exact Mt_closed (V := _) closed_alg (fun _ _ _ => trivial) (by simp))⟩, trivial⟩, ⟨⟨(fun h => by first | exact ⟨rfl, rfl⟩ | exact absurd h (by decide)), (fun h => by first | exact ⟨rfl, rfl⟩ | exact absurd h (by decide)), trivial⟩, ⟨(fun h => by first | exact ⟨rfl, rfl⟩ | exact absurd h (by decide)), (fun h => by first | exact ⟨rfl, rfl⟩ | exact absurd h (by decide)), trivial⟩, trivial⟩⟩
  · try simp only [hcs] at hc11
    have ge_i : 6 = i := by omega
    subst ge_i
    refine snd_exit ?_
    apply sr tokTB (by kernel_rfl)
    · intro RR hRR
      refine w_ldp rfl kn30 rfl (by constructor) (by exact sz30.symm) (by exact ag30.symm) ?_
      refine w_stw rfl (by constructor) kn30 rfl (by exact trivial) (sx) (by exact sz30.symm) ?_
      exact hRR
    refine snd_ret ?_
    exact rt_c (T := TB) rfl kn30 rfl sz30.symm ag30.symm (fun V => m_vec (fun j hj => by simp [mixF, hj]))
end Go.Am

set_option maxRecDepth 4000
namespace Go.Am
attribute [local irreducible] retQ retQp
open Go.Proofs
theorem c_unitNumber {i j : Nat} : ACalls Tryz.prog TB 104 [.int .i64 (i : Int), .int .i64 (j : Int)] (.int .i64 (dl i j)) [] := by
  refine acalls_of tokTB Tryz.func104 rfl rfl (Nat.le_of_ble_eq_true rfl) ?_
  apply sr tokTB (by kernel_rfl)
  · intro RR hRR
    refine wa ?_
    exact hRR
  refine snd_seq ?_
  apply sr tokTB (by kernel_rfl)
  · intro RR hRR
    refine wm ?_
    refine wm ?_
    refine w_eql rfl rfl ?_
    exact hRR
  refine snd_cond _ rfl (fun hc7 => ?_) (fun hc7 => ?_)
  · try simp only [hcs] at hc7
    apply sr tokTB (by kernel_rfl)
    · intro RR hRR
      refine wa ?_
      exact hRR
    refine snd_ret ?_
    exact rt (T := TB) (fun V => m_int (by unfold dl; rw [if_pos (by omega)]))
  · try simp only [hcs] at hc7
    refine snd_skip ?_
    apply sr tokTB (by kernel_rfl)
    · intro RR hRR
      refine wa ?_
      exact hRR
    refine snd_ret ?_
    exact rt (T := TB) (fun V => m_int (by unfold dl; rw [if_neg (by omega)]))
theorem c_copairing {p : Int} {n : Nat} {T : Nat → Nat → Nat → Int} {fo : Nat → Int} (hv0 : VN p n T fo) (hr : rankT p n T fo = n) : ACalls Tryz.prog TB 102 [.cptr (algA p (n : Int) T fo)] (rowsA n n (cpM p n (formT p T fo))) [] := by
  have hp8 := hv0.p0
  have hn6 := hv0.n6
  have hn0 := hv0.n0
  have hFB : ∀ i, Bp p ((formT p T fo) i) := fun i => formT_Bp (by omega) i
  obtain ⟨hno, hO⟩ := au_red hv0.hp hFB hr
  refine acalls_of tokTB Tryz.func102 rfl rfl (Nat.le_of_ble_eq_true rfl) ?_
  apply sr tokTB (by kernel_rfl)
  · intro RR hRR
    refine wa ?_
    exact hRR
  apply sr tokTB (by kernel_rfl)
  · intro RR hRR
    refine wm ?_
    refine w_call rfl (ec exn) (c_table hv0) (.inl ⟨trivial, ⟨fun _ => trivial, fun i sh c h => (by obtain ⟨_, _, rfl⟩ := famF_some h; exact fun _ => trivial), trivial⟩⟩) rfl (by constructor) rfl ?_
    refine wa ?_
    exact hRR
  refine snd_seq ?_
  apply sr tokTB (by kernel_rfl)
  · intro RR hRR
    refine wm ?_
    refine w_len_o rfl rfl und63 ?_
    refine wm ?_
    exact hRR
  refine snd_block ?_
  refine snd_loop (S := Nat) (fun i => ([(0, .cptr (algA p (n : Int) T fo)), (3, .own 905 0 n 24), (12, .int .i64 (n : Int)), (13, .int .i64 (i : Int))], [(905, .one (ZR n) (CO 11001 n (fun r => if r < i then n + n else n) 2)), (11001, .many (famF n (fun r => if r < i then n + n else n) (mixG (auS n (formT p T fo)) (formT p T fo) i)))])) (fun i => i ≤ n) (fun i => n - i) (0) (ρ2x 905 11000) ?_ ?_ ?_
  · exact emb_famR (ρ := ρ2x 905 11000) (ko' := 11000) (kf' := 11001) (fun _ => rfl) (fun _ => rfl) (by decide) (by decide) rfl (fun j hj => by show AV.own (11000 + 1) j n _ = _; simp) (fun r hr => ⟨C64 n (formT p T fo r), (fam_sh (w := fun _ => n) (F := formT p T fo) (e := 2) (b := 11000) (ol := []) hr).trans (by simp), fun V => mt_vec (fun z _ => by simp [mixG])⟩) ⟨m_calg, (by first | exact ⟨rfl, rfl, rfl, rfl⟩ | exact ⟨rfl, by omega, rfl, rfl⟩), (mi), (mi), trivial⟩
  · exact Nat.zero_le _
  intro i hi0
  refine sq (env2 := [(0, .cptr (algA p (n : Int) T fo)), (3, .own 905 0 n 24), (12, .int .i64 (n : Int)), (13, .int .i64 (i : Int))]) (ol2 := [(905, .one (ZR n) (CO 11001 n (fun r => if r < i then n + n else n) 2)), (11001, .many (famF n (fun r => if r < i then n + n else n) (mixG (auS n (formT p T fo)) (formT p T fo) i)))]) rfl rfl ?_
  apply sr tokTB (by kernel_rfl)
  · intro RR hRR
    refine w_lss rfl rfl ?_
    exact hRR
  refine snd_seq ?_
  refine snd_cond _ rfl (fun hc14 => ?_) (fun hc14 => ?_)
  · try simp only [hcs] at hc14
    have lt_i : i < n := by omega
    refine snd_skip ?_
    refine snd_seq ?_
    refine snd_block ?_
    apply sr tokTB (by kernel_rfl)
    · intro RR hRR
      refine wm ?_
      refine wa ?_
      exact hRR
    apply sr tokTB (by kernel_rfl)
    · intro RR hRR
      refine wm ?_
      refine w_len_o rfl rfl und63 ?_
      refine wm ?_
      exact hRR
    refine snd_block ?_
    refine snd_loop (S := Nat) (fun j => ([(0, .cptr (algA p (n : Int) T fo)), (3, .own 905 0 n 24), (4, .int .i64 (i : Int)), (12, .int .i64 (n : Int)), (13, .int .i64 (i : Int)), (17, .int .i64 (n : Int)), (18, .int .i64 (j : Int))], [(905, .one (ZR n) (CO 11001 n (fun r => if r < i then n + n else if r = i then n + j else n) 2)), (11001, .many (famF n (fun r => if r < i then n + n else if r = i then n + j else n) (mixG (auS n (formT p T fo)) (formT p T fo) (i + 1))))])) (fun j => j ≤ n) (fun j => n - j) (0) ρ0 ?_ ?_ ?_
    · exact emb_famR (ρ := ρ0) (fun _ => rfl) (fun _ => rfl) (by decide) (by decide) rfl (fun r hr => by show AV.own 11001 r (if r < i then n + n else n) _ = _; rw [w02]) (fun r hr => ⟨_, by show famF n (fun r => if r < i then n + n else n) _ r = _; rw [famF_at hr, w02], fun V => mt_vec (fun z hz => f02 (by rw [w02]; exact hz))⟩) ⟨m_calg, (by first | exact ⟨rfl, rfl, rfl, rfl⟩ | exact ⟨rfl, by omega, rfl, rfl⟩), (mi), (mi), (mi), (mi), (mi), trivial⟩
    · exact Nat.zero_le _
    intro j hi2
    refine sq (env2 := [(0, .cptr (algA p (n : Int) T fo)), (3, .own 905 0 n 24), (4, .int .i64 (i : Int)), (12, .int .i64 (n : Int)), (13, .int .i64 (i : Int)), (17, .int .i64 (n : Int)), (18, .int .i64 (j : Int))]) (ol2 := [(905, .one (ZR n) (CO 11001 n (fun r => if r < i then n + n else if r = i then n + j else n) 2)), (11001, .many (famF n (fun r => if r < i then n + n else if r = i then n + j else n) (mixG (auS n (formT p T fo)) (formT p T fo) (i + 1))))]) rfl rfl ?_
    apply sr tokTB (by kernel_rfl)
    · intro RR hRR
      refine w_lss rfl rfl ?_
      exact hRR
    refine snd_seq ?_
    refine snd_cond _ rfl (fun hc19 => ?_) (fun hc19 => ?_)
    · try simp only [hcs] at hc19
      have lt_j : j < n := by omega
      refine snd_skip ?_
      refine snd_seq ?_
      refine snd_block ?_
      apply sr tokTB (by kernel_rfl)
      · intro RR hRR
        refine wm ?_
        refine wa ?_
        exact hRR
      apply ld tokTB mixed (by kernel_rfl) (by kernel_rfl)
      · intro RR hRR
        refine wm ?_
        refine wm ?_
        refine wm ?_
        refine wm ?_
        refine w_iao rfl rfl und63 kn24 ?_ ?_
        · exact ⟨by omega, by omega⟩
        first | refine w_ldc rfl kn24 (by constructor) (by exact sz24.symm) (by exact ag24.symm) ?_ | refine w_ldp rfl kn24 rfl (by constructor) (by exact sz24.symm) (by exact ag24.symm) ?_
        refine wm ?_
        refine wm ?_
        refine y_call rfl (ec (ec exn)) (c_unitNumber (i := i) (j := j)) ?_
        refine w_bsl1 und24 kn2 (by rw [sz2]; rfl) rfl (by constructor) (by first | exact trivial | exact cel_cap2) (by exact sz2.symm) (by first | exact trivial | exact ssh_vec | exact ⟨rfl, fun _ => trivial⟩) ?_
        refine w_app_o (k := 11001) (i := i) (n := n + j) (m := 1) (f := fun z => .int .i64 ((mixG (auS n (formT p T fo)) (formT p T fo) (i + 1)) i z)) und24 (by show AV.own 11001 i (if i < i then n + n else if i = i then n + j else n) _ = _; rw [w2j]) rfl kn2 rfl (by show famF n (fun r => if r < i then n + n else if r = i then n + j else n) (mixG (auS n (formT p T fo)) (formT p T fo) (i + 1)) i = _; rw [famF_at (by omega), w2j]; rfl) (fun C h => ⟨rfl, rfl, rfl, h⟩) (by rw [by2]; omega) (by omega) rfl ?_
        refine w_iao rfl rfl und63 kn24 ?_ ?_
        · exact ⟨by omega, by omega⟩
        first | refine w_stw rfl (by constructor) kn24 rfl (by exact trivial) (sx) (by exact sz24.symm) ?_ | refine w_sti rfl rfl kn24 rfl (by exact trivial) (by exact sz24.symm) ?_ | refine w_store rfl (HV.eq (by constructor)) kn24 rfl (by exact trivial) (sx) (by exact sz24.symm) (pin_) ?_ | refine w_store rfl (HV.eq (by constructor)) kn24 rfl (by exact trivial) (by exact trivial) (by exact sz24.symm) rfl ?_
        exact hRR
      apply lr tokTB (by kernel_rfl)
      · intro RR hRR
        refine y_add rfl rfl ?_
        refine wm ?_
        exact hRR
      refine ⟨j + 1, (ρP 905 11001 905 31 i), ?_, (by omega), (by dsimp only; omega)⟩
      exact emb_fam (by decide) (by decide) (by decide) (by decide) rfl (fun r hr hne => by show (bif Nat.beq r i then _ else AV.own 11001 r (if r < i then n + n else if r = i then n + j else n) _) = _; rw [beq_ff hne]; simp only [cond_false]; rw [w2s hne]) (fun h => by show (bif Nat.beq i i then _ else _) = _; rw [Nat.beq_refl]; simp [put]; omega) (fun h => by refine ⟨_, (by show _ = some (Z64 (if i < i then n + n else if i = i then n + (j + 1) else n), _); rw [w2i]; exact rfl), fun V => ?_⟩; show Mt V (C64 (if i < i then n + n else if i = i then n + (j + 1) else n) _) _; rw [w2i]; exact mt_app (fun z hz => rfl) (congrArg (AV.int .i64) (by rw [mixG_lt _ _ (Nat.lt_succ_self i)]; exact auS_at))) (fun r hr hne => by show (bif Nat.beq r i then none else famF n (fun r => if r < i then n + n else if r = i then n + j else n) _ r) = _; rw [beq_ff hne]; simp only [cond_false]; rw [famF_at hr, w2s hne]) ⟨m_calg, (by first | exact ⟨rfl, rfl, rfl, rfl⟩ | exact ⟨rfl, by omega, rfl, rfl⟩), (mi), (mi), (mi), (mi), (mi), trivial⟩
    · try simp only [hcs] at hc19
      have ge_j : n = j := by omega
      subst ge_j
      refine snd_exit ?_
      apply lr tokTB (by kernel_rfl)
      · intro RR hRR
        refine y_add rfl rfl ?_
        refine wm ?_
        exact hRR
      refine ⟨i + 1, ρ0, ?_, (by omega), (by dsimp only; omega)⟩
      exact emb_famR (ρ := ρ0) (fun _ => rfl) (fun _ => rfl) (by decide) (by decide) rfl (fun r hr => by show AV.own 11001 r (if r < i then n + n else if r = i then n + n else n) _ = _; rw [w20]) (fun r hr => ⟨_, by show famF n (fun r => if r < i then n + n else if r = i then n + n else n) _ r = _; rw [famF_at hr, w20], fun V => mt_vec (fun z hz => rfl)⟩) ⟨m_calg, (by first | exact ⟨rfl, rfl, rfl, rfl⟩ | exact ⟨rfl, by omega, rfl, rfl⟩), (mi), (mi), trivial⟩
  · try simp only [hcs] at hc14
    have ge_i : n = i := by omega
    subst ge_i
    refine snd_exit ?_
    refine snd_emb (ρ := ρ0) (env2 := [(0, .cptr (algA p (n : Int) T fo)), (3, rowsA n (n + n) (auS n (formT p T fo)))]) (ol2 := []) ?_ ?_
    · exact ⟨⟨m_calg, mt_fam_fz (w := fun r => if r < n then n + n else n) (F := mixG (auS n (formT p T fo)) (formT p T fo) n) trivial (fun _ => trivial) rfl (fun r hr => famF_at (w := fun r => if r < n then n + n else n) (F := mixG (auS n (formT p T fo)) (formT p T fo) n) hr) (fun r hr => if_pos hr) (fun r hr z hz => by rw [mixG_lt _ _ hr]), trivial⟩, trivial, trivial⟩
    apply sr tokTB (by kernel_rfl)
    · intro RR hRR
      refine w_bsl und63 kn24 (by rw [sz24]; rfl) rfl trivial trivial rfl ?_
      refine wa ?_
      exact hRR
    refine snd_seq ?_
    apply sr tokTB (by kernel_rfl)
    · intro RR hRR
      refine wm ?_
      refine wm ?_
      refine w_nilc rfl ?_
      refine w_fac rfl und32 rfl kn2 nz2 (by decide) rfl (by constructor) ?_
      refine w_ldc rfl kn2 (by constructor) (by exact sz2.symm) (by exact ag2.symm) ?_
      refine w_call rfl (ec (ec exn)) (c_reduce (n := n) (m := n + n) (R := (auS n (formT p T fo))) hv0.hp (by omega) (by omega) (fun i => B8_of (by omega) (auS_Bp (by omega) hFB i))) (.inr ⟨closed_rows, trivial, trivial⟩) rfl (by constructor) rfl ?_
      refine w_len_o rfl rfl und63 ?_
      refine wm ?_
      exact hRR
    refine snd_block ?_
    refine snd_loop (S := Nat) (fun k => ([(0, .cptr (algA p (n : Int) T fo)), (6, .own 906 0 k 24), (41, .own 42000 0 (redGo p n (auS n (formT p T fo)) (n + n)).no 24), (42, .int .i64 ((redGo p n (auS n (formT p T fo)) (n + n)).no : Int)), (43, .int .i64 (k : Int))], [(906, .one (ZR k) (.arr k (fun r => .ro n (fun z => .int .i64 ((redGo p n (auS n (formT p T fo)) (n + n)).O r (n + z)))))), (42000, .one (ZR (redGo p n (auS n (formT p T fo)) (n + n)).no) (CR (redGo p n (auS n (formT p T fo)) (n + n)).no (n + n) (redGo p n (auS n (formT p T fo)) (n + n)).O))])) (fun k => k ≤ (redGo p n (auS n (formT p T fo)) (n + n)).no) (fun k => (redGo p n (auS n (formT p T fo)) (n + n)).no - k) (0) (fun k i => bif Nat.beq k 906 then (35, i) else (k, i)) ?_ ?_ ?_
    · exact ⟨⟨m_calg, (by first | exact ⟨rfl, rfl, rfl, rfl⟩ | exact ⟨rfl, by omega, rfl, rfl⟩), (by first | exact ⟨rfl, rfl, rfl, rfl⟩ | exact ⟨rfl, by omega, rfl, rfl⟩), (mi), (mi), trivial⟩, ⟨⟨rfl, (sx), (by exact ⟨rfl, fun r h => absurd h (by omega)⟩)⟩, ⟨rfl, (sx), (by exact ⟨rfl, fun _ _ => mt_row (fun _ _ => rfl)⟩)⟩, trivial⟩, ⟨⟨(fun h => by first | exact ⟨rfl, rfl⟩ | exact absurd h (by decide)), (fun h => by first | exact ⟨rfl, rfl⟩ | exact absurd h (by decide)), trivial⟩, ⟨(fun h => by first | exact ⟨rfl, rfl⟩ | exact absurd h (by decide)), (fun h => by first | exact ⟨rfl, rfl⟩ | exact absurd h (by decide)), trivial⟩, trivial⟩⟩
    · exact Nat.zero_le _
    intro k hi4
    refine sq (env2 := [(0, .cptr (algA p (n : Int) T fo)), (6, .own 906 0 k 24), (41, .own 42000 0 (redGo p n (auS n (formT p T fo)) (n + n)).no 24), (42, .int .i64 ((redGo p n (auS n (formT p T fo)) (n + n)).no : Int)), (43, .int .i64 (k : Int))]) (ol2 := [(906, .one (ZR k) (.arr k (fun r => .ro n (fun z => .int .i64 ((redGo p n (auS n (formT p T fo)) (n + n)).O r (n + z)))))), (42000, .one (ZR (redGo p n (auS n (formT p T fo)) (n + n)).no) (CR (redGo p n (auS n (formT p T fo)) (n + n)).no (n + n) (redGo p n (auS n (formT p T fo)) (n + n)).O))]) rfl rfl ?_
    apply sr tokTB (by kernel_rfl)
    · intro RR hRR
      refine w_lss rfl rfl ?_
      exact hRR
    refine snd_seq ?_
    refine snd_cond _ rfl (fun hc44 => ?_) (fun hc44 => ?_)
    · try simp only [hcs] at hc44
      have lt_k : k < (redGo p n (auS n (formT p T fo)) (n + n)).no := by omega
      refine snd_skip ?_
      refine snd_seq ?_
      refine snd_block ?_
      apply sr tokTB (by kernel_rfl)
      · intro RR hRR
        refine w_iao rfl rfl und63 kn24 ?_ ?_
        · exact ⟨by omega, by omega⟩
        first | refine w_ldc rfl kn24 (by constructor) (by exact sz24.symm) (by exact ag24.symm) ?_ | refine w_ldp rfl kn24 rfl (by constructor) (by exact sz24.symm) (by exact ag24.symm) ?_
        refine wa ?_
        exact hRR
      apply lr tokTB (by kernel_rfl)
      · intro RR hRR
        refine wm ?_
        refine wm ?_
        refine wm ?_
        refine y_call rfl (ec exn) (c_n) ?_
        refine w_sl_rl rfl rfl und24 kn2 (by exact sz2.symm) rfl (by omega) ?_
        refine w_bsl1 und63 kn24 (by rw [sz24]; rfl) rfl (by constructor) (by first | exact trivial | exact cel_cap2) (by exact sz24.symm) (by first | exact trivial | exact ssh_vec | exact ⟨rfl, fun _ => trivial⟩) ?_
        refine w_app_o und63 rfl rfl kn24 rfl rfl (fun C h => ⟨rfl, rfl, rfl, h⟩) (by rw [by24]; omega) (by omega) rfl ?_
        refine wa ?_
        exact hRR
      apply lr tokTB (by kernel_rfl)
      · intro RR hRR
        refine y_add rfl rfl ?_
        refine wm ?_
        exact hRR
      refine ⟨k + 1, (fun k i => bif Nat.beq k 906 then (53, i) else (k, i)), ?_, (by omega), (by dsimp only; omega)⟩
      exact ⟨⟨m_calg, (by first | exact ⟨rfl, rfl, rfl, rfl⟩ | exact ⟨rfl, by omega, rfl, rfl⟩), (by first | exact ⟨rfl, rfl, rfl, rfl⟩ | exact ⟨rfl, by omega, rfl, rfl⟩), (mi), (mi), trivial⟩, ⟨⟨rfl, (sx), (by exact mt_app (fun r hr => ⟨rfl, fun _ _ => rfl⟩) ⟨by omega, fun z hz => rfl⟩)⟩, ⟨rfl, (sx), (by exact ⟨rfl, fun _ _ => mt_row (fun _ _ => rfl)⟩)⟩, trivial⟩, ⟨⟨(fun h => by first | exact ⟨rfl, rfl⟩ | exact absurd h (by decide)), (fun h => by first | exact ⟨rfl, rfl⟩ | exact absurd h (by decide)), trivial⟩, ⟨(fun h => by first | exact ⟨rfl, rfl⟩ | exact absurd h (by decide)), (fun h => by first | exact ⟨rfl, rfl⟩ | exact absurd h (by decide)), trivial⟩, trivial⟩⟩
    · try simp only [hcs] at hc44
      have ge_k : (redGo p n (auS n (formT p T fo)) (n + n)).no = k := by omega
      subst ge_k
      refine snd_exit ?_
      refine snd_emb (ρ := ρ0) (env2 := [(6, rowsA n n (cpM p n (formT p T fo)))]) (ol2 := []) ?_ ?_
      · exact ⟨⟨⟨hno, trivial, hno, fun r hr => ⟨rfl, fun z hz => congrArg (AV.int .i64) (by rw [hO r hr (n + z) (by omega)]; unfold auO; rw [if_neg (by omega), Nat.add_sub_cancel_left])⟩⟩, trivial⟩, trivial, trivial⟩
      apply sr tokTB (by kernel_rfl)
      · intro RR hRR
        refine wm ?_
        refine wa ?_
        exact hRR
      refine snd_ret ?_
      exact rt (T := TB) (fun V => mt_rows (fun _ _ _ _ => rfl))
end Go.Am

set_option maxRecDepth 4000
namespace Go.Am
attribute [local irreducible] retQ retQp
open Go.Proofs
theorem c_paired {p : Int} {n : Nat} {T : Nat → Nat → Nat → Int} {fo : Nat → Int} (hv0 : VN p n T fo) (hr : rankT p n T fo = n) {G : Nat → Nat → Nat → Int} {g nc : Nat} {caps : Nat → AV} (hcaps : (AV.fn g nc caps).closed) (hG : ∀ i j, B8 (G i j)) (hg : ∀ i j, i < n → j < n → ACalls Tryz.prog TB g (.int .i64 (i : Int) :: .int .i64 (j : Int) :: capL nc caps) (vecA (G i j)) []) : ACalls Tryz.prog TB 95 [.cptr (algA p (n : Int) T fo), .fn g nc caps] (vecA (pr1 p n G (cpM p n (formT p T fo)) (n))) [] := by
  have hp8 := hv0.p0
  have hn6 := hv0.n6
  have hn0 := hv0.n0
  have hCB : ∀ r, Bp p ((cpM p n (formT p T fo)) r) := fun r => cpM_Bp hv0.hp (fun i => formT_Bp (by omega) i) hr r
  refine acalls_of tokTB Tryz.func95 rfl rfl (Nat.le_of_ble_eq_true rfl) ?_
  apply sr tokTB (by kernel_rfl)
  · intro RR hRR
    refine w_alloc kn30 rfl zr30 ?_
    exact hRR
  apply sr tokTB (by kernel_rfl)
  · intro RR hRR
    refine w_bld_a kn30 zr30 und30 kn5 (fun _ => (by exact sz5.symm)) trivial rfl (by exact sz5.symm) ?_
    refine w_alloc kn30 rfl zr30 ?_
    refine w_stw rfl (by constructor) kn30 rfl (by exact trivial) (sx) (by exact sz30.symm) ?_
    exact hRR
  refine snd_seq ?_
  apply sr tokTB (by kernel_rfl)
  · intro RR hRR
    refine wm ?_
    refine w_callc rfl (ec exn) (c_copairing hv0 hr) (by exact closed_rows) (by exact ⟨closed_calg, trivial⟩) ?_
    refine w_len_r rfl rfl und63 ?_
    refine wm ?_
    exact hRR
  refine snd_block ?_
  refine snd_loop (S := Nat) (fun i => ([(0, .cptr (algA p (n : Int) T fo)), (1, .fn g nc caps), (4, .ptr 4 0 [] 0 (vecA (fun _ => 0))), (5, .ptr 5 0 [] 0 (vecA (fun _ => 0))), (12, rowsA n n (cpM p n (formT p T fo))), (13, .int .i64 (n : Int)), (14, .int .i64 (i : Int))], [(4, .one (vecA (fun _ => 0)) (vecA (fun _ => 0))), (5, .one (vecA (fun _ => 0)) (vecA (pr1 p n G (cpM p n (formT p T fo)) (i))))])) (fun i => i ≤ n) (fun i => n - i) (0) ρ0 ?_ ?_ ?_
  · exact ⟨⟨m_calg, (Mt_closed (V := _) (by assumption) (fun _ _ _ => trivial) (by simp)), ⟨rfl, rfl, rfl, rfl, rfl⟩, ⟨rfl, rfl, rfl, rfl, rfl⟩, (mt_rows (V := _) (fun _ _ _ _ => rfl)), (mi), (mi), trivial⟩, ⟨⟨rfl, (sx), (by first | exact mt_vec (fun _ _ => rfl) | exact mt_mat (fun _ _ _ _ => rfl) | exact mt_tab (fun _ _ _ _ _ _ => rfl) | exact mt_arr0 | exact mt_app (fun _ _ => rfl) rfl | exact ⟨rfl, fun _ _ => mt_row (fun _ _ => rfl)⟩ | exact Mt_closed (V := _) closed_alg (fun _ _ _ => trivial) (by simp))⟩, ⟨rfl, (sx), (by first | exact mt_vec (fun _ _ => rfl) | exact mt_mat (fun _ _ _ _ => rfl) | exact mt_tab (fun _ _ _ _ _ _ => rfl) | exact mt_arr0 | exact mt_app (fun _ _ => rfl) rfl | exact ⟨rfl, fun _ _ => mt_row (fun _ _ => rfl)⟩ | exact Mt_closed (V := _) closed_alg (fun _ _ _ => trivial) (by simp))⟩, trivial⟩, ⟨⟨(fun h => by first | exact ⟨rfl, rfl⟩ | exact absurd h (by decide)), (fun h => by first | exact ⟨rfl, rfl⟩ | exact absurd h (by decide)), trivial⟩, ⟨(fun h => by first | exact ⟨rfl, rfl⟩ | exact absurd h (by decide)), (fun h => by first | exact ⟨rfl, rfl⟩ | exact absurd h (by decide)), trivial⟩, trivial⟩⟩
  · exact Nat.zero_le _
  intro i hi0
  refine sq (env2 := [(0, .cptr (algA p (n : Int) T fo)), (1, .fn g nc caps), (4, .ptr 4 0 [] 0 (vecA (fun _ => 0))), (5, .ptr 5 0 [] 0 (vecA (fun _ => 0))), (12, rowsA n n (cpM p n (formT p T fo))), (13, .int .i64 (n : Int)), (14, .int .i64 (i : Int))]) (ol2 := [(4, .one (vecA (fun _ => 0)) (vecA (fun _ => 0))), (5, .one (vecA (fun _ => 0)) (vecA (pr1 p n G (cpM p n (formT p T fo)) (i))))]) rfl rfl ?_
  apply sr tokTB (by kernel_rfl)
  · intro RR hRR
    refine w_lss rfl rfl ?_
    exact hRR
  refine snd_seq ?_
  refine snd_cond _ rfl (fun hc15 => ?_) (fun hc15 => ?_)
  · try simp only [hcs] at hc15
    have lt_i : i < n := by omega
    refine snd_skip ?_
    refine snd_seq ?_
    refine snd_block ?_
    apply sr tokTB (by kernel_rfl)
    · intro RR hRR
      refine wm ?_
      refine w_iar rfl rfl und63 kn24 (by exact sz24.symm) ?_ rfl ?_
      · exact ⟨by omega, by omega⟩
      first | refine w_ldc rfl kn24 (by constructor) (by exact sz24.symm) (by exact ag24.symm) ?_ | refine w_ldp rfl kn24 rfl (by constructor) (by exact sz24.symm) (by exact ag24.symm) ?_
      refine wa ?_
      refine wa ?_
      exact hRR
    apply sr tokTB (by kernel_rfl)
    · intro RR hRR
      refine wm ?_
      refine w_len_r rfl rfl und24 ?_
      refine wm ?_
      exact hRR
    refine snd_block ?_
    refine snd_loop (S := Nat) (fun j => ([(0, .cptr (algA p (n : Int) T fo)), (1, .fn g nc caps), (4, .ptr 4 0 [] 0 (vecA (fun _ => 0))), (5, .ptr 5 0 [] 0 (vecA (fun _ => 0))), (6, .int .i64 (i : Int)), (12, rowsA n n (cpM p n (formT p T fo))), (13, .int .i64 (n : Int)), (14, .int .i64 (i : Int)), (19, rowA n ((cpM p n (formT p T fo)) i)), (20, .int .i64 (n : Int)), (21, .int .i64 (j : Int))], [(4, .one (vecA (fun _ => 0)) (vecA (fun _ => 0))), (5, .one (vecA (fun _ => 0)) (vecA (pr2 p G (cpM p n (formT p T fo)) i (pr1 p n G (cpM p n (formT p T fo)) i) j)))])) (fun j => j ≤ n) (fun j => n - j) (0) ρ0 ?_ ?_ ?_
    · exact ⟨⟨m_calg, (Mt_closed (V := _) (by assumption) (fun _ _ _ => trivial) (by simp)), ⟨rfl, rfl, rfl, rfl, rfl⟩, ⟨rfl, rfl, rfl, rfl, rfl⟩, (mi), (mt_rows (V := _) (fun _ _ _ _ => rfl)), (mi), (mi), (by first | exact mt_row (V := _) (fun _ _ => rfl) | exact mt_fz (by exact ⟨(ne_fst rfl), (ne_fst rfl), trivial⟩) rfl (fun _ _ => rfl)), (mi), (mi), trivial⟩, ⟨⟨rfl, (sx), (by first | exact mt_vec (fun _ _ => rfl) | exact mt_mat (fun _ _ _ _ => rfl) | exact mt_tab (fun _ _ _ _ _ _ => rfl) | exact mt_arr0 | exact mt_app (fun _ _ => rfl) rfl | exact ⟨rfl, fun _ _ => mt_row (fun _ _ => rfl)⟩ | exact Mt_closed (V := _) closed_alg (fun _ _ _ => trivial) (by simp))⟩, ⟨rfl, (sx), (by first | exact mt_vec (fun _ _ => rfl) | exact mt_mat (fun _ _ _ _ => rfl) | exact mt_tab (fun _ _ _ _ _ _ => rfl) | exact mt_arr0 | exact mt_app (fun _ _ => rfl) rfl | exact ⟨rfl, fun _ _ => mt_row (fun _ _ => rfl)⟩ | exact Mt_closed (V := _) closed_alg (fun _ _ _ => trivial) (by simp))⟩, trivial⟩, ⟨⟨(fun h => by first | exact ⟨rfl, rfl⟩ | exact absurd h (by decide)), (fun h => by first | exact ⟨rfl, rfl⟩ | exact absurd h (by decide)), trivial⟩, ⟨(fun h => by first | exact ⟨rfl, rfl⟩ | exact absurd h (by decide)), (fun h => by first | exact ⟨rfl, rfl⟩ | exact absurd h (by decide)), trivial⟩, trivial⟩⟩
    · exact Nat.zero_le _
    intro j hi2
    refine sq (env2 := [(0, .cptr (algA p (n : Int) T fo)), (1, .fn g nc caps), (4, .ptr 4 0 [] 0 (vecA (fun _ => 0))), (5, .ptr 5 0 [] 0 (vecA (fun _ => 0))), (6, .int .i64 (i : Int)), (12, rowsA n n (cpM p n (formT p T fo))), (13, .int .i64 (n : Int)), (14, .int .i64 (i : Int)), (19, rowA n ((cpM p n (formT p T fo)) i)), (20, .int .i64 (n : Int)), (21, .int .i64 (j : Int))]) (ol2 := [(4, .one (vecA (fun _ => 0)) (vecA (fun _ => 0))), (5, .one (vecA (fun _ => 0)) (vecA (pr2 p G (cpM p n (formT p T fo)) i (pr1 p n G (cpM p n (formT p T fo)) i) j)))]) rfl rfl ?_
    apply sr tokTB (by kernel_rfl)
    · intro RR hRR
      refine w_lss rfl rfl ?_
      exact hRR
    refine snd_seq ?_
    refine snd_cond _ rfl (fun hc22 => ?_) (fun hc22 => ?_)
    · try simp only [hcs] at hc22
      have lt_j : j < n := by omega
      refine snd_skip ?_
      refine snd_seq ?_
      refine snd_block ?_
      apply sr tokTB (by kernel_rfl)
      · intro RR hRR
        refine wm ?_
        refine w_iar rfl rfl und24 kn2 (by exact sz2.symm) ?_ rfl ?_
        · exact ⟨by omega, by omega⟩
        first | refine w_ldc rfl kn2 (by constructor) (by exact sz2.symm) (by exact ag2.symm) ?_ | refine w_ldp rfl kn2 rfl (by constructor) (by exact sz2.symm) (by exact ag2.symm) ?_
        refine wa ?_
        refine wa ?_
        exact hRR
      apply ld tokTB mixed (by kernel_rfl) (by kernel_rfl)
      · intro RR hRR
        refine wm ?_
        refine w_ldp rfl kn30 rfl (by constructor) (by exact sz30.symm) (by exact ag30.symm) ?_
        refine wm ?_
        refine wm ?_
        refine wm ?_
        refine y_call rfl (exc (by exact rfl) (exc (by exact rfl) (exp_capL hcaps))) (hg i j (by omega) (by omega)) ?_
        refine wm ?_
        refine y_call rfl (ec (ec (ec (ec exn)))) (c_add (u := pr2 p G (cpM p n (formT p T fo)) i (pr1 p n G (cpM p n (formT p T fo)) i) j) (v := G i j) (k := (cpM p n (formT p T fo)) i j) hp8 (B8_of (by omega) (pr2_Bp (by omega) (pr1_Bp (by omega) i) j)) (hG i j) (by have := hCB i j; omega)) ?_
        refine w_stw rfl (by constructor) kn30 rfl (by exact trivial) (sx) (by exact sz30.symm) ?_
        exact hRR
      apply lr tokTB (by kernel_rfl)
      · intro RR hRR
        refine y_add rfl rfl ?_
        refine wm ?_
        exact hRR
      refine ⟨j + 1, ρ0, ?_, (by omega), (by dsimp only; omega)⟩
      exact ⟨⟨m_calg, (Mt_closed (V := _) (by assumption) (fun _ _ _ => trivial) (by simp)), ⟨rfl, rfl, rfl, rfl, rfl⟩, ⟨rfl, rfl, rfl, rfl, rfl⟩, (mi), (mt_rows (V := _) (fun _ _ _ _ => rfl)), (mi), (mi), (by first | exact mt_row (V := _) (fun _ _ => rfl) | exact mt_fz (by exact ⟨(ne_fst rfl), (ne_fst rfl), trivial⟩) rfl (fun _ _ => rfl)), (mi), (mi), trivial⟩, ⟨⟨rfl, (sx), (by first | exact mt_vec (fun _ _ => rfl) | exact mt_mat (fun _ _ _ _ => rfl) | exact mt_tab (fun _ _ _ _ _ _ => rfl) | exact mt_arr0 | exact mt_app (fun _ _ => rfl) rfl | exact ⟨rfl, fun _ _ => mt_row (fun _ _ => rfl)⟩ | exact Mt_closed (V := _) closed_alg (fun _ _ _ => trivial) (by simp))⟩, ⟨rfl, (sx), (by first | exact mt_vec (fun _ _ => rfl) | exact mt_mat (fun _ _ _ _ => rfl) | exact mt_tab (fun _ _ _ _ _ _ => rfl) | exact mt_arr0 | exact mt_app (fun _ _ => rfl) rfl | exact ⟨rfl, fun _ _ => mt_row (fun _ _ => rfl)⟩ | exact Mt_closed (V := _) closed_alg (fun _ _ _ => trivial) (by simp))⟩, trivial⟩, ⟨⟨(fun h => by first | exact ⟨rfl, rfl⟩ | exact absurd h (by decide)), (fun h => by first | exact ⟨rfl, rfl⟩ | exact absurd h (by decide)), trivial⟩, ⟨(fun h => by first | exact ⟨rfl, rfl⟩ | exact absurd h (by decide)), (fun h => by first | exact ⟨rfl, rfl⟩ | exact absurd h (by decide)), trivial⟩, trivial⟩⟩
    · try simp only [hcs] at hc22
      have ge_j : n = j := by omega
      subst ge_j
      refine snd_exit ?_
      apply lr tokTB (by kernel_rfl)
      · intro RR hRR
        refine y_add rfl rfl ?_
        refine wm ?_
        exact hRR
      refine ⟨i + 1, ρ0, ?_, (by omega), (by dsimp only; omega)⟩
      exact ⟨⟨m_calg, (Mt_closed (V := _) (by assumption) (fun _ _ _ => trivial) (by simp)), ⟨rfl, rfl, rfl, rfl, rfl⟩, ⟨rfl, rfl, rfl, rfl, rfl⟩, (mt_rows (V := _) (fun _ _ _ _ => rfl)), (mi), (mi), trivial⟩, ⟨⟨rfl, (sx), (by first | exact mt_vec (fun _ _ => rfl) | exact mt_mat (fun _ _ _ _ => rfl) | exact mt_tab (fun _ _ _ _ _ _ => rfl) | exact mt_arr0 | exact mt_app (fun _ _ => rfl) rfl | exact ⟨rfl, fun _ _ => mt_row (fun _ _ => rfl)⟩ | exact Mt_closed (V := _) closed_alg (fun _ _ _ => trivial) (by simp))⟩, ⟨rfl, (sx), (by first | exact mt_vec (fun _ _ => rfl) | exact mt_mat (fun _ _ _ _ => rfl) | exact mt_tab (fun _ _ _ _ _ _ => rfl) | exact mt_arr0 | exact mt_app (fun _ _ => rfl) rfl | exact ⟨rfl, fun _ _ => mt_row (fun _ _ => rfl)⟩ | exact Mt_closed (V := _) closed_alg (fun _ _ _ => trivial) (by simp))⟩, trivial⟩, ⟨⟨(fun h => by first | exact ⟨rfl, rfl⟩ | exact absurd h (by decide)), (fun h => by first | exact ⟨rfl, rfl⟩ | exact absurd h (by decide)), trivial⟩, ⟨(fun h => by first | exact ⟨rfl, rfl⟩ | exact absurd h (by decide)), (fun h => by first | exact ⟨rfl, rfl⟩ | exact absurd h (by decide)), trivial⟩, trivial⟩⟩
  · try simp only [hcs] at hc15
    have ge_i : n = i := by omega
    subst ge_i
    refine snd_exit ?_
    apply sr tokTB (by kernel_rfl)
    · intro RR hRR
      refine w_ldp rfl kn30 rfl (by constructor) (by exact sz30.symm) (by exact ag30.symm) ?_
      refine w_stw rfl (by constructor) kn30 rfl (by exact trivial) (sx) (by exact sz30.symm) ?_
      exact hRR
    refine snd_ret ?_
    exact rt_c (T := TB) rfl kn30 rfl sz30.symm ag30.symm (fun V => m_vec (fun j hj => rfl))
theorem c_handle1 {p : Int} {n : Nat} {T : Nat → Nat → Nat → Int} {fo : Nat → Int} (hv0 : VN p n T fo) {i j : Nat} (hi : i < n) (hj : j < n) : ACalls Tryz.prog TB 96 [.int .i64 (i : Int), .int .i64 (j : Int), .cptr (.cptr (algA p (n : Int) T fo))] (vecA (T i j)) [] := by
  have hn6 := hv0.n6
  refine acalls_of tokTB Tryz.func96 rfl rfl (Nat.le_of_ble_eq_true rfl) ?_
  apply sr tokTB (by kernel_rfl)
  · intro RR hRR
    refine w_alloc kn30 rfl zr30 ?_
    exact hRR
  apply sr tokTB (by kernel_rfl)
  · intro RR hRR
    refine w_ldc rfl kn58 (by constructor) (by exact sz58.symm) (by exact ag58.symm) ?_
    refine wm ?_
    refine wm ?_
    refine w_nilc rfl ?_
    refine w_fac rfl und32 rfl kn29 nz29 (by decide) rfl (by constructor) ?_
    refine w_iac rfl rfl und29 kn28 (by exact sz28.symm) ?_ rfl ?_
    · exact ⟨by omega, by omega⟩
    refine w_iac rfl rfl und28 kn27 (by exact sz27.symm) ?_ rfl ?_
    · exact ⟨by omega, by omega⟩
    refine w_ldc rfl kn27 (by constructor) (by exact sz27.symm) (by exact ag27.symm) ?_
    refine w_stw rfl (by constructor) kn30 rfl (by exact trivial) (sx) (by exact sz30.symm) ?_
    exact hRR
  refine snd_ret ?_
  exact rt_c (T := TB) rfl kn30 rfl sz30.symm ag30.symm (fun V => m_vec (fun j hj => rfl))
theorem c_handle {p : Int} {n : Nat} {T : Nat → Nat → Nat → Int} {fo : Nat → Int} (hv0 : VN p n T fo) (hr : rankT p n T fo = n) : ACalls Tryz.prog TB 76 [.cptr (algA p (n : Int) T fo)] (vecA (pr1 p n T (cpM p n (formT p T fo)) n)) [] := by
  refine acalls_of tokTB Tryz.func76 rfl rfl (Nat.le_of_ble_eq_true rfl) ?_
  apply sr tokTB (by kernel_rfl)
  · intro RR hRR
    refine w_boxc (HV.eq (by constructor)) (by exact trivial) ?_
    refine w_alloc kn30 rfl zr30 ?_
    exact hRR
  apply sr tokTB (by kernel_rfl)
  · intro RR hRR
    refine w_ldc rfl kn58 (by constructor) (by exact sz58.symm) (by exact ag58.symm) ?_
    refine w_mkf1 (by constructor) ?_
    refine y_call rfl (exc exp_calg (exc (exp_closed (closed_cap1 closed_calg)) exn)) (c_paired (G := T) (g := 96) (nc := 1) (caps := cap1 (.cptr (.cptr (algA p (n : Int) T fo)))) hv0 hr (closed_cap1 closed_calg) hv0.T8 (fun i j hi hj => c_handle1 hv0 hi hj)) ?_
    refine w_stw rfl (by constructor) kn30 rfl (by exact trivial) (sx) (by exact sz30.symm) ?_
    exact hRR
  refine snd_ret ?_
  exact rt_c (T := TB) rfl kn30 rfl sz30.symm ag30.symm (fun V => m_vec (fun j hj => rfl))
end Go.Am

set_option maxRecDepth 4000
namespace Go.Am
attribute [local irreducible] retQ retQp
open Go.Proofs
theorem c_powerB {p : Int} {n : Nat} {T : Nat → Nat → Nat → Int} {fo : Nat → Int} (hv0 : VN p n T fo) {v : Nat → Int} (hv : B8 v) {k : Nat} (hk : k ≤ 1000000) : ACalls Tryz.prog TB 75 [.cptr (algA p (n : Int) T fo), vecA v, .int .i64 (k : Int)] (vecA (powV p n T (uF p n T) v k)) [] := by
  have hp8 := hv0.p0
  refine acalls_of tokTB Tryz.func75 rfl rfl (Nat.le_of_ble_eq_true rfl) ?_
  apply sr tokTB (by kernel_rfl)
  · intro RR hRR
    refine w_boxc (HV.eq (by constructor)) (by exact trivial) ?_
    refine w_alloc kn30 rfl zr30 ?_
    exact hRR
  apply sr tokTB (by kernel_rfl)
  · intro RR hRR
    refine wm ?_
    refine y_call rfl (ec exn) (c_unit hv0) ?_
    refine w_alloc kn30 rfl zr30 ?_
    refine w_stw rfl (by constructor) kn30 rfl (by exact trivial) (sx) (by exact sz30.symm) ?_
    exact hRR
  refine snd_seq ?_
  apply sr tokTB (by kernel_rfl)
  · intro RR hRR
    refine wm ?_
    refine wm ?_
    exact hRR
  refine snd_block ?_
  refine snd_loop (S := Nat) (fun i => ([(0, .cptr (algA p (n : Int) T fo)), (4, .cptr (vecA v)), (6, .ptr 6 0 [] 0 (vecA (fun _ => 0))), (7, .ptr 7 0 [] 0 (vecA (fun _ => 0))), (10, .int .i64 (k : Int)), (11, .int .i64 (i : Int))], [(6, .one (vecA (fun _ => 0)) (vecA (fun _ => 0))), (7, .one (vecA (fun _ => 0)) (vecA (powV p n T (uF p n T) v i)))])) (fun i => i ≤ k) (fun i => k - i) (0) ρ0 ?_ ?_ ?_
  · exact ⟨⟨m_calg, (m_cvec (fun _ _ => rfl)), ⟨rfl, rfl, rfl, rfl, rfl⟩, ⟨rfl, rfl, rfl, rfl, rfl⟩, (mi), (mi), trivial⟩, ⟨⟨rfl, (sx), (by first | exact mt_vec (fun _ _ => rfl) | exact mt_mat (fun _ _ _ _ => rfl) | exact mt_tab (fun _ _ _ _ _ _ => rfl) | exact mt_arr0 | exact mt_app (fun _ _ => rfl) rfl | exact ⟨rfl, fun _ _ => mt_row (fun _ _ => rfl)⟩ | exact Mt_closed (V := _) closed_alg (fun _ _ _ => trivial) (by simp))⟩, ⟨rfl, (sx), (by first | exact mt_vec (fun _ _ => rfl) | exact mt_mat (fun _ _ _ _ => rfl) | exact mt_tab (fun _ _ _ _ _ _ => rfl) | exact mt_arr0 | exact mt_app (fun _ _ => rfl) rfl | exact ⟨rfl, fun _ _ => mt_row (fun _ _ => rfl)⟩ | exact Mt_closed (V := _) closed_alg (fun _ _ _ => trivial) (by simp))⟩, trivial⟩, ⟨⟨(fun h => by first | exact ⟨rfl, rfl⟩ | exact absurd h (by decide)), (fun h => by first | exact ⟨rfl, rfl⟩ | exact absurd h (by decide)), trivial⟩, ⟨(fun h => by first | exact ⟨rfl, rfl⟩ | exact absurd h (by decide)), (fun h => by first | exact ⟨rfl, rfl⟩ | exact absurd h (by decide)), trivial⟩, trivial⟩⟩
  · exact Nat.zero_le _
  intro i hi0
  refine sq (env2 := [(0, .cptr (algA p (n : Int) T fo)), (4, .cptr (vecA v)), (6, .ptr 6 0 [] 0 (vecA (fun _ => 0))), (7, .ptr 7 0 [] 0 (vecA (fun _ => 0))), (10, .int .i64 (k : Int)), (11, .int .i64 (i : Int))]) (ol2 := [(6, .one (vecA (fun _ => 0)) (vecA (fun _ => 0))), (7, .one (vecA (fun _ => 0)) (vecA (powV p n T (uF p n T) v i)))]) rfl rfl ?_
  apply sr tokTB (by kernel_rfl)
  · intro RR hRR
    refine w_lss rfl rfl ?_
    exact hRR
  refine snd_seq ?_
  refine snd_cond _ rfl (fun hc12 => ?_) (fun hc12 => ?_)
  · try simp only [hcs] at hc12
    have lt_i : i < k := by omega
    refine snd_skip ?_
    refine snd_seq ?_
    refine snd_block ?_
    apply lr tokTB (by kernel_rfl)
    · intro RR hRR
      refine wm ?_
      refine w_ldp rfl kn30 rfl (by constructor) (by exact sz30.symm) (by exact ag30.symm) ?_
      refine w_ldc rfl kn30 (by constructor) (by exact sz30.symm) (by exact ag30.symm) ?_
      refine y_call rfl (ec (ec (ec exn))) (c_times (u := powV p n T (uF p n T) v i) (v := v) (by omega) (by omega) hv0.n6 hv0.T8 (B8_of (by omega) (powV_Bp (by omega) hv0.u_Bp i)) (hv)) ?_
      refine w_stw rfl (by constructor) kn30 rfl (by exact trivial) (sx) (by exact sz30.symm) ?_
      exact hRR
    apply lr tokTB (by kernel_rfl)
    · intro RR hRR
      refine y_add rfl rfl ?_
      refine wm ?_
      exact hRR
    refine ⟨i + 1, ρ0, ?_, (by omega), (by dsimp only; omega)⟩
    exact ⟨⟨m_calg, (m_cvec (fun _ _ => rfl)), ⟨rfl, rfl, rfl, rfl, rfl⟩, ⟨rfl, rfl, rfl, rfl, rfl⟩, (mi), (mi), trivial⟩, ⟨⟨rfl, (sx), (by first | exact mt_vec (fun _ _ => rfl) | exact mt_mat (fun _ _ _ _ => rfl) | exact mt_tab (fun _ _ _ _ _ _ => rfl) | exact mt_arr0 | exact mt_app (fun _ _ => rfl) rfl | exact ⟨rfl, fun _ _ => mt_row (fun _ _ => rfl)⟩ | exact Mt_closed (V := _) closed_alg (fun _ _ _ => trivial) (by simp))⟩, ⟨rfl, (sx), (by first | exact mt_vec (fun _ _ => rfl) | exact mt_mat (fun _ _ _ _ => rfl) | exact mt_tab (fun _ _ _ _ _ _ => rfl) | exact mt_arr0 | exact mt_app (fun _ _ => rfl) rfl | exact ⟨rfl, fun _ _ => mt_row (fun _ _ => rfl)⟩ | exact Mt_closed (V := _) closed_alg (fun _ _ _ => trivial) (by simp))⟩, trivial⟩, ⟨⟨(fun h => by first | exact ⟨rfl, rfl⟩ | exact absurd h (by decide)), (fun h => by first | exact ⟨rfl, rfl⟩ | exact absurd h (by decide)), trivial⟩, ⟨(fun h => by first | exact ⟨rfl, rfl⟩ | exact absurd h (by decide)), (fun h => by first | exact ⟨rfl, rfl⟩ | exact absurd h (by decide)), trivial⟩, trivial⟩⟩
  · try simp only [hcs] at hc12
    have ge_i : k = i := by omega
    subst ge_i
    refine snd_exit ?_
    apply sr tokTB (by kernel_rfl)
    · intro RR hRR
      refine w_ldp rfl kn30 rfl (by constructor) (by exact sz30.symm) (by exact ag30.symm) ?_
      refine w_stw rfl (by constructor) kn30 rfl (by exact trivial) (sx) (by exact sz30.symm) ?_
      exact hRR
    refine snd_ret ?_
    exact rt_c (T := TB) rfl kn30 rfl sz30.symm ag30.symm (fun V => m_vec (fun j hj => rfl))
theorem c_genusOk_ok {p : Int} {n : Nat} {T : Nat → Nat → Nat → Int} {fo : Nat → Int} (hv0 : VN p n T fo) {M : Nat} {F : Nat → Nat → Int} (hM : M ≤ 16777216) (hF : ∀ i, B8 (F i)) (hz : VZ p n T fo M F) (hc : comN n T) (hr : rankT p n T fo = n) : ACalls Tryz.prog TB 73 [algA p (n : Int) T fo, .bool true, vlA M F] (.int .i64 0) [] := by
  refine acalls_of tokTB Tryz.func73 rfl rfl (Nat.le_of_ble_eq_true rfl) ?_
  apply sr tokTB (by kernel_rfl)
  · intro RR hRR
    refine w_boxc (HV.eq (by constructor)) (by exact trivial) ?_
    refine wa ?_
    exact hRR
  refine snd_seq ?_
  apply sr tokTB (by kernel_rfl)
  · intro RR hRR
    refine w_ldc rfl kn32 (by constructor) (by exact sz32.symm) (by exact ag32.symm) ?_
    refine wm ?_
    refine y_call rfl (exc exp_alg (exc ex_vl exn)) ((vz_code hz ▸ c_valid hv0.rb hv0.rv (by omega) hF)) ?_
    refine wa ?_
    exact hRR
  apply sr tokTB (by kernel_rfl)
  · intro RR hRR
    refine wm ?_
    refine w_neq rfl rfl ?_
    exact hRR
  refine snd_cond_false rfl ?_
  refine snd_skip ?_
  refine snd_seq ?_
  refine snd_block ?_
  apply sr tokTB (by kernel_rfl)
  · intro RR hRR
    refine wm ?_
    refine w_not rfl ?_
    refine wa ?_
    exact hRR
  refine snd_cond_false rfl ?_
  apply srG (env' := (17, .bool (!true)) :: (23, .bool (!true)) :: (22, .any) :: (21, .any) :: (20, _) :: (19, _) :: (18, _) :: _) tokTB (by kernel_rfl)
  · intro RR hRR
    refine y_call rfl (ec exn) (((decide_eq_true (hc)) ▸ c_commutative hv0.n6)) ?_
    refine w_not rfl ?_
    refine wm ?_
    refine w_g_on rfl rfl rfl ?_
    refine y_call rfl (ec exn) (((decide_eq_true (hr)) ▸ c_frobenius hv0)) ?_
    refine w_g_on rfl rfl rfl ?_
    refine w_not rfl ?_
    refine w_pick_0 rfl rfl (by constructor) ?_
    refine wa ?_
    exact hRR _ (EL.cons (er) (EL.cons (er) (EL.cons (.inl rfl) (EL.cons (.inl rfl) (EL.cons (.inr rfl) (EL.cons (.inr rfl) (EL.cons (.inr rfl) (EL.refl _))))))))
  refine snd_cond_false rfl ?_
  refine snd_skip ?_
  apply sr tokTB (by kernel_rfl)
  · intro RR hRR
    refine wa ?_
    exact hRR
  refine snd_ret ?_
  exact rt (T := TB) (fun V => rfl)
theorem c_isGenus {g : Int} : ACalls Tryz.prog TB 74 [.int .i64 g] (.bool (decide (0 ≤ g) && decide (g ≤ 30))) [] := by
  refine acalls_of tokTB Tryz.func74 rfl rfl (Nat.le_of_ble_eq_true rfl) ?_
  apply sr tokTB (by kernel_rfl)
  · intro RR hRR
    refine wa ?_
    exact hRR
  apply sr tokTB (by kernel_rfl)
  · intro RR hRR
    refine wm ?_
    refine y_call rfl (ec (ec (ec exn))) (c_in) ?_
    refine wa ?_
    exact hRR
  refine snd_ret ?_
  exact rt (T := TB) (fun V => rfl)
theorem c_iLegNumber_ok {p : Int} {n : Nat} {T : Nat → Nat → Nat → Int} {fo : Nat → Int} (hv0 : VN p n T fo) {M : Nat} {F : Nat → Nat → Int} (hM : M ≤ 6) (hF : ∀ i, B8 (F i)) (hz : VZ p n T fo M F) (hc : comN n T) (hr : rankT p n T fo = n) {k : Nat} (hk : k ≤ 30) : ACalls Tryz.prog TB 52 [algA p (n : Int) T fo, .int .i64 (k : Int), vlA M F] (.tup 2 (pairA (.int .i64 (formF p fo (legV p n T (powV p n T (uF p n T) (pr1 p n T (cpM p n (formT p T fo)) n) k) F (M)))) (.int .i64 0))) [] := by
  have hp8 := hv0.p0
  have hn6 := hv0.n6
  have hn0 := hv0.n0
  refine acalls_of tokTB Tryz.func52 rfl rfl (Nat.le_of_ble_eq_true rfl) ?_
  apply sr tokTB (by kernel_rfl)
  · intro RR hRR
    refine w_boxc (HV.eq (by constructor)) (by exact trivial) ?_
    refine wa ?_
    refine wa ?_
    exact hRR
  refine snd_seq ?_
  apply sdG (env' := (8, _) :: (21, _) :: (20, _) :: (19, .bool (decide ((M : Int) ≤ 6))) :: (18, .any) :: (17, .any) :: (16, .any) :: (15, _) :: (14, _) :: (13, _) :: (12, _) :: _) tokTB mixed (by kernel_rfl) (by kernel_rfl)
  · intro RR hRR
    refine w_ldc rfl kn32 (by constructor) (by exact sz32.symm) (by exact ag32.symm) ?_
    refine wm ?_
    refine y_call rfl (ec exn) (in_both (show (0 : Int) ≤ (k : Int) ∧ (k : Int) ≤ 30 by omega) ▸ c_isGenus) ?_
    refine wm ?_
    refine w_g_on rfl rfl rfl ?_
    refine wm ?_
    refine w_g_on rfl rfl rfl ?_
    first | refine w_len_r rfl rfl und61 ?_ | refine w_len_o rfl rfl und61 ?_ | refine w_len_n rfl rfl und61 ?_
    refine w_g_on rfl rfl rfl ?_
    refine w_leq rfl rfl ?_
    refine w_pick_1 rfl rfl (by constructor) ?_
    refine wm ?_
    refine y_call rfl (exc exp_alg (exc (by exact congrArg AV.bool (decide_eq_true (by omega))) (exc ex_vl exn))) (c_genusOk_ok hv0 (by omega) hF hz hc hr) ?_
    refine wa ?_
    exact hRR _ (EL.cons (.inr rfl) (EL.cons (.inr rfl) (EL.cons (.inr rfl) (EL.cons (er) (EL.cons (.inl rfl) (EL.cons (.inl rfl) (EL.cons (.inl rfl) (EL.cons (.inr rfl) (EL.cons (.inr rfl) (EL.cons (.inr rfl) (EL.cons (.inr rfl) (EL.refl _))))))))))))
  apply sr tokTB (by kernel_rfl)
  · intro RR hRR
    refine wm ?_
    refine w_neq rfl rfl ?_
    exact hRR
  refine snd_cond_false rfl ?_
  refine snd_skip ?_
  apply sr tokTB (by kernel_rfl)
  · intro RR hRR
    refine y_call rfl (ec exn) (c_handle hv0 hr) ?_
    refine wm ?_
    refine y_call rfl (ec (ec (ec exn))) (c_powerB hv0 (v := (pr1 p n T (cpM p n (formT p T fo)) n)) (k := k) (B8_of (by omega) (pr1_Bp (by omega) n)) (by omega)) ?_
    refine w_alloc kn30 rfl zr30 ?_
    refine w_stw rfl (by constructor) kn30 rfl (by exact trivial) (sx) (by exact sz30.symm) ?_
    exact hRR
  refine snd_seq ?_
  apply sr tokTB (by kernel_rfl)
  · intro RR hRR
    refine wm ?_
    refine w_len_r rfl rfl und61 ?_
    refine wm ?_
    exact hRR
  refine snd_block ?_
  refine snd_loop (S := Nat) (fun i => ([(3, .cptr (algA p (n : Int) T fo)), (9, .ptr 9 0 [] 0 (vecA (fun _ => 0))), (28, vlA M F), (29, .int .i64 (M : Int)), (30, .int .i64 (i : Int))], [(9, .one (vecA (fun _ => 0)) (vecA (legV p n T (powV p n T (uF p n T) (pr1 p n T (cpM p n (formT p T fo)) n) k) F (i))))])) (fun i => i ≤ M) (fun i => M - i) (0) ρ0 ?_ ?_ ?_
  · exact ⟨⟨m_calg, ⟨rfl, rfl, rfl, rfl, rfl⟩, (by first | exact m_vl | exact mt_fz (by exact ⟨(ne_fst rfl), trivial⟩) rfl (fun _ _ => mt_vec (fun _ _ => rfl))), (mi), (mi), trivial⟩, ⟨⟨rfl, (sx), (by first | exact mt_vec (fun _ _ => rfl) | exact mt_mat (fun _ _ _ _ => rfl) | exact mt_tab (fun _ _ _ _ _ _ => rfl) | exact mt_arr0 | exact mt_app (fun _ _ => rfl) rfl | exact ⟨rfl, fun _ _ => mt_row (fun _ _ => rfl)⟩ | exact Mt_closed (V := _) closed_alg (fun _ _ _ => trivial) (by simp))⟩, trivial⟩, ⟨⟨(fun h => by first | exact ⟨rfl, rfl⟩ | exact absurd h (by decide)), trivial⟩, trivial⟩⟩
  · exact Nat.zero_le _
  intro i hi0
  refine sq (env2 := [(3, .cptr (algA p (n : Int) T fo)), (9, .ptr 9 0 [] 0 (vecA (fun _ => 0))), (28, vlA M F), (29, .int .i64 (M : Int)), (30, .int .i64 (i : Int))]) (ol2 := [(9, .one (vecA (fun _ => 0)) (vecA (legV p n T (powV p n T (uF p n T) (pr1 p n T (cpM p n (formT p T fo)) n) k) F (i))))]) rfl rfl ?_
  apply sr tokTB (by kernel_rfl)
  · intro RR hRR
    refine w_lss rfl rfl ?_
    exact hRR
  refine snd_seq ?_
  refine snd_cond _ rfl (fun hc31 => ?_) (fun hc31 => ?_)
  · try simp only [hcs] at hc31
    have lt_i : i < M := by omega
    refine snd_skip ?_
    refine snd_seq ?_
    refine snd_block ?_
    apply sr tokTB (by kernel_rfl)
    · intro RR hRR
      refine w_iar rfl rfl und61 kn30 (by exact sz30.symm) ?_ rfl ?_
      · exact ⟨by omega, by omega⟩
      first | refine w_ldc rfl kn30 (by constructor) (by exact sz30.symm) (by exact ag30.symm) ?_ | refine w_ldp rfl kn30 rfl (by constructor) (by exact sz30.symm) (by exact ag30.symm) ?_
      refine w_alloc kn30 rfl zr30 ?_
      refine w_stw rfl (by constructor) kn30 rfl (by exact trivial) (sx) (by exact sz30.symm) ?_
      exact hRR
    apply lr tokTB (by kernel_rfl)
    · intro RR hRR
      refine w_ldp rfl kn30 rfl (by constructor) (by exact sz30.symm) (by exact ag30.symm) ?_
      refine w_ldp rfl kn30 rfl (by constructor) (by exact sz30.symm) (by exact ag30.symm) ?_
      refine y_call rfl (ec (ec (ec exn))) (c_times (u := legV p n T (powV p n T (uF p n T) (pr1 p n T (cpM p n (formT p T fo)) n) k) F (i)) (v := F i) (by omega) (by omega) hv0.n6 hv0.T8 (B8_of (by omega) (legV_Bp (by omega) (powV_Bp (by omega) hv0.u_Bp k) _)) (hF i)) ?_
      refine w_stw rfl (by constructor) kn30 rfl (by exact trivial) (sx) (by exact sz30.symm) ?_
      exact hRR
    apply lr tokTB (by kernel_rfl)
    · intro RR hRR
      refine y_add rfl rfl ?_
      refine wm ?_
      exact hRR
    refine ⟨i + 1, ρ0, ?_, (by omega), (by dsimp only; omega)⟩
    exact ⟨⟨m_calg, ⟨rfl, rfl, rfl, rfl, rfl⟩, (by first | exact m_vl | exact mt_fz (by exact ⟨(ne_fst rfl), trivial⟩) rfl (fun _ _ => mt_vec (fun _ _ => rfl))), (mi), (mi), trivial⟩, ⟨⟨rfl, (sx), (by first | exact mt_vec (fun _ _ => rfl) | exact mt_mat (fun _ _ _ _ => rfl) | exact mt_tab (fun _ _ _ _ _ _ => rfl) | exact mt_arr0 | exact mt_app (fun _ _ => rfl) rfl | exact ⟨rfl, fun _ _ => mt_row (fun _ _ => rfl)⟩ | exact Mt_closed (V := _) closed_alg (fun _ _ _ => trivial) (by simp))⟩, trivial⟩, ⟨⟨(fun h => by first | exact ⟨rfl, rfl⟩ | exact absurd h (by decide)), trivial⟩, trivial⟩⟩
  · try simp only [hcs] at hc31
    have ge_i : M = i := by omega
    subst ge_i
    refine snd_exit ?_
    apply sr tokTB (by kernel_rfl)
    · intro RR hRR
      refine w_ldp rfl kn30 rfl (by constructor) (by exact sz30.symm) (by exact ag30.symm) ?_
      refine y_call rfl (ec (ec exn)) (c_form (v := legV p n T (powV p n T (uF p n T) (pr1 p n T (cpM p n (formT p T fo)) n) k) F (M)) (by omega) hv0.f8 (B8_of (by omega) (legV_Bp (by omega) (powV_Bp (by omega) hv0.u_Bp k) _))) ?_
      refine wa ?_
      refine wa ?_
      exact hRR
    refine snd_ret ?_
    exact rt_tt (T := TB) (fun V => rfl) (fun V => rfl)
end Go.Am

set_option maxRecDepth 4000
namespace Go.Am
attribute [local irreducible] retQ retQp
open Go.Proofs
theorem c_iGenusNumber_ok {p : Int} {n : Nat} {T : Nat → Nat → Nat → Int} {fo : Nat → Int} (hv0 : VN p n T fo) (hz : VZ p n T fo 0 (fun _ _ => (0 : Int))) (hc : comN n T) (hr : rankT p n T fo = n) {k : Nat} (hk : k ≤ 30) : ACalls Tryz.prog TB 16 [algA p (n : Int) T fo, .int .i64 (k : Int)] (.tup 2 (pairA (.int .i64 (formF p fo (legV p n T (powV p n T (uF p n T) (pr1 p n T (cpM p n (formT p T fo)) n) k) (fun _ _ => (0 : Int)) 0))) (.int .i64 0))) [] := by
  refine acalls_of tokTB Tryz.func16 rfl rfl (Nat.le_of_ble_eq_true rfl) ?_
  apply sr tokTB (by kernel_rfl)
  · intro RR hRR
    refine w_boxc (HV.eq (by constructor)) (by exact trivial) ?_
    refine wa ?_
    refine wa ?_
    exact hRR
  apply sr tokTB (by kernel_rfl)
  · intro RR hRR
    refine w_ldc rfl kn32 (by constructor) (by exact sz32.symm) (by exact ag32.symm) ?_
    refine wm ?_
    refine y_call rfl rfl ((c_iLegNumber_ok (F := (fun _ _ => (0 : Int))) hv0 (by omega) (fun _ => B8_0) hz hc hr hk).mt ⟨mt_expc closed_alg (by simp), mt_int0, mt_nil0, trivial⟩) ?_
    refine we ?_
    refine we ?_
    refine wa ?_
    refine wa ?_
    exact hRR
  refine snd_ret ?_
  exact rt_tt (T := TB) (fun V => rfl) (fun V => rfl)
end Go.Am

set_option maxRecDepth 4000
namespace Go.Am
attribute [local irreducible] retQ retQp
open Go.Proofs
theorem c_iMinimalPolynomial_ok {p : Int} {n : Nat} {T : Nat → Nat → Nat → Int} {fo : Nat → Int} (hv0 : VN p n T fo) {v : Nat → Int} (hv : VV p n v) {D : Nat} (hD : MPd p n T v D) : ACalls Tryz.prog TB 12 [algA p (n : Int) T fo, vecA v] (.tup 2 (pairA (.own 0 0 (D + 1) 2) (.int .i64 0))) [(0, .one (Z64 (D + 1)) (C64 (D + 1) (fun j => if j < D then (- (echGo p (D + 1) (mpS p n T v) n).O j D) % p else 1)))] := by
  have hp8 := hv0.p0
  have hn6 := hv0.n6
  have hn0 := hv0.n0
  have hd1 := hD.d1
  have hdn := hD.dn
  have hT8 := hv0.T8
  have hPV := fun k => pw_VV hv0 v k
  have hPB : ∀ k, B8 (pw p n T v k) := fun k => B8_of (by omega) (hPV k).b
  have hvB : B8 v := B8_of (by omega) hv.b
  have hSB := mpS_Bp hv0 v
  have hIB := mpI_Bp hv0 v
  refine acalls_of tokTB Tryz.func12 rfl rfl (Nat.le_of_ble_eq_true rfl) ?_
  apply sr tokTB (by kernel_rfl)
  · intro RR hRR
    refine w_boxc (HV.eq (by constructor)) (by exact trivial) ?_
    refine w_boxc (HV.eq (by constructor)) (by exact trivial) ?_
    refine wa ?_
    refine wa ?_
    exact hRR
  refine snd_seq ?_
  apply sr tokTB (by kernel_rfl)
  · intro RR hRR
    refine w_ldc rfl kn32 (by constructor) (by exact sz32.symm) (by exact ag32.symm) ?_
    refine w_ldc rfl kn30 (by constructor) (by exact sz30.symm) (by exact ag30.symm) ?_
    refine w_bsl1 und61 kn30 (by rw [sz30]; rfl) rfl (by constructor) (by first | exact trivial | exact cel_cap2) (by exact sz30.symm) (by first | exact trivial | exact ssh_vec | exact ⟨rfl, fun _ => trivial⟩) ?_
    refine y_call rfl (exc exp_alg (exc (ex_l1 zr30 rfl) exn)) (c_valid1_ok hv0 hv) ?_
    refine wa ?_
    exact hRR
  apply sr tokTB (by kernel_rfl)
  · intro RR hRR
    refine wm ?_
    refine w_neq rfl rfl ?_
    exact hRR
  refine snd_cond_false rfl ?_
  refine snd_skip ?_
  apply sr tokTB (by kernel_rfl)
  · intro RR hRR
    refine y_call rfl (ec exn) (c_unit hv0) ?_
    refine w_bsl1 und61 kn30 (by rw [sz30]; rfl) rfl (by constructor) (by first | exact trivial | exact cel_cap2) (by exact sz30.symm) (by first | exact trivial | exact ssh_vec | exact ⟨rfl, fun _ => trivial⟩) ?_
    refine wa ?_
    exact hRR
  refine snd_block ?_
  refine snd_loop (S := Nat) (fun k => ([(2, .cptr (algA p (n : Int) T fo)), (3, .cptr (vecA v)), (7, .own 907 0 (k + 1) 30)], [(907, .one (.arr (k + 1) (fun _ => TB.zero 30)) (.arr (k + 1) (fun r => vecA (pw p n T v r))))])) (fun k => k < D) (fun k => D - k) (0) (fun k i => bif Nat.beq k 907 then (24, i) else (k, i)) ?_ ?_ ?_
  · exact ⟨⟨m_calg, (m_cvec (fun _ _ => rfl)), (by first | exact ⟨rfl, rfl, rfl, rfl⟩ | exact ⟨rfl, by omega, rfl, rfl⟩), trivial⟩, ⟨⟨rfl, (sx), (by exact ⟨rfl, fun j hj => by obtain rfl : j = 0 := (by omega); exact mt_vec (fun _ _ => rfl)⟩)⟩, trivial⟩, ⟨⟨(fun h => by first | exact ⟨rfl, rfl⟩ | exact absurd h (by decide)), trivial⟩, trivial⟩⟩
  · exact hd1
  intro k hi0
  refine sq (env2 := [(2, .cptr (algA p (n : Int) T fo)), (3, .cptr (vecA v)), (7, .own 907 0 (k + 1) 30)]) (ol2 := [(907, .one (.arr (k + 1) (fun _ => TB.zero 30)) (.arr (k + 1) (fun r => vecA (pw p n T v r))))]) rfl rfl ?_
  refine snd_block ?_
  apply sdX tokTB mixed [6] (by kernel_rfl) (by kernel_rfl)
  · intro RR hRR
    show WOps _ _ _ _ _ _ _
    refine wm ?_
    refine wm ?_
    refine w_len_o rfl rfl und61 ?_
    refine w_sub rfl rfl (by exact (w64 (by omega) (by omega)).trans (show ((k + 1 : Nat) : Int) - 1 = (k : Int) by omega)) ?_
    refine w_iao rfl rfl und61 kn30 ?_ ?_
    · exact ⟨by omega, by omega⟩
    first | refine w_ldc rfl kn30 (by constructor) (by exact sz30.symm) (by exact ag30.symm) ?_ | refine w_ldp rfl kn30 rfl (by constructor) (by exact sz30.symm) (by exact ag30.symm) ?_
    show LoadC Tryz.prog TB _ _ _
    refine wx_ldc rfl kn30 (by constructor) (by exact sz30.symm) (by exact ag30.symm) ?_
    show WOps _ _ _ _ _ _ _
    refine y_call rfl (ec (ec (ec exn))) (c_times (u := pw p n T v k) (v := v) (by omega) (by omega) hn6 hT8 (hPB k) hvB) ?_
    refine w_alloc kn30 rfl zr30 ?_
    refine w_stw rfl (by constructor) kn30 rfl (by exact trivial) (sx) (by exact sz30.symm) ?_
    exact hRR
  apply sr tokTB (by kernel_rfl)
  · intro RR hRR
    refine w_bsl und63 kn24 (by rw [sz24]; rfl) rfl trivial trivial rfl ?_
    refine wa ?_
    exact hRR
  refine snd_seq ?_
  apply sr tokTB (by kernel_rfl)
  · intro RR hRR
    refine y_call rfl (ec exn) (c_n) ?_
    refine wm ?_
    exact hRR
  refine snd_block ?_
  refine snd_loop (S := Nat) (fun x => ([(2, .cptr (algA p (n : Int) T fo)), (3, .cptr (vecA v)), (7, .own 907 0 (k + 1) 30), (8, .ptr 8 0 [] 0 (vecA (fun _ => 0))), (9, .own 905 0 x 24), (34, .int .i64 (n : Int)), (35, .int .i64 (x : Int))], [(905, .one (ZR (x)) (CO 1 (x) (fun _ => k + 1 + 1) 2)), (1, .many (famF (x) (fun _ => k + 1 + 1) (mpI p n T v (k + 1)))), (907, .one (.arr (k + 1) (fun _ => TB.zero 30)) (.arr (k + 1) (fun r => vecA (pw p n T v r)))), (8, .one (vecA (fun _ => 0)) (vecA (pw p n T v (k + 1))))])) (fun x => x ≤ n) (fun x => n - x) (0) (ρL [(905, 33), (907, 907), (8, 8)] 1 0 912) ?_ ?_ ?_
  · exact emb_famL (by decide) rfl rfl rfl rfl (fun j hj => absurd hj (by omega)) (fun h => absurd h (by omega)) (fun h => absurd h (by omega)) (fun r hr => absurd hr (by omega)) ⟨⟨_, rfl, ⟨rfl, fun _ => (sx)⟩, fun V => ⟨rfl, fun _ _ => mt_vec (fun _ _ => rfl)⟩⟩, ⟨_, rfl, (sx), fun V => mt_vec (fun _ _ => rfl)⟩, trivial⟩ ⟨m_calg, (m_cvec (fun _ _ => rfl)), (by first | exact ⟨rfl, rfl, rfl, rfl⟩ | exact ⟨rfl, by omega, rfl, rfl⟩), ⟨rfl, rfl, rfl, rfl, rfl⟩, (by first | exact ⟨rfl, rfl, rfl, rfl⟩ | exact ⟨rfl, by omega, rfl, rfl⟩), (mi), (mi), trivial⟩
  · exact Nat.zero_le _
  intro x hi2
  refine sq (env2 := [(2, .cptr (algA p (n : Int) T fo)), (3, .cptr (vecA v)), (7, .own 907 0 (k + 1) 30), (8, .ptr 8 0 [] 0 (vecA (fun _ => 0))), (9, .own 905 0 x 24), (34, .int .i64 (n : Int)), (35, .int .i64 (x : Int))]) (ol2 := [(905, .one (ZR (x)) (CO 1 (x) (fun _ => k + 1 + 1) 2)), (1, .many (famF (x) (fun _ => k + 1 + 1) (mpI p n T v (k + 1)))), (907, .one (.arr (k + 1) (fun _ => TB.zero 30)) (.arr (k + 1) (fun r => vecA (pw p n T v r)))), (8, .one (vecA (fun _ => 0)) (vecA (pw p n T v (k + 1))))]) rfl rfl ?_
  apply sr tokTB (by kernel_rfl)
  · intro RR hRR
    refine w_lss rfl rfl ?_
    exact hRR
  refine snd_seq ?_
  refine snd_cond _ rfl (fun hc36 => ?_) (fun hc36 => ?_)
  · try simp only [hcs] at hc36
    have lt_x : x < n := by omega
    refine snd_skip ?_
    refine snd_seq ?_
    refine snd_block ?_
    apply sr tokTB (by kernel_rfl)
    · intro RR hRR
      refine wm ?_
      refine wa ?_
      exact hRR
    apply sr tokTB (by kernel_rfl)
    · intro RR hRR
      refine w_bsl und24 kn2 (by rw [sz2]; rfl) rfl trivial trivial rfl ?_
      refine wa ?_
      exact hRR
    refine snd_seq ?_
    apply sr tokTB (by kernel_rfl)
    · intro RR hRR
      refine wm ?_
      refine w_len_o rfl rfl und61 ?_
      refine wm ?_
      exact hRR
    refine snd_block ?_
    refine snd_loop (S := Nat) (fun i => ([(2, .cptr (algA p (n : Int) T fo)), (3, .cptr (vecA v)), (7, .own 907 0 (k + 1) 30), (8, .ptr 8 0 [] 0 (vecA (fun _ => 0))), (9, .own 905 0 x 24), (10, .int .i64 (x : Int)), (11, .own 909 0 i 2), (34, .int .i64 (n : Int)), (35, .int .i64 (x : Int)), (39, .own 907 0 (k + 1) 30), (40, .int .i64 (((k + 1) : Nat) : Int)), (41, .int .i64 (i : Int))], [(905, .one (ZR (x)) (CO 1 (x) (fun _ => k + 1 + 1) 2)), (1, .many (famF (x) (fun _ => k + 1 + 1) (mpI p n T v (k + 1)))), (907, .one (.arr (k + 1) (fun _ => TB.zero 30)) (.arr (k + 1) (fun r => vecA (pw p n T v r)))), (8, .one (vecA (fun _ => 0)) (vecA (pw p n T v (k + 1)))), (909, .one (Z64 (i)) (C64 (i) ((mpI p n T v (k + 1)) x)))])) (fun i => i ≤ (k + 1)) (fun i => (k + 1) - i) (0) (ρL [(905, 905), (907, 907), (8, 8), (909, 38)] 1 x 912) ?_ ?_ ?_
    · exact emb_famL (by decide) rfl rfl rfl rfl (fun j hj hne => rfl) (fun h => absurd h (by omega)) (fun h => absurd h (by omega)) (fun r hr hne => ⟨_, famF_at (w := (fun _ => k + 1 + 1)) (F := (mpI p n T v (k + 1))) (by omega), fun V => mt_vec (fun _ _ => rfl)⟩) ⟨⟨_, rfl, ⟨rfl, fun _ => (sx)⟩, fun V => ⟨rfl, fun _ _ => mt_vec (fun _ _ => rfl)⟩⟩, ⟨_, rfl, (sx), fun V => mt_vec (fun _ _ => rfl)⟩, ⟨_, rfl, ⟨rfl, fun _ => trivial⟩, fun V => mt_arr0⟩, trivial⟩ ⟨m_calg, (m_cvec (fun _ _ => rfl)), (by first | exact ⟨rfl, rfl, rfl, rfl⟩ | exact ⟨rfl, by omega, rfl, rfl⟩), ⟨rfl, rfl, rfl, rfl, rfl⟩, (by first | exact ⟨rfl, rfl, rfl, rfl⟩ | exact ⟨rfl, by omega, rfl, rfl⟩), (mi), (by first | exact ⟨rfl, rfl, rfl, rfl⟩ | exact ⟨rfl, by omega, rfl, rfl⟩), (mi), (mi), (by first | exact ⟨rfl, rfl, rfl, rfl⟩ | exact ⟨rfl, by omega, rfl, rfl⟩), (mi), (mi), trivial⟩
    · exact Nat.zero_le _
    intro i hi4
    refine sq (env2 := [(2, .cptr (algA p (n : Int) T fo)), (3, .cptr (vecA v)), (7, .own 907 0 (k + 1) 30), (8, .ptr 8 0 [] 0 (vecA (fun _ => 0))), (9, .own 905 0 x 24), (10, .int .i64 (x : Int)), (11, .own 909 0 i 2), (34, .int .i64 (n : Int)), (35, .int .i64 (x : Int)), (39, .own 907 0 (k + 1) 30), (40, .int .i64 (((k + 1) : Nat) : Int)), (41, .int .i64 (i : Int))]) (ol2 := [(905, .one (ZR (x)) (CO 1 (x) (fun _ => k + 1 + 1) 2)), (1, .many (famF (x) (fun _ => k + 1 + 1) (mpI p n T v (k + 1)))), (907, .one (.arr (k + 1) (fun _ => TB.zero 30)) (.arr (k + 1) (fun r => vecA (pw p n T v r)))), (8, .one (vecA (fun _ => 0)) (vecA (pw p n T v (k + 1)))), (909, .one (Z64 (i)) (C64 (i) ((mpI p n T v (k + 1)) x)))]) rfl rfl ?_
    apply sr tokTB (by kernel_rfl)
    · intro RR hRR
      refine w_lss rfl rfl ?_
      exact hRR
    refine snd_seq ?_
    refine snd_cond _ rfl (fun hc42 => ?_) (fun hc42 => ?_)
    · try simp only [hcs] at hc42
      have lt_i : i < (k + 1) := by omega
      refine snd_skip ?_
      refine snd_seq ?_
      refine snd_block ?_
      apply sr tokTB (by kernel_rfl)
      · intro RR hRR
        refine w_iao rfl rfl und61 kn30 ?_ ?_
        · exact ⟨by omega, by omega⟩
        first | refine w_ldc rfl kn30 (by constructor) (by exact sz30.symm) (by exact ag30.symm) ?_ | refine w_ldp rfl kn30 rfl (by constructor) (by exact sz30.symm) (by exact ag30.symm) ?_
        refine w_alloc kn30 rfl zr30 ?_
        refine w_stw rfl (by constructor) kn30 rfl (by exact trivial) (sx) (by exact sz30.symm) ?_
        exact hRR
      apply lr tokTB (by kernel_rfl)
      · intro RR hRR
        refine wm ?_
        refine wm ?_
        refine w_iap rfl rfl und30 kn5 rfl (by exact sz5.symm) rfl ?_ ?_
        · exact ⟨by omega, by omega⟩
        first | refine w_ldc rfl kn5 (by constructor) (by exact sz5.symm) (by exact ag5.symm) ?_ | refine w_ldp rfl kn5 rfl (by constructor) (by exact sz5.symm) (by exact ag5.symm) ?_
        refine w_conv rfl und5 und2 (by exact w64b (hPB i) _) ?_
        refine w_bsl1 und24 kn2 (by rw [sz2]; rfl) rfl (by constructor) (by first | exact trivial | exact cel_cap2) (by exact sz2.symm) (by first | exact trivial | exact ssh_vec | exact ⟨rfl, fun _ => trivial⟩) ?_
        refine w_app_o und24 rfl rfl kn2 rfl rfl (fun C h => ⟨rfl, rfl, rfl, h⟩) (by rw [by2]; omega) (by omega) rfl ?_
        refine wa ?_
        exact hRR
      apply lr tokTB (by kernel_rfl)
      · intro RR hRR
        refine y_add rfl rfl ?_
        refine wm ?_
        exact hRR
      refine ⟨i + 1, (ρL [(905, 905), (907, 907), (8, 8), (909, 51)] 1 x 912), ?_, (by omega), (by dsimp only; omega)⟩
      exact emb_famL (by decide) rfl rfl rfl rfl (fun j hj hne => rfl) (fun h => absurd h (by omega)) (fun h => absurd h (by omega)) (fun r hr hne => ⟨_, famF_at (w := (fun _ => k + 1 + 1)) (F := (mpI p n T v (k + 1))) (by omega), fun V => mt_vec (fun _ _ => rfl)⟩) ⟨⟨_, rfl, ⟨rfl, fun _ => (sx)⟩, fun V => ⟨rfl, fun _ _ => mt_vec (fun _ _ => rfl)⟩⟩, ⟨_, rfl, (sx), fun V => mt_vec (fun _ _ => rfl)⟩, ⟨_, rfl, ⟨rfl, fun _ => trivial⟩, fun V => by exact mt_app (fun _ _ => rfl) (congrArg (AV.int .i64) (if_pos lt_i).symm)⟩, trivial⟩ ⟨m_calg, (m_cvec (fun _ _ => rfl)), (by first | exact ⟨rfl, rfl, rfl, rfl⟩ | exact ⟨rfl, by omega, rfl, rfl⟩), ⟨rfl, rfl, rfl, rfl, rfl⟩, (by first | exact ⟨rfl, rfl, rfl, rfl⟩ | exact ⟨rfl, by omega, rfl, rfl⟩), (mi), (by first | exact ⟨rfl, rfl, rfl, rfl⟩ | exact ⟨rfl, by omega, rfl, rfl⟩), (mi), (mi), (by first | exact ⟨rfl, rfl, rfl, rfl⟩ | exact ⟨rfl, by omega, rfl, rfl⟩), (mi), (mi), trivial⟩
    · try simp only [hcs] at hc42
      have ge_i : (k + 1) = i := by omega
      subst ge_i
      refine snd_exit ?_
      apply ldX tokTB mixed [] (by kernel_rfl) (by kernel_rfl)
      · intro RR hRR
        show WOps _ _ _ _ _ _ _
        refine wm ?_
        refine wm ?_
        refine wm ?_
        refine w_iap rfl rfl und30 kn5 rfl (by exact sz5.symm) rfl ?_ ?_
        · exact ⟨by omega, by omega⟩
        first | refine w_ldc rfl kn5 (by constructor) (by exact sz5.symm) (by exact ag5.symm) ?_ | refine w_ldp rfl kn5 rfl (by constructor) (by exact sz5.symm) (by exact ag5.symm) ?_
        refine w_conv rfl und5 und2 (by exact w64b (hPB (k + 1)) _) ?_
        refine w_neg rfl (by have := hPB (k + 1) x; exact (w64 (n := 0 - pw p n T v (k + 1) x) (by omega) (by omega)).trans (show (0 : Int) - pw p n T v (k + 1) x = - pw p n T v (k + 1) x by omega)) ?_
        refine w_fac rfl und32 rfl kn2 nz2 (by decide) rfl (by constructor) ?_
        refine w_ldc rfl kn2 (by constructor) (by exact sz2.symm) (by exact ag2.symm) ?_
        refine y_call rfl (ec (ec exn)) (c_rest (x := - pw p n T v (k + 1) x) (by omega) (by omega)) ?_
        refine w_bsl1 und24 kn2 (by rw [sz2]; rfl) rfl (by constructor) (by first | exact trivial | exact cel_cap2) (by exact sz2.symm) (by first | exact trivial | exact ssh_vec | exact ⟨rfl, fun _ => trivial⟩) ?_
        refine w_app_o und24 rfl rfl kn2 rfl rfl (fun C h => ⟨rfl, rfl, rfl, h⟩) (by rw [by2]; omega) (by omega) rfl ?_
        refine w_bsl1 und63 kn24 (by rw [sz24]; rfl) rfl (by constructor) (by first | exact trivial | exact cel_cap2) (by exact sz24.symm) (by first | exact trivial | exact ssh_vec | exact ⟨rfl, fun _ => trivial⟩) ?_
        refine w_app_o und63 rfl rfl kn24 rfl rfl (fun C h => ⟨rfl, rfl, rfl, h⟩) (by rw [by24]; omega) (by omega) rfl ?_
        refine wa ?_
        exact hRR
      apply lr tokTB (by kernel_rfl)
      · intro RR hRR
        refine y_add rfl rfl ?_
        refine wm ?_
        exact hRR
      refine ⟨x + 1, (ρL [(905, 66), (907, 907), (8, 8)] 1 x 64), ?_, (by omega), (by dsimp only; omega)⟩
      exact emb_famL (by decide) rfl rfl rfl rfl (fun j hj hne => appF_lt (by omega)) (fun h => (appF_ge (Nat.le_refl _) (by omega)).trans (by rw [Nat.sub_self]; rfl)) (fun h => ⟨_, rfl, fun V => by exact mt_app (fun _ _ => rfl) (congrArg (AV.int .i64) (if_neg (Nat.lt_irrefl _)).symm)⟩) (fun r hr hne => ⟨_, famF_at (w := (fun _ => k + 1 + 1)) (F := (mpI p n T v (k + 1))) (by omega), fun V => mt_vec (fun _ _ => rfl)⟩) ⟨⟨_, rfl, ⟨rfl, fun _ => (sx)⟩, fun V => ⟨rfl, fun _ _ => mt_vec (fun _ _ => rfl)⟩⟩, ⟨_, rfl, (sx), fun V => mt_vec (fun _ _ => rfl)⟩, trivial⟩ ⟨m_calg, (m_cvec (fun _ _ => rfl)), (by first | exact ⟨rfl, rfl, rfl, rfl⟩ | exact ⟨rfl, by omega, rfl, rfl⟩), ⟨rfl, rfl, rfl, rfl, rfl⟩, (by first | exact ⟨rfl, rfl, rfl, rfl⟩ | exact ⟨rfl, by omega, rfl, rfl⟩), (mi), (mi), trivial⟩
  · try simp only [hcs] at hc36
    have ge_x : n = x := by omega
    subst ge_x
    refine snd_exit ?_
    refine snd_seq ?_
    rcases Nat.lt_or_ge (k + 1) D with lt_k | ge_k
    · skip
      apply sr tokTB (by kernel_rfl)
      · intro RR hRR
        refine wm ?_
        refine wm ?_
        refine w_len_o rfl rfl und61 ?_
        refine w_fac rfl und32 rfl kn2 nz2 (by decide) rfl (by constructor) ?_
        refine w_ldc rfl kn2 (by constructor) (by exact sz2.symm) (by exact ag2.symm) ?_
        refine y_call rfl rfl ((c_solve_no (n := k + 1) (N := n) (S := (mpI p n T v (k + 1))) hv0.hp (by omega) (by omega) (hIB (k + 1)) (hD.i_n (k + 1) lt_k)).mt ⟨mt_fam0 (w := (fun _ => k + 1 + 1)) (F := (mpI p n T v (k + 1))) rfl (fun r hr => famF_at (w := (fun _ => k + 1 + 1)) hr) (fun _ _ => rfl) (fun _ _ _ _ => rfl), mt_int0, mt_int0, trivial⟩) ?_
        refine wm ?_
        refine we ?_
        refine we ?_
        refine wa ?_
        refine wa ?_
        exact hRR
      apply sr tokTB (by kernel_rfl)
      · intro RR hRR
        refine wm ?_
        exact hRR
      refine snd_cond_false rfl ?_
      refine snd_skip ?_
      apply lr tokTB (by kernel_rfl)
      · intro RR hRR
        refine wm ?_
        refine w_ldp rfl kn30 rfl (by constructor) (by exact sz30.symm) (by exact ag30.symm) ?_
        refine w_bsl1 und61 kn30 (by rw [sz30]; rfl) rfl (by constructor) (by first | exact trivial | exact cel_cap2) (by exact sz30.symm) (by first | exact trivial | exact ssh_vec | exact ⟨rfl, fun _ => trivial⟩) ?_
        refine w_app_o und61 rfl rfl kn30 rfl rfl (fun C h => ⟨rfl, rfl, rfl, h⟩) (by rw [by30]; omega) (by omega) rfl ?_
        refine wa ?_
        exact hRR
      refine ⟨k + 1, (fun k i => bif Nat.beq k 907 then (84, i) else (k, i)), ?_, (by omega), (by dsimp only; omega)⟩
      exact ⟨⟨m_calg, (m_cvec (fun _ _ => rfl)), (by first | exact ⟨rfl, rfl, rfl, rfl⟩ | exact ⟨rfl, by omega, rfl, rfl⟩), trivial⟩, ⟨⟨rfl, (sx), (by exact mt_app' rfl (fun _ _ => mt_vec (fun _ _ => rfl)) (mt_vec (fun _ _ => rfl)))⟩, trivial⟩, ⟨⟨(fun h => by first | exact ⟨rfl, rfl⟩ | exact absurd h (by decide)), trivial⟩, trivial⟩⟩
    · skip
      have hDk : D = k + 1 := by omega
      apply sr tokTB (by kernel_rfl)
      · intro RR hRR
        refine wm ?_
        refine wm ?_
        refine w_len_o rfl rfl und61 ?_
        refine w_fac rfl und32 rfl kn2 nz2 (by decide) rfl (by constructor) ?_
        refine w_ldc rfl kn2 (by constructor) (by exact sz2.symm) (by exact ag2.symm) ?_
        refine w_call rfl rfl ((c_solve_ok (n := k + 1) (N := n) (S := (mpI p n T v (k + 1))) hv0.hp (by omega) (by omega) (hIB (k + 1)) (hDk ▸ hD.iy)).mt ⟨mt_fam0 (w := (fun _ => k + 1 + 1)) (F := (mpI p n T v (k + 1))) rfl (fun r hr => famF_at (w := (fun _ => k + 1 + 1)) hr) (fun _ _ => rfl) (fun _ _ _ _ => rfl), mt_int0, mt_int0, trivial⟩) (.inl ⟨nr_pair trivial trivial, ⟨fun _ => trivial, trivial⟩⟩) rfl (by constructor) rfl ?_
        refine wm ?_
        refine we ?_
        refine we ?_
        refine wa ?_
        refine wa ?_
        exact hRR
      apply sr tokTB (by kernel_rfl)
      · intro RR hRR
        refine wm ?_
        exact hRR
      refine snd_cond_true rfl ?_
      apply sr tokTB (by kernel_rfl)
      · intro RR hRR
        refine wm ?_
        refine w_bsl1 und24 kn2 (by rw [sz2]; rfl) rfl (by constructor) (by first | exact trivial | exact cel_cap2) (by exact sz2.symm) (by first | exact trivial | exact ssh_vec | exact ⟨rfl, fun _ => trivial⟩) ?_
        refine w_app_o und24 rfl rfl kn2 rfl rfl (fun C h => ⟨rfl, rfl, rfl, h⟩) (by rw [by2]; omega) (by omega) rfl ?_
        refine wa ?_
        refine wa ?_
        exact hRR
      refine snd_ret ?_
      show retQ TB _ _ _ _ _ _
      subst hDk
      show retQ TB _ _ _ _ _ _
      exact rt_own_u rfl (fun V => rfl) rfl rfl (fun _ => trivial) (fun V i hi => by rcases Nat.lt_or_ge i (k + 1) with h | h; (rw [appF_lt h]; exact congrArg (AV.int .i64) ((hD.out i h).trans (if_pos h).symm)); (obtain rfl : i = k + 1 := (by omega); rw [appF_ge (Nat.le_refl _) (by omega), Nat.sub_self]; exact congrArg (AV.int .i64) (if_neg (Nat.lt_irrefl _)).symm))
end Go.Am

set_option maxRecDepth 4000
namespace Go.Am
attribute [local irreducible] retQ retQp
open Go.Proofs
theorem c_polyOk1 {p : Int} {f : Nat → Int} (hp0 : -1000000 ≤ p ∧ p ≤ 1000000) {i : Nat} : ACalls Tryz.prog TB 60 [.int .i64 (f i), .cptr (.int .i64 p)] (.bool (!(inB0 p f i))) [] := by
  refine acalls_of tokTB Tryz.func60 rfl rfl (Nat.le_of_ble_eq_true rfl) ?_
  apply sr tokTB (by kernel_rfl)
  · intro RR hRR
    refine wa ?_
    exact hRR
  apply sr tokTB (by kernel_rfl)
  · intro RR hRR
    refine wm ?_
    refine w_ldc rfl kn2 (by constructor) (by exact sz2.symm) (by exact ag2.symm) ?_
    refine y_sub rfl rfl ?_
    refine y_call rfl (ec (ec (ec exn))) (c_in) ?_
    refine w_not rfl ?_
    refine wa ?_
    exact hRR
  refine snd_ret ?_
  exact rt (T := TB) (fun V => rfl)
theorem c_prodOk1 {p : Int} {f : Nat → Int} (hp0 : -1000000 ≤ p ∧ p ≤ 1000000) {i : Nat} : ACalls Tryz.prog TB 56 [.int .i64 (f i), .cptr (.int .i64 p)] (.bool (!(inB0 p f i))) [] := by
  refine acalls_of tokTB Tryz.func56 rfl rfl (Nat.le_of_ble_eq_true rfl) ?_
  apply sr tokTB (by kernel_rfl)
  · intro RR hRR
    refine wa ?_
    exact hRR
  apply sr tokTB (by kernel_rfl)
  · intro RR hRR
    refine wm ?_
    refine w_ldc rfl kn2 (by constructor) (by exact sz2.symm) (by exact ag2.symm) ?_
    refine y_sub rfl rfl ?_
    refine y_call rfl (ec (ec (ec exn))) (c_in) ?_
    refine w_not rfl ?_
    refine wa ?_
    exact hRR
  refine snd_ret ?_
  exact rt (T := TB) (fun V => rfl)
theorem c_ContainsFunc1 {m : Nat} {f : Nat → Int} {g nc : Nat} {caps : Nat → AV} {P : Nat → Bool} (hm : m ≤ 1000000) (hcaps : (AV.fn g nc caps).closed) (hf : ∀ i, i < m → ACalls Tryz.prog TB g (.int .i64 (f i) :: capL nc caps) (.bool (P i)) []) : ACalls Tryz.prog TB 55 [rowA m f, .fn g nc caps] (.bool (decide (0 ≤ idxF P m))) [] := by
  refine acalls_of tokTB Tryz.func55 rfl rfl (Nat.le_of_ble_eq_true rfl) ?_
  apply sr tokTB (by kernel_rfl)
  · intro RR hRR
    refine wa ?_
    exact hRR
  apply sr tokTB (by kernel_rfl)
  · intro RR hRR
    refine wm ?_
    refine wm ?_
    refine y_call rfl (exc (by exact rfl) (exc (exp_closed hcaps) exn)) (c_IndexFunc1 hm hcaps hf) ?_
    refine w_geq rfl rfl ?_
    refine wa ?_
    exact hRR
  refine snd_ret ?_
  exact rt (T := TB) (fun V => by first | exact m_bool rfl | exact m_int rfl)
theorem c_polynomialOk {p : Int} {n : Nat} {f : Nat → Int} (hp0 : -1000000 ≤ p ∧ p ≤ 1000000) (hn : n ≤ 1000) : ACalls Tryz.prog TB 26 [.int .i64 p, rowA n f] (.bool (poB p n f)) [] := by
  refine acalls_of tokTB Tryz.func26 rfl rfl (Nat.le_of_ble_eq_true rfl) ?_
  apply sr tokTB (by kernel_rfl)
  · intro RR hRR
    refine w_boxc (HV.eq (by constructor)) (by exact trivial) ?_
    refine wa ?_
    exact hRR
  apply srG (env' := (4, .bool ((primeB p && (decide (1 ≤ (n : Int)) && decide ((n : Int) ≤ 6))) && !(decide (0 ≤ idxF (fun i => !(inB0 p f i)) n)))) :: (17, .bool ((primeB p && (decide (1 ≤ (n : Int)) && decide ((n : Int) ≤ 6))) && !(decide (0 ≤ idxF (fun i => !(inB0 p f i)) n)))) :: (16, .any) :: (15, .any) :: (14, .any) :: (13, .any) :: (12, .bool (primeB p && (decide (1 ≤ (n : Int)) && decide ((n : Int) ≤ 6)))) :: (11, .bool (primeB p && (decide (1 ≤ (n : Int)) && decide ((n : Int) ≤ 6)))) :: (10, .any) :: (9, .any) :: (8, .any) :: (7, .bool (primeB p)) :: (6, _) :: (5, _) :: _) tokTB (by kernel_rfl)
  · intro RR hRR
    refine w_ldc rfl kn2 (by constructor) (by exact sz2.symm) (by exact ag2.symm) ?_
    refine y_call rfl (ec exn) (c_isPrime) ?_
    refine wm ?_
    refine w_g rfl rfl (fun hg2 => ?_) (fun hg2 => ?_)
    · skip
      refine wm ?_
      refine w_g_on rfl rfl hg2 ?_
      first | refine w_len_r rfl rfl und24 ?_ | refine w_len_o rfl rfl und24 ?_ | refine w_len_n rfl rfl und24 ?_
      refine w_g_on rfl rfl hg2 ?_
      refine y_call rfl (ec (ec (ec exn))) (c_in) ?_
      refine w_pick_1 rfl hg2 (by constructor) ?_
      refine wm ?_
      refine w_g rfl rfl (fun hg7 => ?_) (fun hg7 => ?_)
      · skip
        refine wm ?_
        refine w_g_on rfl rfl hg7 ?_
        refine w_mkf1 (by constructor) ?_
        refine w_g_on rfl rfl hg7 ?_
        refine y_call rfl (exc (by exact rfl) (exc (exp_closed (closed_cap1 (a := .cptr (.int .i64 p)) trivial)) exn)) (c_ContainsFunc1 (g := 60) (nc := 1) (caps := (cap1 (.cptr (.int .i64 p)))) (P := fun i => !(inB0 p f i)) (by omega) (closed_cap1 (a := .cptr (.int .i64 p)) trivial) (fun i _ => c_polyOk1 hp0)) ?_
        refine w_g_on rfl rfl hg7 ?_
        refine w_not rfl ?_
        refine w_pick_1 rfl hg7 (by constructor) ?_
        refine wa ?_
        try simp only [Int.toNat_natCast] at hg2 hg7
        exact hRR _ (EL.cons (.inr (by first | rfl | (simp only [hg2, hg7, els]; done) | (simp only [hg2, hg7, els]; rfl) | (simp [hg2, hg7]; done) | (clear hRR; simp_all; done) | (exfalso; simp only [hg2, Bool.not_false, Bool.not_true, reduceCtorEq] at hg7; done))) (EL.cons (.inr (by first | rfl | (simp only [hg2, hg7, els]; done) | (simp only [hg2, hg7, els]; rfl) | (simp [hg2, hg7]; done) | (clear hRR; simp_all; done) | (exfalso; simp only [hg2, Bool.not_false, Bool.not_true, reduceCtorEq] at hg7; done))) (EL.cons (.inl rfl) (EL.cons (.inl rfl) (EL.cons (.inl rfl) (EL.cons (.inl rfl) (EL.cons (.inr (by first | rfl | (simp only [hg2, hg7, els]; done) | (simp only [hg2, hg7, els]; rfl) | (simp [hg2, hg7]; done) | (clear hRR; simp_all; done) | (exfalso; simp only [hg2, Bool.not_false, Bool.not_true, reduceCtorEq] at hg7; done))) (EL.cons (.inr (by first | rfl | (simp only [hg2, hg7, els]; done) | (simp only [hg2, hg7, els]; rfl) | (simp [hg2, hg7]; done) | (clear hRR; simp_all; done) | (exfalso; simp only [hg2, Bool.not_false, Bool.not_true, reduceCtorEq] at hg7; done))) (EL.cons (.inl rfl) (EL.cons (.inl rfl) (EL.cons (.inl rfl) (EL.cons (.inr (by first | rfl | (simp only [hg2, hg7, els]; done) | (simp only [hg2, hg7, els]; rfl) | (simp [hg2, hg7]; done) | (clear hRR; simp_all; done) | (exfalso; simp only [hg2, Bool.not_false, Bool.not_true, reduceCtorEq] at hg7; done))) (EL.cons (.inr rfl) (EL.cons (.inr rfl) (EL.refl _)))))))))))))))
      · have hg7 := eq_false_of_ne_true hg7
        refine w_g_off rfl rfl (by rw [hg7]; decide) ?_
        refine w_g_off rfl rfl (by rw [hg7]; decide) ?_
        refine w_g_off rfl rfl (by rw [hg7]; decide) ?_
        refine w_pick_0 rfl hg7 (by constructor) ?_
        refine wa ?_
        try simp only [Int.toNat_natCast] at hg2 hg7
        exact hRR _ (EL.cons (.inr (by first | rfl | (simp only [hg2, hg7, els]; done) | (simp only [hg2, hg7, els]; rfl) | (simp [hg2, hg7]; done) | (clear hRR; simp_all; done) | (exfalso; simp only [hg2, Bool.not_false, Bool.not_true, reduceCtorEq] at hg7; done))) (EL.cons (.inr (by first | rfl | (simp only [hg2, hg7, els]; done) | (simp only [hg2, hg7, els]; rfl) | (simp [hg2, hg7]; done) | (clear hRR; simp_all; done) | (exfalso; simp only [hg2, Bool.not_false, Bool.not_true, reduceCtorEq] at hg7; done))) (EL.cons (.inl rfl) (EL.cons (.inl rfl) (EL.cons (.inl rfl) (EL.cons (.inl rfl) (EL.cons (.inr (by first | rfl | (simp only [hg2, hg7, els]; done) | (simp only [hg2, hg7, els]; rfl) | (simp [hg2, hg7]; done) | (clear hRR; simp_all; done) | (exfalso; simp only [hg2, Bool.not_false, Bool.not_true, reduceCtorEq] at hg7; done))) (EL.cons (.inr (by first | rfl | (simp only [hg2, hg7, els]; done) | (simp only [hg2, hg7, els]; rfl) | (simp [hg2, hg7]; done) | (clear hRR; simp_all; done) | (exfalso; simp only [hg2, Bool.not_false, Bool.not_true, reduceCtorEq] at hg7; done))) (EL.cons (.inl rfl) (EL.cons (.inl rfl) (EL.cons (.inl rfl) (EL.cons (.inr (by first | rfl | (simp only [hg2, hg7, els]; done) | (simp only [hg2, hg7, els]; rfl) | (simp [hg2, hg7]; done) | (clear hRR; simp_all; done) | (exfalso; simp only [hg2, Bool.not_false, Bool.not_true, reduceCtorEq] at hg7; done))) (EL.cons (.inr rfl) (EL.cons (.inr rfl) (EL.refl _)))))))))))))))
    · have hg2 := eq_false_of_ne_true hg2
      refine w_g_off rfl rfl (by rw [hg2]; decide) ?_
      refine w_g_off rfl rfl (by rw [hg2]; decide) ?_
      refine w_pick_0 rfl hg2 (by constructor) ?_
      refine wm ?_
      refine w_g_off rfl rfl (by decide) ?_
      refine w_g_off rfl rfl (by decide) ?_
      refine w_g_off rfl rfl (by decide) ?_
      refine w_g_off rfl rfl (by decide) ?_
      refine w_pick_0 rfl rfl (by constructor) ?_
      refine wa ?_
      try simp only [Int.toNat_natCast] at hg2
      exact hRR _ (EL.cons (.inr (by first | rfl | (simp only [hg2, els]; done) | (simp only [hg2, els]; rfl) | (simp [hg2]; done) | (clear hRR; simp_all; done))) (EL.cons (.inr (by first | rfl | (simp only [hg2, els]; done) | (simp only [hg2, els]; rfl) | (simp [hg2]; done) | (clear hRR; simp_all; done))) (EL.cons (.inl rfl) (EL.cons (.inl rfl) (EL.cons (.inl rfl) (EL.cons (.inl rfl) (EL.cons (.inr (by first | rfl | (simp only [hg2, els]; done) | (simp only [hg2, els]; rfl) | (simp [hg2]; done) | (clear hRR; simp_all; done))) (EL.cons (.inr (by first | rfl | (simp only [hg2, els]; done) | (simp only [hg2, els]; rfl) | (simp [hg2]; done) | (clear hRR; simp_all; done))) (EL.cons (.inl rfl) (EL.cons (.inl rfl) (EL.cons (.inl rfl) (EL.cons (.inr (by first | rfl | (simp only [hg2, els]; done) | (simp only [hg2, els]; rfl) | (simp [hg2]; done) | (clear hRR; simp_all; done))) (EL.cons (.inr rfl) (EL.cons (.inr rfl) (EL.refl _)))))))))))))))
  refine snd_ret ?_
  exact rt (T := TB) (fun V => rfl)
theorem c_Clone1 {n : Nat} {f : Nat → Int} (h0 : 0 < n) (hn : n ≤ 1000000) : ACalls Tryz.prog TB 62 [rowA n f] (.own 0 0 n 2) (HR n f) := by
  refine acalls_of tokTB Tryz.func62 rfl rfl (Nat.le_of_ble_eq_true rfl) ?_
  apply sr tokTB (by kernel_rfl)
  · intro RR hRR
    refine wa ?_
    exact hRR
  refine snd_seq ?_
  apply sr tokTB (by kernel_rfl)
  · intro RR hRR
    refine wm ?_
    refine w_reqn rfl rfl (by omega) und24 ?_
    exact hRR
  refine snd_cond_false rfl ?_
  refine snd_skip ?_
  apply sr tokTB (by kernel_rfl)
  · intro RR hRR
    refine w_bsl und24 kn2 (by rw [sz2]; rfl) rfl trivial trivial rfl ?_
    refine wm ?_
    refine w_app_o und24 rfl rfl kn2 rfl rfl (fun C h => ⟨by omega, fun _ => trivial, h⟩) (by rw [by2]; omega) (by omega) rfl ?_
    refine wa ?_
    exact hRR
  refine snd_ret ?_
  show retQ TB _ _ _ _ _ _
  exact rt_own rfl rfl (by omega) (fun _ => trivial) (fun V i hi => by rw [appF_ge (Nat.zero_le _) (by omega)]; rfl)
theorem c_l09Poly {p : Int} {n : Nat} {f : Nat → Int} (hp0 : -1000000 ≤ p ∧ p ≤ 1000000) (hn : n ≤ 1000) : ACalls Tryz.prog TB 29 [.int .i64 p, rowA n f] (.int .i64 (poC p n f)) [] := by
  refine acalls_of tokTB Tryz.func29 rfl rfl (Nat.le_of_ble_eq_true rfl) ?_
  apply sr tokTB (by kernel_rfl)
  · intro RR hRR
    refine wa ?_
    exact hRR
  refine snd_seq ?_
  apply srG (env' := (14, .bool (!(primeB p) || !(decide (1 ≤ (n : Int)) && decide ((n : Int) ≤ 6)))) :: (13, .any) :: (12, .any) :: (11, .any) :: (10, .any) :: (9, .bool (!(primeB p))) :: (8, _) :: (7, _) :: (6, _) :: _) tokTB (by kernel_rfl)
  · intro RR hRR
    refine wm ?_
    refine y_call rfl (ec exn) (c_l01Prime) ?_
    refine w_not rfl ?_
    refine wm ?_
    refine w_g rfl rfl (fun hg3 => ?_) (fun hg3 => ?_)
    · skip
      refine wm ?_
      refine w_g_on rfl rfl hg3 ?_
      first | refine w_len_r rfl rfl und24 ?_ | refine w_len_o rfl rfl und24 ?_ | refine w_len_n rfl rfl und24 ?_
      refine w_g_on rfl rfl hg3 ?_
      refine y_call rfl (ec (ec (ec exn))) (c_l01In) ?_
      refine w_g_on rfl rfl hg3 ?_
      refine w_not rfl ?_
      refine w_pick_0 rfl hg3 (by constructor) ?_
      try simp only [Int.toNat_natCast] at hg3
      exact hRR _ (EL.cons (.inr (by first | rfl | (simp only [hg3, els]; done) | (simp only [hg3, els]; rfl) | (simp [hg3]; done) | (clear hRR; simp_all; done))) (EL.cons (.inl rfl) (EL.cons (.inl rfl) (EL.cons (.inl rfl) (EL.cons (.inl rfl) (EL.cons (.inr (by first | rfl | (simp only [hg3, els]; done) | (simp only [hg3, els]; rfl) | (simp [hg3]; done) | (clear hRR; simp_all; done))) (EL.cons (.inr rfl) (EL.cons (.inr rfl) (EL.cons (.inr rfl) (EL.refl _))))))))))
    · have hg3 := eq_true_of_ne_false hg3
      refine w_g_off rfl rfl (by rw [hg3]; decide) ?_
      refine w_g_off rfl rfl (by rw [hg3]; decide) ?_
      refine w_g_off rfl rfl (by rw [hg3]; decide) ?_
      refine w_pick_1 rfl hg3 (by constructor) ?_
      try simp only [Int.toNat_natCast] at hg3
      exact hRR _ (EL.cons (.inr (by first | rfl | (simp only [hg3, els]; done) | (simp only [hg3, els]; rfl) | (simp [hg3]; done) | (clear hRR; simp_all; done))) (EL.cons (.inl rfl) (EL.cons (.inl rfl) (EL.cons (.inl rfl) (EL.cons (.inl rfl) (EL.cons (.inr (by first | rfl | (simp only [hg3, els]; done) | (simp only [hg3, els]; rfl) | (simp [hg3]; done) | (clear hRR; simp_all; done))) (EL.cons (.inr rfl) (EL.cons (.inr rfl) (EL.cons (.inr rfl) (EL.refl _))))))))))
  refine snd_cond _ rfl (fun hc14 => ?_) (fun hc14 => ?_)
  · skip
    apply sr tokTB (by kernel_rfl)
    · intro RR hRR
      refine wa ?_
      exact hRR
    refine snd_ret ?_
    exact rt (T := TB) (fun V => m_int (poC_f (fun h => by rw [h.1, decide_eq_true (show 1 ≤ (n : Int) by have := h.2.1; omega), decide_eq_true (show (n : Int) ≤ 6 by have := h.2.1; omega)] at hc14; exact absurd hc14 (by decide))).symm)
  · skip
    refine snd_skip ?_
    refine snd_seq ?_
    apply sr tokTB (by kernel_rfl)
    · intro RR hRR
      refine wa ?_
      exact hRR
    refine snd_block ?_
    refine snd_loop (S := Nat) (fun i => ([(0, .int .i64 p), (1, rowA n f), (5, .int .i64 (i : Int))], [])) (fun i => i ≤ n ∧ (∀ j, j < i → 0 ≤ f j ∧ f j ≤ p - 1)) (fun i => n - i) (0) ρ0 ?_ ?_ ?_
    · exact ⟨⟨(mi), (by first | exact mt_row (V := _) (fun _ _ => rfl) | exact mt_fz (by exact trivial) rfl (fun _ _ => rfl)), (mi), trivial⟩, trivial, trivial⟩
    · exact ⟨Nat.zero_le _, fun j hj => absurd hj (Nat.not_lt_zero _)⟩
    intro i hi0
    refine sq (env2 := [(0, .int .i64 p), (1, rowA n f), (5, .int .i64 (i : Int))]) (ol2 := []) rfl rfl ?_
    obtain ⟨le_i, inv_i⟩ := hi0
    refine snd_seq ?_
    apply sr tokTB (by kernel_rfl)
    · intro RR hRR
      refine wm ?_
      refine wm ?_
      refine w_len_r rfl rfl und24 ?_
      refine w_lss rfl rfl ?_
      exact hRR
    refine snd_cond _ rfl (fun hc18 => ?_) (fun hc18 => ?_)
    · try simp only [hcs] at hc18
      have lt_i : i < n := by omega
      refine snd_skip ?_
      refine snd_seq ?_
      refine snd_block ?_
      apply sr tokTB (by kernel_rfl)
      · intro RR hRR
        refine wm ?_
        refine wm ?_
        refine w_iar rfl rfl und24 kn2 (by exact sz2.symm) ?_ rfl ?_
        · exact ⟨by omega, by omega⟩
        first | refine w_ldc rfl kn2 (by constructor) (by exact sz2.symm) (by exact ag2.symm) ?_ | refine w_ldp rfl kn2 rfl (by constructor) (by exact sz2.symm) (by exact ag2.symm) ?_
        refine wm ?_
        refine y_sub rfl rfl ?_
        refine y_call rfl (ec (ec (ec exn))) (c_l01In) ?_
        refine w_not rfl ?_
        exact hRR
      refine snd_cond _ rfl (fun hc28 => ?_) (fun hc28 => ?_)
      · skip
        apply sr tokTB (by kernel_rfl)
        · intro RR hRR
          refine wa ?_
          exact hRR
        refine snd_ret ?_
        exact rt (T := TB) (fun V => m_int (poC_f (fun h => by have h2 := h.2.2 i (by omega); simp only [Int.toNat_natCast] at hc28; rw [decide_eq_true h2.1, decide_eq_true h2.2] at hc28; exact absurd hc28 (by decide))).symm)
      · skip
        refine snd_skip ?_
        apply lr tokTB (by kernel_rfl)
        · intro RR hRR
          refine wm ?_
          refine y_add rfl rfl ?_
          refine wa ?_
          exact hRR
        refine ⟨i + 1, ρ0, ?_, ⟨by omega, all_step inv_i (inB0_t.1 (by simp only [Int.toNat_natCast] at hc28; simpa [inB0] using hc28))⟩, (by dsimp only; omega)⟩
        exact ⟨⟨(mi), (by first | exact mt_row (V := _) (fun _ _ => rfl) | exact mt_fz (by exact trivial) rfl (fun _ _ => rfl)), (mi), trivial⟩, trivial, trivial⟩
    · try simp only [hcs] at hc18
      have ge_i : n = i := by omega
      subst ge_i
      refine snd_exit ?_
      apply sr tokTB (by kernel_rfl)
      · intro RR hRR
        refine wa ?_
        exact hRR
      refine snd_ret ?_
      exact rt (T := TB) (fun V => m_int (poC_t (by simp at hc14; exact ⟨hc14.1, ⟨by omega, by omega⟩, inv_i⟩)).symm)
theorem c_shifted_1 {p : Int} {n : Nat} {c v : Nat → Int} (hp : 2 ≤ p ∧ p ≤ 13) (hn : 1 ≤ n ∧ n ≤ 6) (h1 : n = 1) (hc : B8 c) (hv : B8 v) : ACalls Tryz.prog TB 28 [.int .i64 p, rowA n c, rowA n v] (.own 0 0 n 2) (HR n (lessF p (shL v) c (v (n - 1)))) := by
  have hv1 := hv (n - 1)
  refine acalls_of tokTB Tryz.func28 rfl rfl (Nat.le_of_ble_eq_true rfl) ?_
  apply sr tokTB (by kernel_rfl)
  · intro RR hRR
    refine wa ?_
    exact hRR
  apply sr tokTB (by kernel_rfl)
  · intro RR hRR
    refine wm ?_
    refine wm ?_
    refine w_len_r rfl rfl und24 ?_
    refine w_sub rfl rfl (by exact (w64 (n := (n : Int) - 1) (by omega) (by omega)).trans (show (n : Int) - 1 = ((n - 1 : Nat) : Int) by omega)) ?_
    refine w_iar rfl rfl und24 kn2 (by exact sz2.symm) ?_ rfl ?_
    · exact ⟨by omega, by omega⟩
    first | refine w_ldc rfl kn2 (by constructor) (by exact sz2.symm) (by exact ag2.symm) ?_ | refine w_ldp rfl kn2 rfl (by constructor) (by exact sz2.symm) (by exact ag2.symm) ?_
    refine w_bsl1 und24 kn2 (by rw [sz2]; rfl) rfl (by constructor) (by first | exact trivial | exact cel_cap2) (by exact sz2.symm) (by first | exact trivial | exact ssh_vec | exact ⟨rfl, fun _ => trivial⟩) ?_
    refine wa ?_
    refine wa ?_
    exact hRR
  apply sr tokTB (by kernel_rfl)
  · intro RR hRR
    refine wm ?_
    refine wm ?_
    refine wm ?_
    refine w_len_r rfl rfl und24 ?_
    refine w_sub rfl rfl (by exact (w64 (n := (n : Int) - 1) (by omega) (by omega)).trans (show (n : Int) - 1 = ((n - 1 : Nat) : Int) by omega)) ?_
    refine w_sl_rh rfl rfl und24 kn2 (by exact sz2.symm) (by omega) ?_
    refine w_app_0 und24 rfl rfl kn2 (by show AV.ro (n - 1) _ = _; rw [h1]) ?_
    refine wa ?_
    exact hRR
  apply sr tokTB (by kernel_rfl)
  · intro RR hRR
    refine wm ?_
    refine wm ?_
    refine wm ?_
    refine wm ?_
    refine w_call rfl rfl ((c_lessTimes (m := n) (f := shL v) (g := c) (k := v (n - 1)) (p := p) (by omega) (by omega) (by omega) (fun j => by unfold shL; split; (constructor <;> decide); exact hv _) hc (by omega)).mt ⟨mt_rowX rfl (by omega) (fun j hj => by obtain rfl : j = 0 := (by omega); exact rfl), mt_expc (v := rowA n c) (fun _ => trivial) (by simp), mt_int0, mt_int0, trivial⟩) (.inl ⟨trivial, ⟨fun _ => trivial, trivial⟩⟩) rfl (by constructor) rfl ?_
    refine wa ?_
    exact hRR
  refine snd_ret ?_
  show retQ TB _ _ _ _ _ _
  exact rt_own rfl rfl rfl (fun _ => trivial) (fun V i hi => rfl)
theorem c_shifted_2 {p : Int} {n : Nat} {c v : Nat → Int} (hp : 2 ≤ p ∧ p ≤ 13) (hn : 1 ≤ n ∧ n ≤ 6) (h1 : 2 ≤ n) (hc : B8 c) (hv : B8 v) : ACalls Tryz.prog TB 28 [.int .i64 p, rowA n c, rowA n v] (.own 0 0 n 2) (HR n (lessF p (shL v) c (v (n - 1)))) := by
  have hv1 := hv (n - 1)
  refine acalls_of tokTB Tryz.func28 rfl rfl (Nat.le_of_ble_eq_true rfl) ?_
  apply sr tokTB (by kernel_rfl)
  · intro RR hRR
    refine wa ?_
    exact hRR
  apply sr tokTB (by kernel_rfl)
  · intro RR hRR
    refine wm ?_
    refine wm ?_
    refine w_len_r rfl rfl und24 ?_
    refine w_sub rfl rfl (by exact (w64 (n := (n : Int) - 1) (by omega) (by omega)).trans (show (n : Int) - 1 = ((n - 1 : Nat) : Int) by omega)) ?_
    refine w_iar rfl rfl und24 kn2 (by exact sz2.symm) ?_ rfl ?_
    · exact ⟨by omega, by omega⟩
    first | refine w_ldc rfl kn2 (by constructor) (by exact sz2.symm) (by exact ag2.symm) ?_ | refine w_ldp rfl kn2 rfl (by constructor) (by exact sz2.symm) (by exact ag2.symm) ?_
    refine w_bsl1 und24 kn2 (by rw [sz2]; rfl) rfl (by constructor) (by first | exact trivial | exact cel_cap2) (by exact sz2.symm) (by first | exact trivial | exact ssh_vec | exact ⟨rfl, fun _ => trivial⟩) ?_
    refine wa ?_
    refine wa ?_
    exact hRR
  apply sr tokTB (by kernel_rfl)
  · intro RR hRR
    refine wm ?_
    refine wm ?_
    refine wm ?_
    refine w_len_r rfl rfl und24 ?_
    refine w_sub rfl rfl (by exact (w64 (n := (n : Int) - 1) (by omega) (by omega)).trans (show (n : Int) - 1 = ((n - 1 : Nat) : Int) by omega)) ?_
    refine w_sl_rh rfl rfl und24 kn2 (by exact sz2.symm) (by omega) ?_
    refine w_app_o und24 rfl rfl kn2 rfl rfl (fun C h => ⟨by omega, fun _ => trivial, h⟩) (by rw [by2]; omega) (by omega) rfl ?_
    refine wa ?_
    exact hRR
  apply sr tokTB (by kernel_rfl)
  · intro RR hRR
    refine wm ?_
    refine wm ?_
    refine wm ?_
    refine wm ?_
    refine w_call rfl rfl ((c_lessTimes (m := n) (f := shL v) (g := c) (k := v (n - 1)) (p := p) (by omega) (by omega) (by omega) (fun j => by unfold shL; split; (constructor <;> decide); exact hv _) hc (by omega)).mt ⟨mt_rowX rfl (by omega) (fun j hj => by rcases Nat.eq_zero_or_pos j with q | q; (subst q; rw [appF_lt (by omega)]; exact rfl); (rw [appF_ge q (by omega)]; unfold shL; rw [if_neg (by omega)])), mt_expc (v := rowA n c) (fun _ => trivial) (by simp), mt_int0, mt_int0, trivial⟩) (.inl ⟨trivial, ⟨fun _ => trivial, trivial⟩⟩) rfl (by constructor) rfl ?_
    refine wa ?_
    exact hRR
  refine snd_ret ?_
  show retQ TB _ _ _ _ _ _
  exact rt_own rfl rfl rfl (fun _ => trivial) (fun V i hi => rfl)
theorem c_shifted {p : Int} {n : Nat} {c v : Nat → Int} (hp : 2 ≤ p ∧ p ≤ 13) (hn : 1 ≤ n ∧ n ≤ 6) (hc : B8 c) (hv : B8 v) : ACalls Tryz.prog TB 28 [.int .i64 p, rowA n c, rowA n v] (.own 0 0 n 2) (HR n (lessF p (shL v) c (v (n - 1)))) := by
  by_cases h : n = 1
  · exact c_shifted_1 hp hn h hc hv
  · exact c_shifted_2 hp hn (by omega) hc hv
end Go.Am

set_option maxRecDepth 4000
namespace Go.Am
attribute [local irreducible] retQ retQp
open Go.Proofs
theorem c_iPolyAlg_ok {p : Int} {n : Nat} {c : Nat → Int} (h : PO p n c) : ACalls Tryz.prog TB 6 [.int .i64 p, rowA n c] (.tup 2 (pairA (algA p (n : Int) (polT p n (cutF c n)) (polO n)) (.int .i64 0))) [] := by
  have hpb := primeB_bd h.1
  have hn := h.2.1
  have hcB : B8 (cutF c n) := B8_of (by omega) (cut_Bp h)
  have hrb : ∀ k j, 0 ≤ rs p n (cutF c n) k j ∧ rs p n (cutF c n) k j < p := fun k j => (rs_VV (by omega) (by omega) k).b j
  have hrB : ∀ k, B8 (rs p n (cutF c n) k) := fun k => B8_of (by omega) (hrb k)
  have hcr : ∀ k, cutF (rs p n (cutF c n) k) n = rs p n (cutF c n) k := cut_rs (by omega) (by omega)
  refine acalls_of tokTB Tryz.func6 rfl rfl (Nat.le_of_ble_eq_true rfl) ?_
  apply sr tokTB (by kernel_rfl)
  · intro RR hRR
    refine w_alloc kn32 rfl zr32 ?_
    refine wa ?_
    exact hRR
  refine snd_seq ?_
  apply sr tokTB (by kernel_rfl)
  · intro RR hRR
    refine wm ?_
    refine wm ?_
    refine y_call rfl (ec (ec exn)) (((poB_PO (p := p) (n := n) (f := c)).trans (decide_eq_true h)) ▸ c_polynomialOk (f := c) (by omega) (by omega)) ?_
    refine w_not rfl ?_
    exact hRR
  refine snd_cond_false (by exact rfl) ?_
  refine snd_skip ?_
  apply sr tokTB (by kernel_rfl)
  · intro RR hRR
    refine wm ?_
    refine w_len_r rfl rfl und24 ?_
    refine wa ?_
    exact hRR
  apply sr tokTB (by kernel_rfl)
  · intro RR hRR
    refine wm ?_
    refine wm ?_
    refine w_bld_s kn32 zr32 und32 rfl (by exact ⟨rfl, kn2, sz2, rfl, kn2, sz2, rfl, kn29, sz29, rfl, kn30, sz30, trivial⟩) (by exact ⟨⟨by decide, trivial, rfl⟩, ⟨by decide, trivial, rfl⟩, trivial⟩) (c := algF p (n : Int) (fun _ _ _ => 0) (fun _ => 0)) (funext fun i => by match i with | 0 => rfl | 1 => rfl | 2 => rfl | 3 => rfl | i + 4 => rfl) ?_
    refine w_alloc kn32 rfl zr32 ?_
    refine w_stw rfl (by constructor) kn32 rfl (by exact trivial) (sx) (by exact sz32.symm) ?_
    exact hRR
  apply sr tokTB (by kernel_rfl)
  · intro RR hRR
    refine wm ?_
    refine w_sub rfl rfl (by exact (w64 (n := (n : Int) - 1) (by omega) (by omega)).trans (show (n : Int) - 1 = ((n - 1 : Nat) : Int) by omega)) ?_
    refine w_fap rfl und32 rfl kn30 nz30 rfl (by decide) rfl ?_
    first | refine w_iac rfl rfl und30 kn5 (by exact sz5.symm) ?_ rfl ?_ | refine w_iap rfl rfl und30 kn5 rfl (by exact sz5.symm) rfl ?_ ?_
    · exact ⟨by omega, by omega⟩
    first | refine w_stw rfl (by constructor) kn5 rfl (by exact trivial) (sx) (by exact sz5.symm) ?_ | refine w_sti rfl rfl kn5 rfl (by exact trivial) (by exact sz5.symm) ?_ | refine w_store rfl (HV.eq (by constructor)) kn5 rfl (by exact trivial) (sx) (by exact sz5.symm) (pin_) ?_ | refine w_store rfl (HV.eq (by constructor)) kn5 rfl (by exact trivial) (by exact trivial) (by exact sz5.symm) rfl ?_
    exact hRR
  apply sr tokTB (by kernel_rfl)
  · intro RR hRR
    refine wm ?_
    refine w_mks und24 rfl rfl kn2 rfl (by omega) (by rw [by2]; omega) (by omega) rfl ?_
    refine wa ?_
    exact hRR
  apply sr tokTB (by kernel_rfl)
  · intro RR hRR
    refine wm ?_
    refine w_iao rfl rfl und24 kn2 ?_ ?_
    · exact ⟨by omega, by omega⟩
    first | refine w_stw rfl (by constructor) kn2 rfl (by exact trivial) (sx) (by exact sz2.symm) ?_ | refine w_sti rfl rfl kn2 rfl (by exact trivial) (by exact sz2.symm) ?_ | refine w_store rfl (HV.eq (by constructor)) kn2 rfl (by exact trivial) (sx) (by exact sz2.symm) (pin_) ?_ | refine w_store rfl (HV.eq (by constructor)) kn2 rfl (by exact trivial) (by exact trivial) (by exact sz2.symm) rfl ?_
    exact hRR
  refine snd_seq ?_
  apply sr tokTB (by kernel_rfl)
  · intro RR hRR
    refine wm ?_
    refine w_mul rfl rfl (by exact w64 (n := 2 * (n : Int)) (by omega) (by omega)) ?_
    refine w_sub rfl rfl (by exact (w64 (n := 2 * (n : Int) - 1) (by omega) (by omega)).trans (show 2 * (n : Int) - 1 = ((2 * n - 1 : Nat) : Int) by omega)) ?_
    refine wm ?_
    exact hRR
  refine snd_block ?_
  refine snd_loop (S := Nat) (fun k => ([(0, .int .i64 p), (1, rowA n c), (4, .ptr 4 0 [] 0 (algA 0 0 (fun _ _ _ => 0) (fun _ => 0))), (6, .int .i64 (n : Int)), (7, .ptr 7 0 [] 0 (algA 0 0 (fun _ _ _ => 0) (fun _ => 0))), (8, .own 908 0 n 2), (32, .int .i64 ((2 * n - 1 : Nat) : Int)), (33, .int .i64 (k : Int))], [(4, .one (algA 0 0 (fun _ _ _ => 0) (fun _ => 0)) (algA 0 0 (fun _ _ _ => 0) (fun _ => 0))), (7, .one (algA 0 0 (fun _ _ _ => 0) (fun _ => 0)) (algA p (n : Int) (polK p n (cutF c n) (k) (0)) (polO n))), (908, .one (Z64 n) (C64 n (rs p n (cutF c n) (k))))])) (fun k => k ≤ (2 * n - 1)) (fun k => (2 * n - 1) - k) (0) (fun k i => bif Nat.beq k 908 then (27, i) else (k, i)) ?_ ?_ ?_
  · exact ⟨⟨(mi), (by first | exact mt_row (V := _) (fun _ _ => rfl) | exact mt_fz (by exact ⟨(ne_fst rfl), (ne_fst rfl), (ne_fst rfl), trivial⟩) rfl (fun _ _ => rfl)), ⟨rfl, rfl, rfl, rfl, rfl⟩, (mi), ⟨rfl, rfl, rfl, rfl, rfl⟩, (by first | exact ⟨rfl, rfl, rfl, rfl⟩ | exact ⟨rfl, by omega, rfl, rfl⟩), (mi), (mi), trivial⟩, ⟨⟨rfl, (sx), (by first | exact mt_vec (fun _ _ => rfl) | exact mt_mat (fun _ _ _ _ => rfl) | exact mt_tab (fun _ _ _ _ _ _ => rfl) | exact mt_arr0 | exact mt_app (fun _ _ => rfl) rfl | exact ⟨rfl, fun _ _ => mt_row (fun _ _ => rfl)⟩ | exact Mt_closed (V := _) closed_alg (fun _ _ _ => trivial) (by simp))⟩, ⟨rfl, (sx), (by exact mt_alg rfl rfl (fun a b z _ _ _ => polK_0.symm) (fun _ _ => rfl))⟩, ⟨rfl, (sx), (by exact ⟨rfl, fun j hj => by cases j with | zero => exact rfl | succ j => exact rfl⟩)⟩, trivial⟩, ⟨⟨(fun h => by first | exact ⟨rfl, rfl⟩ | exact absurd h (by decide)), (fun h => by first | exact ⟨rfl, rfl⟩ | exact absurd h (by decide)), (fun h => by first | exact ⟨rfl, rfl⟩ | exact absurd h (by decide)), trivial⟩, ⟨(fun h => by first | exact ⟨rfl, rfl⟩ | exact absurd h (by decide)), (fun h => by first | exact ⟨rfl, rfl⟩ | exact absurd h (by decide)), (fun h => by first | exact ⟨rfl, rfl⟩ | exact absurd h (by decide)), trivial⟩, ⟨(fun h => by first | exact ⟨rfl, rfl⟩ | exact absurd h (by decide)), (fun h => by first | exact ⟨rfl, rfl⟩ | exact absurd h (by decide)), (fun h => by first | exact ⟨rfl, rfl⟩ | exact absurd h (by decide)), trivial⟩, trivial⟩⟩
  · exact Nat.zero_le _
  intro k hi0
  refine sq (env2 := [(0, .int .i64 p), (1, rowA n c), (4, .ptr 4 0 [] 0 (algA 0 0 (fun _ _ _ => 0) (fun _ => 0))), (6, .int .i64 (n : Int)), (7, .ptr 7 0 [] 0 (algA 0 0 (fun _ _ _ => 0) (fun _ => 0))), (8, .own 908 0 n 2), (32, .int .i64 ((2 * n - 1 : Nat) : Int)), (33, .int .i64 (k : Int))]) (ol2 := [(4, .one (algA 0 0 (fun _ _ _ => 0) (fun _ => 0)) (algA 0 0 (fun _ _ _ => 0) (fun _ => 0))), (7, .one (algA 0 0 (fun _ _ _ => 0) (fun _ => 0)) (algA p (n : Int) (polK p n (cutF c n) (k) (0)) (polO n))), (908, .one (Z64 n) (C64 n (rs p n (cutF c n) (k))))]) rfl rfl ?_
  apply sr tokTB (by kernel_rfl)
  · intro RR hRR
    refine w_lss rfl rfl ?_
    exact hRR
  refine snd_seq ?_
  refine snd_cond _ rfl (fun hc34 => ?_) (fun hc34 => ?_)
  · try simp only [hcs] at hc34
    have lt_k : k < 2 * n - 1 := by omega
    refine snd_skip ?_
    refine snd_seq ?_
    refine snd_block ?_
    apply sr tokTB (by kernel_rfl)
    · intro RR hRR
      refine wm ?_
      refine wa ?_
      exact hRR
    refine snd_seq ?_
    apply sr tokTB (by kernel_rfl)
    · intro RR hRR
      refine wm ?_
      refine wm ?_
      exact hRR
    refine snd_block ?_
    refine snd_loop (S := Nat) (fun i => ([(0, .int .i64 p), (1, rowA n c), (4, .ptr 4 0 [] 0 (algA 0 0 (fun _ _ _ => 0) (fun _ => 0))), (6, .int .i64 (n : Int)), (7, .ptr 7 0 [] 0 (algA 0 0 (fun _ _ _ => 0) (fun _ => 0))), (8, .own 908 0 n 2), (9, .int .i64 (k : Int)), (32, .int .i64 ((2 * n - 1 : Nat) : Int)), (33, .int .i64 (k : Int)), (36, .int .i64 (n : Int)), (37, .int .i64 (i : Int))], [(4, .one (algA 0 0 (fun _ _ _ => 0) (fun _ => 0)) (algA 0 0 (fun _ _ _ => 0) (fun _ => 0))), (7, .one (algA 0 0 (fun _ _ _ => 0) (fun _ => 0)) (algA p (n : Int) (polK p n (cutF c n) (k) (i)) (polO n))), (908, .one (Z64 n) (C64 n (rs p n (cutF c n) (k))))])) (fun i => i ≤ n) (fun i => n - i) (0) ρ0 ?_ ?_ ?_
    · exact ⟨⟨(mi), (by first | exact mt_row (V := _) (fun _ _ => rfl) | exact mt_fz (by exact ⟨(ne_fst rfl), (ne_fst rfl), (ne_fst rfl), trivial⟩) rfl (fun _ _ => rfl)), ⟨rfl, rfl, rfl, rfl, rfl⟩, (mi), ⟨rfl, rfl, rfl, rfl, rfl⟩, (by first | exact ⟨rfl, rfl, rfl, rfl⟩ | exact ⟨rfl, by omega, rfl, rfl⟩), (mi), (mi), (mi), (mi), (mi), trivial⟩, ⟨⟨rfl, (sx), (by first | exact mt_vec (fun _ _ => rfl) | exact mt_mat (fun _ _ _ _ => rfl) | exact mt_tab (fun _ _ _ _ _ _ => rfl) | exact mt_arr0 | exact mt_app (fun _ _ => rfl) rfl | exact ⟨rfl, fun _ _ => mt_row (fun _ _ => rfl)⟩ | exact Mt_closed (V := _) closed_alg (fun _ _ _ => trivial) (by simp))⟩, ⟨rfl, (sx), (by exact mt_alg rfl rfl (fun a b z _ _ _ => rfl) (fun _ _ => rfl))⟩, ⟨rfl, (sx), (by first | exact mt_vec (fun _ _ => rfl) | exact mt_mat (fun _ _ _ _ => rfl) | exact mt_tab (fun _ _ _ _ _ _ => rfl) | exact mt_arr0 | exact mt_app (fun _ _ => rfl) rfl | exact ⟨rfl, fun _ _ => mt_row (fun _ _ => rfl)⟩ | exact Mt_closed (V := _) closed_alg (fun _ _ _ => trivial) (by simp))⟩, trivial⟩, ⟨⟨(fun h => by first | exact ⟨rfl, rfl⟩ | exact absurd h (by decide)), (fun h => by first | exact ⟨rfl, rfl⟩ | exact absurd h (by decide)), (fun h => by first | exact ⟨rfl, rfl⟩ | exact absurd h (by decide)), trivial⟩, ⟨(fun h => by first | exact ⟨rfl, rfl⟩ | exact absurd h (by decide)), (fun h => by first | exact ⟨rfl, rfl⟩ | exact absurd h (by decide)), (fun h => by first | exact ⟨rfl, rfl⟩ | exact absurd h (by decide)), trivial⟩, ⟨(fun h => by first | exact ⟨rfl, rfl⟩ | exact absurd h (by decide)), (fun h => by first | exact ⟨rfl, rfl⟩ | exact absurd h (by decide)), (fun h => by first | exact ⟨rfl, rfl⟩ | exact absurd h (by decide)), trivial⟩, trivial⟩⟩
    · exact Nat.zero_le _
    intro i hi2
    refine sq (env2 := [(0, .int .i64 p), (1, rowA n c), (4, .ptr 4 0 [] 0 (algA 0 0 (fun _ _ _ => 0) (fun _ => 0))), (6, .int .i64 (n : Int)), (7, .ptr 7 0 [] 0 (algA 0 0 (fun _ _ _ => 0) (fun _ => 0))), (8, .own 908 0 n 2), (9, .int .i64 (k : Int)), (32, .int .i64 ((2 * n - 1 : Nat) : Int)), (33, .int .i64 (k : Int)), (36, .int .i64 (n : Int)), (37, .int .i64 (i : Int))]) (ol2 := [(4, .one (algA 0 0 (fun _ _ _ => 0) (fun _ => 0)) (algA 0 0 (fun _ _ _ => 0) (fun _ => 0))), (7, .one (algA 0 0 (fun _ _ _ => 0) (fun _ => 0)) (algA p (n : Int) (polK p n (cutF c n) (k) (i)) (polO n))), (908, .one (Z64 n) (C64 n (rs p n (cutF c n) (k))))]) rfl rfl ?_
    apply sr tokTB (by kernel_rfl)
    · intro RR hRR
      refine w_lss rfl rfl ?_
      exact hRR
    refine snd_seq ?_
    refine snd_cond _ rfl (fun hc38 => ?_) (fun hc38 => ?_)
    · try simp only [hcs] at hc38
      have lt_i : i < n := by omega
      refine snd_skip ?_
      refine snd_seq ?_
      refine snd_block ?_
      apply sr tokTB (by kernel_rfl)
      · intro RR hRR
        refine wm ?_
        refine wa ?_
        exact hRR
      apply sr tokTB (by kernel_rfl)
      · intro RR hRR
        refine wm ?_
        refine wm ?_
        refine y_sub rfl rfl ?_
        refine wa ?_
        exact hRR
      apply srG (env' := (49, .bool (decide (0 ≤ (k : Int) - (i : Int)) && decide ((k : Int) - (i : Int) < (n : Int)))) :: (48, .any) :: (47, .any) :: (46, .any) :: (45, .bool (decide (0 ≤ (k : Int) - (i : Int)))) :: (44, _) :: (43, _) :: _) tokTB (by kernel_rfl)
      · intro RR hRR
        refine wm ?_
        refine w_geq rfl rfl ?_
        refine wm ?_
        refine w_g rfl rfl (fun hg2 => ?_) (fun hg2 => ?_)
        · skip
          refine wm ?_
          refine w_g_on rfl rfl hg2 ?_
          refine wm ?_
          refine w_g_on rfl rfl hg2 ?_
          refine w_lss rfl rfl ?_
          refine w_pick_1 rfl hg2 (by constructor) ?_
          try simp only [Int.toNat_natCast] at hg2
          exact hRR _ (EL.cons (.inr (by first | rfl | (simp only [hg2, els]; done) | (simp only [hg2, els]; rfl) | (simp [hg2]; done) | (clear hRR; simp_all; done))) (EL.cons (.inl rfl) (EL.cons (.inl rfl) (EL.cons (.inl rfl) (EL.cons (.inr (by first | rfl | (simp only [hg2, els]; done) | (simp only [hg2, els]; rfl) | (simp [hg2]; done) | (clear hRR; simp_all; done))) (EL.cons (.inr rfl) (EL.cons (.inr rfl) (EL.refl _))))))))
        · have hg2 := eq_false_of_ne_true hg2
          refine w_g_off rfl rfl (by rw [hg2]; decide) ?_
          refine w_g_off rfl rfl (by rw [hg2]; decide) ?_
          refine w_pick_0 rfl hg2 (by constructor) ?_
          try simp only [Int.toNat_natCast] at hg2
          exact hRR _ (EL.cons (.inr (by first | rfl | (simp only [hg2, els]; done) | (simp only [hg2, els]; rfl) | (simp [hg2]; done) | (clear hRR; simp_all; done))) (EL.cons (.inl rfl) (EL.cons (.inl rfl) (EL.cons (.inl rfl) (EL.cons (.inr (by first | rfl | (simp only [hg2, els]; done) | (simp only [hg2, els]; rfl) | (simp [hg2]; done) | (clear hRR; simp_all; done))) (EL.cons (.inr rfl) (EL.cons (.inr rfl) (EL.refl _))))))))
      refine snd_cond _ rfl (fun hc49 => ?_) (fun hc49 => ?_)
      · skip
        obtain ⟨hk1, hk2⟩ : 0 ≤ (k : Int) - (i : Int) ∧ (k : Int) - (i : Int) < (n : Int) := by simpa using hc49
        apply ld tokTB mixed (by kernel_rfl) (by kernel_rfl)
        · intro RR hRR
          refine wm ?_
          refine wm ?_
          refine wm ?_
          refine y_call rfl rfl ((hcr k ▸ c_vector (m := n) (f := (rs p n (cutF c n) (k))) (by omega) (hrB k)).mt ⟨mt_row0 rfl, trivial⟩) ?_
          refine w_fap rfl und32 rfl kn29 nz29 rfl (by decide) rfl ?_
          first | refine w_iac rfl rfl und29 kn28 (by exact sz28.symm) ?_ rfl ?_ | refine w_iap rfl rfl und29 kn28 rfl (by exact sz28.symm) rfl ?_ ?_
          · exact ⟨by omega, by omega⟩
          first | refine w_iac rfl rfl und28 kn27 (by exact sz27.symm) ?_ rfl ?_ | refine w_iap rfl rfl und28 kn27 rfl (by exact sz27.symm) rfl ?_ ?_
          · exact ⟨by omega, by omega⟩
          first | refine w_stw rfl (by constructor) kn27 rfl (by exact trivial) (sx) (by exact sz27.symm) ?_ | refine w_sti rfl rfl kn27 rfl (by exact trivial) (by exact sz27.symm) ?_ | refine w_store rfl (HV.eq (by constructor)) kn27 rfl (by exact trivial) (sx) (by exact sz27.symm) (pin_) ?_ | refine w_store rfl (HV.eq (by constructor)) kn27 rfl (by exact trivial) (by exact trivial) (by exact sz27.symm) rfl ?_
          exact hRR
        apply lr tokTB (by kernel_rfl)
        · intro RR hRR
          refine y_add rfl rfl ?_
          refine wm ?_
          exact hRR
        refine ⟨i + 1, ρ0, ?_, (by omega), (by dsimp only; omega)⟩
        exact ⟨⟨(mi), (by first | exact mt_row (V := _) (fun _ _ => rfl) | exact mt_fz (by exact ⟨(ne_fst rfl), (ne_fst rfl), (ne_fst rfl), trivial⟩) rfl (fun _ _ => rfl)), ⟨rfl, rfl, rfl, rfl, rfl⟩, (mi), ⟨rfl, rfl, rfl, rfl, rfl⟩, (by first | exact ⟨rfl, rfl, rfl, rfl⟩ | exact ⟨rfl, by omega, rfl, rfl⟩), (mi), (mi), (mi), (mi), (mi), trivial⟩, ⟨⟨rfl, (sx), (by first | exact mt_vec (fun _ _ => rfl) | exact mt_mat (fun _ _ _ _ => rfl) | exact mt_tab (fun _ _ _ _ _ _ => rfl) | exact mt_arr0 | exact mt_app (fun _ _ => rfl) rfl | exact ⟨rfl, fun _ _ => mt_row (fun _ _ => rfl)⟩ | exact Mt_closed (V := _) closed_alg (fun _ _ _ => trivial) (by simp))⟩, ⟨rfl, (sx), (by exact mt_alg rfl rfl (fun a b z _ _ _ => polK_t lt_i (by omega) (by omega)) (fun _ _ => rfl))⟩, ⟨rfl, (sx), (by first | exact mt_vec (fun _ _ => rfl) | exact mt_mat (fun _ _ _ _ => rfl) | exact mt_tab (fun _ _ _ _ _ _ => rfl) | exact mt_arr0 | exact mt_app (fun _ _ => rfl) rfl | exact ⟨rfl, fun _ _ => mt_row (fun _ _ => rfl)⟩ | exact Mt_closed (V := _) closed_alg (fun _ _ _ => trivial) (by simp))⟩, trivial⟩, ⟨⟨(fun h => by first | exact ⟨rfl, rfl⟩ | exact absurd h (by decide)), (fun h => by first | exact ⟨rfl, rfl⟩ | exact absurd h (by decide)), (fun h => by first | exact ⟨rfl, rfl⟩ | exact absurd h (by decide)), trivial⟩, ⟨(fun h => by first | exact ⟨rfl, rfl⟩ | exact absurd h (by decide)), (fun h => by first | exact ⟨rfl, rfl⟩ | exact absurd h (by decide)), (fun h => by first | exact ⟨rfl, rfl⟩ | exact absurd h (by decide)), trivial⟩, ⟨(fun h => by first | exact ⟨rfl, rfl⟩ | exact absurd h (by decide)), (fun h => by first | exact ⟨rfl, rfl⟩ | exact absurd h (by decide)), (fun h => by first | exact ⟨rfl, rfl⟩ | exact absurd h (by decide)), trivial⟩, trivial⟩⟩
      · skip
        have hk1 : ¬ (0 ≤ (k : Int) - (i : Int) ∧ (k : Int) - (i : Int) < (n : Int)) := fun q => by rw [decide_eq_true q.1, decide_eq_true q.2] at hc49; exact absurd hc49 (by decide)
        refine snd_skip ?_
        apply lr tokTB (by kernel_rfl)
        · intro RR hRR
          refine y_add rfl rfl ?_
          refine wm ?_
          exact hRR
        refine ⟨i + 1, ρ0, ?_, (by omega), (by dsimp only; omega)⟩
        exact ⟨⟨(mi), (by first | exact mt_row (V := _) (fun _ _ => rfl) | exact mt_fz (by exact ⟨(ne_fst rfl), (ne_fst rfl), (ne_fst rfl), trivial⟩) rfl (fun _ _ => rfl)), ⟨rfl, rfl, rfl, rfl, rfl⟩, (mi), ⟨rfl, rfl, rfl, rfl, rfl⟩, (by first | exact ⟨rfl, rfl, rfl, rfl⟩ | exact ⟨rfl, by omega, rfl, rfl⟩), (mi), (mi), (mi), (mi), (mi), trivial⟩, ⟨⟨rfl, (sx), (by first | exact mt_vec (fun _ _ => rfl) | exact mt_mat (fun _ _ _ _ => rfl) | exact mt_tab (fun _ _ _ _ _ _ => rfl) | exact mt_arr0 | exact mt_app (fun _ _ => rfl) rfl | exact ⟨rfl, fun _ _ => mt_row (fun _ _ => rfl)⟩ | exact Mt_closed (V := _) closed_alg (fun _ _ _ => trivial) (by simp))⟩, ⟨rfl, (sx), (by exact mt_alg rfl rfl (fun a b z _ _ _ => polK_f (by omega)) (fun _ _ => rfl))⟩, ⟨rfl, (sx), (by first | exact mt_vec (fun _ _ => rfl) | exact mt_mat (fun _ _ _ _ => rfl) | exact mt_tab (fun _ _ _ _ _ _ => rfl) | exact mt_arr0 | exact mt_app (fun _ _ => rfl) rfl | exact ⟨rfl, fun _ _ => mt_row (fun _ _ => rfl)⟩ | exact Mt_closed (V := _) closed_alg (fun _ _ _ => trivial) (by simp))⟩, trivial⟩, ⟨⟨(fun h => by first | exact ⟨rfl, rfl⟩ | exact absurd h (by decide)), (fun h => by first | exact ⟨rfl, rfl⟩ | exact absurd h (by decide)), (fun h => by first | exact ⟨rfl, rfl⟩ | exact absurd h (by decide)), trivial⟩, ⟨(fun h => by first | exact ⟨rfl, rfl⟩ | exact absurd h (by decide)), (fun h => by first | exact ⟨rfl, rfl⟩ | exact absurd h (by decide)), (fun h => by first | exact ⟨rfl, rfl⟩ | exact absurd h (by decide)), trivial⟩, ⟨(fun h => by first | exact ⟨rfl, rfl⟩ | exact absurd h (by decide)), (fun h => by first | exact ⟨rfl, rfl⟩ | exact absurd h (by decide)), (fun h => by first | exact ⟨rfl, rfl⟩ | exact absurd h (by decide)), trivial⟩, trivial⟩⟩
    · try simp only [hcs] at hc38
      have ge_i : n = i := by omega
      subst ge_i
      refine snd_exit ?_
      apply lr tokTB (by kernel_rfl)
      · intro RR hRR
        refine wm ?_
        refine wm ?_
        refine wm ?_
        refine w_call rfl rfl ((c_shifted (c := (cutF c n)) (v := (rs p n (cutF c n) (k))) hpb (by omega) hcB (hrB k)).mt ⟨mt_int0, mt_cut, mt_row0 rfl, trivial⟩) (.inl ⟨trivial, ⟨fun _ => trivial, trivial⟩⟩) rfl (by constructor) rfl ?_
        refine wa ?_
        exact hRR
      apply lr tokTB (by kernel_rfl)
      · intro RR hRR
        refine y_add rfl rfl ?_
        refine wm ?_
        exact hRR
      refine ⟨k + 1, (fun k i => bif Nat.beq k 908 then (62000, i) else (k, i)), ?_, (by omega), (by dsimp only; omega)⟩
      exact ⟨⟨(mi), (by first | exact mt_row (V := _) (fun _ _ => rfl) | exact mt_fz (by exact ⟨(ne_fst rfl), (ne_fst rfl), (ne_fst rfl), trivial⟩) rfl (fun _ _ => rfl)), ⟨rfl, rfl, rfl, rfl, rfl⟩, (mi), ⟨rfl, rfl, rfl, rfl, rfl⟩, (by first | exact ⟨rfl, rfl, rfl, rfl⟩ | exact ⟨rfl, by omega, rfl, rfl⟩), (mi), (mi), trivial⟩, ⟨⟨rfl, (sx), (by first | exact mt_vec (fun _ _ => rfl) | exact mt_mat (fun _ _ _ _ => rfl) | exact mt_tab (fun _ _ _ _ _ _ => rfl) | exact mt_arr0 | exact mt_app (fun _ _ => rfl) rfl | exact ⟨rfl, fun _ _ => mt_row (fun _ _ => rfl)⟩ | exact Mt_closed (V := _) closed_alg (fun _ _ _ => trivial) (by simp))⟩, ⟨rfl, (sx), (by exact mt_alg rfl rfl (fun a b z _ _ _ => polK_n) (fun _ _ => rfl))⟩, ⟨rfl, (sx), (by exact mt_vec (fun j hj => less_rs hj))⟩, trivial⟩, ⟨⟨(fun h => by first | exact ⟨rfl, rfl⟩ | exact absurd h (by decide)), (fun h => by first | exact ⟨rfl, rfl⟩ | exact absurd h (by decide)), (fun h => by first | exact ⟨rfl, rfl⟩ | exact absurd h (by decide)), trivial⟩, ⟨(fun h => by first | exact ⟨rfl, rfl⟩ | exact absurd h (by decide)), (fun h => by first | exact ⟨rfl, rfl⟩ | exact absurd h (by decide)), (fun h => by first | exact ⟨rfl, rfl⟩ | exact absurd h (by decide)), trivial⟩, ⟨(fun h => by first | exact ⟨rfl, rfl⟩ | exact absurd h (by decide)), (fun h => by first | exact ⟨rfl, rfl⟩ | exact absurd h (by decide)), (fun h => by first | exact ⟨rfl, rfl⟩ | exact absurd h (by decide)), trivial⟩, trivial⟩⟩
  · try simp only [hcs] at hc34
    have ge_k : 2 * n - 1 ≤ k := by omega
    refine snd_exit ?_
    apply sr tokTB (by kernel_rfl)
    · intro RR hRR
      refine w_ldp rfl kn32 rfl (by constructor) (by exact sz32.symm) (by exact ag32.symm) ?_
      refine w_stw rfl (by constructor) kn32 rfl (by exact trivial) (sx) (by exact sz32.symm) ?_
      refine wa ?_
      exact hRR
    refine snd_ret ?_
    show retQ TB _ _ _ _ _ _
    exact rt_ct (T := TB) rfl kn32 rfl (by exact sz32.symm) (by exact ag32.symm) (fun V => mt_alg rfl rfl (fun a b z _ _ _ => polK_e ge_k) (fun _ _ => rfl)) (fun V => rfl)
theorem c_iPolyAlg_no {p : Int} {n : Nat} {c : Nat → Int} (hp0 : -1000000 ≤ p ∧ p ≤ 1000000) (hn0 : n ≤ 1000) (h : ¬ PO p n c) : ACalls Tryz.prog TB 6 [.int .i64 p, rowA n c] (.tup 2 (pairA (algA 0 0 (fun _ _ _ => 0) (fun _ => 0)) (.int .i64 2))) [] := by
  refine acalls_of tokTB Tryz.func6 rfl rfl (Nat.le_of_ble_eq_true rfl) ?_
  apply sr tokTB (by kernel_rfl)
  · intro RR hRR
    refine w_alloc kn32 rfl zr32 ?_
    refine wa ?_
    exact hRR
  refine snd_seq ?_
  apply sr tokTB (by kernel_rfl)
  · intro RR hRR
    refine wm ?_
    refine wm ?_
    refine y_call rfl (ec (ec exn)) (((poB_PO (p := p) (n := n) (f := c)).trans (decide_eq_false h)) ▸ c_polynomialOk (f := c) hp0 hn0) ?_
    refine w_not rfl ?_
    exact hRR
  refine snd_cond_true (by exact rfl) ?_
  apply sr tokTB (by kernel_rfl)
  · intro RR hRR
    refine w_bld_s kn32 zr32 und32 rfl (by exact ⟨rfl, kn2, sz2, rfl, kn2, sz2, rfl, kn29, sz29, rfl, kn30, sz30, trivial⟩) trivial rfl ?_
    refine w_stw rfl (by constructor) kn32 rfl (by exact trivial) (sx) (by exact sz32.symm) ?_
    refine wa ?_
    exact hRR
  refine snd_ret ?_
  show retQ TB _ _ _ _ _ _
  exact rt_ct (T := TB) rfl kn32 rfl (by exact sz32.symm) (by exact ag32.symm) (fun V => m_alg) (fun V => rfl)
theorem c_l09Algebra {p : Int} {n : Nat} {c : Nat → Int} (h : PO p n c) : ACalls Tryz.prog TB 30 [.int .i64 p, rowA n c] (algA p (n : Int) (polT p n (cutF c n)) (polO n)) [] := by
  have hpb := primeB_bd h.1
  have hn := h.2.1
  have hcB : B8 (cutF c n) := B8_of (by omega) (cut_Bp h)
  have hrb : ∀ k j, 0 ≤ rs p n (cutF c n) k j ∧ rs p n (cutF c n) k j < p := fun k j => (rs_VV (by omega) (by omega) k).b j
  have hrB : ∀ k, B8 (rs p n (cutF c n) k) := fun k => B8_of (by omega) (hrb k)
  have hcr : ∀ k, cutF (rs p n (cutF c n) k) n = rs p n (cutF c n) k := cut_rs (by omega) (by omega)
  refine acalls_of tokTB Tryz.func30 rfl rfl (Nat.le_of_ble_eq_true rfl) ?_
  apply sr tokTB (by kernel_rfl)
  · intro RR hRR
    refine w_alloc kn32 rfl zr32 ?_
    exact hRR
  apply sr tokTB (by kernel_rfl)
  · intro RR hRR
    refine wm ?_
    refine w_len_r rfl rfl und24 ?_
    refine wa ?_
    exact hRR
  apply sr tokTB (by kernel_rfl)
  · intro RR hRR
    refine wm ?_
    refine wm ?_
    refine w_bld_s kn32 zr32 und32 rfl (by exact ⟨rfl, kn2, sz2, rfl, kn2, sz2, rfl, kn29, sz29, rfl, kn30, sz30, trivial⟩) (by exact ⟨⟨by decide, trivial, rfl⟩, ⟨by decide, trivial, rfl⟩, trivial⟩) (c := algF p (n : Int) (fun _ _ _ => 0) (fun _ => 0)) (funext fun i => by match i with | 0 => rfl | 1 => rfl | 2 => rfl | 3 => rfl | i + 4 => rfl) ?_
    refine w_alloc kn32 rfl zr32 ?_
    refine w_stw rfl (by constructor) kn32 rfl (by exact trivial) (sx) (by exact sz32.symm) ?_
    exact hRR
  apply sr tokTB (by kernel_rfl)
  · intro RR hRR
    refine wm ?_
    refine w_sub rfl rfl (by exact (w64 (n := (n : Int) - 1) (by omega) (by omega)).trans (show (n : Int) - 1 = ((n - 1 : Nat) : Int) by omega)) ?_
    refine w_fap rfl und32 rfl kn30 nz30 rfl (by decide) rfl ?_
    first | refine w_iac rfl rfl und30 kn5 (by exact sz5.symm) ?_ rfl ?_ | refine w_iap rfl rfl und30 kn5 rfl (by exact sz5.symm) rfl ?_ ?_
    · exact ⟨by omega, by omega⟩
    first | refine w_stw rfl (by constructor) kn5 rfl (by exact trivial) (sx) (by exact sz5.symm) ?_ | refine w_sti rfl rfl kn5 rfl (by exact trivial) (by exact sz5.symm) ?_ | refine w_store rfl (HV.eq (by constructor)) kn5 rfl (by exact trivial) (sx) (by exact sz5.symm) (pin_) ?_ | refine w_store rfl (HV.eq (by constructor)) kn5 rfl (by exact trivial) (by exact trivial) (by exact sz5.symm) rfl ?_
    exact hRR
  apply sr tokTB (by kernel_rfl)
  · intro RR hRR
    refine wm ?_
    refine w_mks und24 rfl rfl kn2 rfl (by omega) (by rw [by2]; omega) (by omega) rfl ?_
    refine wa ?_
    exact hRR
  apply sr tokTB (by kernel_rfl)
  · intro RR hRR
    refine wm ?_
    refine w_iao rfl rfl und24 kn2 ?_ ?_
    · exact ⟨by omega, by omega⟩
    first | refine w_stw rfl (by constructor) kn2 rfl (by exact trivial) (sx) (by exact sz2.symm) ?_ | refine w_sti rfl rfl kn2 rfl (by exact trivial) (by exact sz2.symm) ?_ | refine w_store rfl (HV.eq (by constructor)) kn2 rfl (by exact trivial) (sx) (by exact sz2.symm) (pin_) ?_ | refine w_store rfl (HV.eq (by constructor)) kn2 rfl (by exact trivial) (by exact trivial) (by exact sz2.symm) rfl ?_
    exact hRR
  refine snd_seq ?_
  apply sr tokTB (by kernel_rfl)
  · intro RR hRR
    refine wa ?_
    exact hRR
  refine snd_block ?_
  refine snd_loop (S := Nat) (fun k => ([(0, .int .i64 p), (1, rowA n c), (4, .ptr 4 0 [] 0 (algA 0 0 (fun _ _ _ => 0) (fun _ => 0))), (5, .int .i64 (n : Int)), (6, .ptr 6 0 [] 0 (algA 0 0 (fun _ _ _ => 0) (fun _ => 0))), (7, .own 907 0 n 2), (8, .int .i64 (k : Int))], [(4, .one (algA 0 0 (fun _ _ _ => 0) (fun _ => 0)) (algA 0 0 (fun _ _ _ => 0) (fun _ => 0))), (6, .one (algA 0 0 (fun _ _ _ => 0) (fun _ => 0)) (algA p (n : Int) (polK p n (cutF c n) (k) (0)) (polO n))), (907, .one (Z64 n) (C64 n (rs p n (cutF c n) (k))))])) (fun k => k ≤ (2 * n - 1)) (fun k => (2 * n - 1) - k) (0) (fun k i => bif Nat.beq k 907 then (24, i) else (k, i)) ?_ ?_ ?_
  · exact ⟨⟨(mi), (by first | exact mt_row (V := _) (fun _ _ => rfl) | exact mt_fz (by exact ⟨(ne_fst rfl), (ne_fst rfl), (ne_fst rfl), trivial⟩) rfl (fun _ _ => rfl)), ⟨rfl, rfl, rfl, rfl, rfl⟩, (mi), ⟨rfl, rfl, rfl, rfl, rfl⟩, (by first | exact ⟨rfl, rfl, rfl, rfl⟩ | exact ⟨rfl, by omega, rfl, rfl⟩), (mi), trivial⟩, ⟨⟨rfl, (sx), (by first | exact mt_vec (fun _ _ => rfl) | exact mt_mat (fun _ _ _ _ => rfl) | exact mt_tab (fun _ _ _ _ _ _ => rfl) | exact mt_arr0 | exact mt_app (fun _ _ => rfl) rfl | exact ⟨rfl, fun _ _ => mt_row (fun _ _ => rfl)⟩ | exact Mt_closed (V := _) closed_alg (fun _ _ _ => trivial) (by simp))⟩, ⟨rfl, (sx), (by exact mt_alg rfl rfl (fun a b z _ _ _ => polK_0.symm) (fun _ _ => rfl))⟩, ⟨rfl, (sx), (by exact ⟨rfl, fun j hj => by cases j with | zero => exact rfl | succ j => exact rfl⟩)⟩, trivial⟩, ⟨⟨(fun h => by first | exact ⟨rfl, rfl⟩ | exact absurd h (by decide)), (fun h => by first | exact ⟨rfl, rfl⟩ | exact absurd h (by decide)), (fun h => by first | exact ⟨rfl, rfl⟩ | exact absurd h (by decide)), trivial⟩, ⟨(fun h => by first | exact ⟨rfl, rfl⟩ | exact absurd h (by decide)), (fun h => by first | exact ⟨rfl, rfl⟩ | exact absurd h (by decide)), (fun h => by first | exact ⟨rfl, rfl⟩ | exact absurd h (by decide)), trivial⟩, ⟨(fun h => by first | exact ⟨rfl, rfl⟩ | exact absurd h (by decide)), (fun h => by first | exact ⟨rfl, rfl⟩ | exact absurd h (by decide)), (fun h => by first | exact ⟨rfl, rfl⟩ | exact absurd h (by decide)), trivial⟩, trivial⟩⟩
  · exact Nat.zero_le _
  intro k hi0
  refine sq (env2 := [(0, .int .i64 p), (1, rowA n c), (4, .ptr 4 0 [] 0 (algA 0 0 (fun _ _ _ => 0) (fun _ => 0))), (5, .int .i64 (n : Int)), (6, .ptr 6 0 [] 0 (algA 0 0 (fun _ _ _ => 0) (fun _ => 0))), (7, .own 907 0 n 2), (8, .int .i64 (k : Int))]) (ol2 := [(4, .one (algA 0 0 (fun _ _ _ => 0) (fun _ => 0)) (algA 0 0 (fun _ _ _ => 0) (fun _ => 0))), (6, .one (algA 0 0 (fun _ _ _ => 0) (fun _ => 0)) (algA p (n : Int) (polK p n (cutF c n) (k) (0)) (polO n))), (907, .one (Z64 n) (C64 n (rs p n (cutF c n) (k))))]) rfl rfl ?_
  refine snd_seq ?_
  apply sr tokTB (by kernel_rfl)
  · intro RR hRR
    refine wm ?_
    refine wm ?_
    refine w_mul rfl rfl (by exact w64 (n := 2 * (n : Int)) (by omega) (by omega)) ?_
    refine w_sub rfl rfl (by exact w64 (n := 2 * (n : Int) - 2) (by omega) (by omega)) ?_
    refine w_leq rfl rfl ?_
    exact hRR
  refine snd_cond _ rfl (fun hc31 => ?_) (fun hc31 => ?_)
  · try simp only [hcs] at hc31
    have lt_k : k < 2 * n - 1 := by omega
    refine snd_skip ?_
    refine snd_seq ?_
    refine snd_block ?_
    refine snd_seq ?_
    refine snd_emb (ρ := ρ0) (env2 := [(0, .int .i64 p), (1, rowA n c), (4, .ptr 4 0 [] 0 (algA 0 0 (fun _ _ _ => 0) (fun _ => 0))), (5, .int .i64 (n : Int)), (6, .ptr 6 0 [] 0 (algA 0 0 (fun _ _ _ => 0) (fun _ => 0))), (7, rowA n (rs p n (cutF c n) (k))), (8, .int .i64 (k : Int))]) (ol2 := [(4, .one (algA 0 0 (fun _ _ _ => 0) (fun _ => 0)) (algA 0 0 (fun _ _ _ => 0) (fun _ => 0))), (6, .one (algA 0 0 (fun _ _ _ => 0) (fun _ => 0)) (algA p (n : Int) (polK p n (cutF c n) (k) (0)) (polO n)))]) ?_ ?_
    · exact ⟨⟨(mi), (by first | exact mt_row (V := _) (fun _ _ => rfl) | exact mt_fz (by exact ⟨(ne_fst rfl), (ne_fst rfl), trivial⟩) rfl (fun _ _ => rfl)), ⟨rfl, rfl, rfl, rfl, rfl⟩, (mi), ⟨rfl, rfl, rfl, rfl, rfl⟩, (by first | exact mt_row (V := _) (fun _ _ => rfl) | exact mt_fz (by exact ⟨(ne_fst rfl), (ne_fst rfl), trivial⟩) rfl (fun _ _ => rfl)), (mi), trivial⟩, ⟨⟨rfl, (sx), (by exact mt_alg rfl rfl (fun a b z _ _ _ => rfl) (fun _ _ => rfl))⟩, ⟨rfl, (sx), (by exact mt_alg rfl rfl (fun a b z _ _ _ => rfl) (fun _ _ => rfl))⟩, trivial⟩, ⟨⟨(fun h => by first | exact ⟨rfl, rfl⟩ | exact absurd h (by decide)), (fun h => by first | exact ⟨rfl, rfl⟩ | exact absurd h (by decide)), trivial⟩, ⟨(fun h => by first | exact ⟨rfl, rfl⟩ | exact absurd h (by decide)), (fun h => by first | exact ⟨rfl, rfl⟩ | exact absurd h (by decide)), trivial⟩, trivial⟩⟩
    apply sr tokTB (by kernel_rfl)
    · intro RR hRR
      refine wm ?_
      refine wm ?_
      refine y_sub rfl rfl ?_
      refine y_add rfl rfl ?_
      refine w_max rfl rfl (by show (if (0 : Int) > ((k : Int) - n + 1) then (0 : Int) else ((k : Int) - n + 1)) = ((k + 1 - n : Nat) : Int); split <;> omega) ?_
      refine wa ?_
      exact hRR
    refine snd_block ?_
    refine snd_loop (S := Nat) (fun i => ([(0, .int .i64 p), (1, rowA n c), (4, .ptr 4 0 [] 0 (algA 0 0 (fun _ _ _ => 0) (fun _ => 0))), (5, .int .i64 (n : Int)), (6, .ptr 6 0 [] 0 (algA 0 0 (fun _ _ _ => 0) (fun _ => 0))), (7, rowA n (rs p n (cutF c n) (k))), (8, .int .i64 (k : Int)), (9, .int .i64 (i : Int))], [(4, .one (algA 0 0 (fun _ _ _ => 0) (fun _ => 0)) (algA 0 0 (fun _ _ _ => 0) (fun _ => 0))), (6, .one (algA 0 0 (fun _ _ _ => 0) (fun _ => 0)) (algA p (n : Int) (polK p n (cutF c n) (k) (i)) (polO n)))])) (fun i => i ≤ n ∧ k < n + i) (fun i => n - i) ((k + 1 - n)) ρ0 ?_ ?_ ?_
    · exact ⟨⟨(mi), (by first | exact mt_row (V := _) (fun _ _ => rfl) | exact mt_fz (by exact ⟨(ne_fst rfl), (ne_fst rfl), trivial⟩) rfl (fun _ _ => rfl)), ⟨rfl, rfl, rfl, rfl, rfl⟩, (mi), ⟨rfl, rfl, rfl, rfl, rfl⟩, (by first | exact mt_row (V := _) (fun _ _ => rfl) | exact mt_fz (by exact ⟨(ne_fst rfl), (ne_fst rfl), trivial⟩) rfl (fun _ _ => rfl)), (mi), (mi), trivial⟩, ⟨⟨rfl, (sx), (by first | exact mt_vec (fun _ _ => rfl) | exact mt_mat (fun _ _ _ _ => rfl) | exact mt_tab (fun _ _ _ _ _ _ => rfl) | exact mt_arr0 | exact mt_app (fun _ _ => rfl) rfl | exact ⟨rfl, fun _ _ => mt_row (fun _ _ => rfl)⟩ | exact Mt_closed (V := _) closed_alg (fun _ _ _ => trivial) (by simp))⟩, ⟨rfl, (sx), (by exact mt_alg rfl rfl (fun a b z _ _ _ => polK_i0) (fun _ _ => rfl))⟩, trivial⟩, ⟨⟨(fun h => by first | exact ⟨rfl, rfl⟩ | exact absurd h (by decide)), (fun h => by first | exact ⟨rfl, rfl⟩ | exact absurd h (by decide)), trivial⟩, ⟨(fun h => by first | exact ⟨rfl, rfl⟩ | exact absurd h (by decide)), (fun h => by first | exact ⟨rfl, rfl⟩ | exact absurd h (by decide)), trivial⟩, trivial⟩⟩
    · exact ⟨by omega, by omega⟩
    intro i hi2
    refine sq (env2 := [(0, .int .i64 p), (1, rowA n c), (4, .ptr 4 0 [] 0 (algA 0 0 (fun _ _ _ => 0) (fun _ => 0))), (5, .int .i64 (n : Int)), (6, .ptr 6 0 [] 0 (algA 0 0 (fun _ _ _ => 0) (fun _ => 0))), (7, rowA n (rs p n (cutF c n) (k))), (8, .int .i64 (k : Int)), (9, .int .i64 (i : Int))]) (ol2 := [(4, .one (algA 0 0 (fun _ _ _ => 0) (fun _ => 0)) (algA 0 0 (fun _ _ _ => 0) (fun _ => 0))), (6, .one (algA 0 0 (fun _ _ _ => 0) (fun _ => 0)) (algA p (n : Int) (polK p n (cutF c n) (k) (i)) (polO n)))]) rfl rfl ?_
    obtain ⟨hin, hkn⟩ := hi2
    refine snd_seq ?_
    apply srG (env' := (46, .bool (decide ((i : Int) < (n : Int)) && decide ((i : Int) ≤ (k : Int)))) :: (45, .any) :: (44, .any) :: (43, .any) :: (42, .bool (decide ((i : Int) < (n : Int)))) :: (41, _) :: (40, _) :: (39, _) :: _) tokTB (by kernel_rfl)
    · intro RR hRR
      refine wm ?_
      refine wm ?_
      refine w_lss rfl rfl ?_
      refine wm ?_
      refine w_g rfl rfl (fun hg3 => ?_) (fun hg3 => ?_)
      · skip
        refine wm ?_
        refine w_g_on rfl rfl hg3 ?_
        refine wm ?_
        refine w_g_on rfl rfl hg3 ?_
        refine w_leq rfl rfl ?_
        refine w_pick_1 rfl hg3 (by constructor) ?_
        try simp only [Int.toNat_natCast] at hg3
        exact hRR _ (EL.cons (.inr (by first | rfl | (simp only [hg3, els]; done) | (simp only [hg3, els]; rfl) | (simp [hg3]; done) | (clear hRR; simp_all; done))) (EL.cons (.inl rfl) (EL.cons (.inl rfl) (EL.cons (.inl rfl) (EL.cons (.inr (by first | rfl | (simp only [hg3, els]; done) | (simp only [hg3, els]; rfl) | (simp [hg3]; done) | (clear hRR; simp_all; done))) (EL.cons (.inr rfl) (EL.cons (.inr rfl) (EL.cons (.inr rfl) (EL.refl _)))))))))
      · have hg3 := eq_false_of_ne_true hg3
        refine w_g_off rfl rfl (by rw [hg3]; decide) ?_
        refine w_g_off rfl rfl (by rw [hg3]; decide) ?_
        refine w_pick_0 rfl hg3 (by constructor) ?_
        try simp only [Int.toNat_natCast] at hg3
        exact hRR _ (EL.cons (.inr (by first | rfl | (simp only [hg3, els]; done) | (simp only [hg3, els]; rfl) | (simp [hg3]; done) | (clear hRR; simp_all; done))) (EL.cons (.inl rfl) (EL.cons (.inl rfl) (EL.cons (.inl rfl) (EL.cons (.inr (by first | rfl | (simp only [hg3, els]; done) | (simp only [hg3, els]; rfl) | (simp [hg3]; done) | (clear hRR; simp_all; done))) (EL.cons (.inr rfl) (EL.cons (.inr rfl) (EL.cons (.inr rfl) (EL.refl _)))))))))
    refine snd_cond _ rfl (fun hc46 => ?_) (fun hc46 => ?_)
    · skip
      have hik : (i : Int) < n ∧ (i : Int) ≤ k := by simpa using hc46
      have lt_i : i < n := by omega
      refine snd_skip ?_
      refine snd_seq ?_
      refine snd_block ?_
      apply sr tokTB (by kernel_rfl)
      · intro RR hRR
        refine wa ?_
        exact hRR
      refine snd_block ?_
      refine snd_loop (S := Nat) (fun z => ([(0, .int .i64 p), (1, rowA n c), (4, .ptr 4 0 [] 0 (algA 0 0 (fun _ _ _ => 0) (fun _ => 0))), (5, .int .i64 (n : Int)), (6, .ptr 6 0 [] 0 (algA 0 0 (fun _ _ _ => 0) (fun _ => 0))), (7, rowA n (rs p n (cutF c n) (k))), (8, .int .i64 (k : Int)), (9, .int .i64 (i : Int)), (10, .int .i64 (z : Int))], [(4, .one (algA 0 0 (fun _ _ _ => 0) (fun _ => 0)) (algA 0 0 (fun _ _ _ => 0) (fun _ => 0))), (6, .one (algA 0 0 (fun _ _ _ => 0) (fun _ => 0)) (algA p (n : Int) (polZ p n (cutF c n) k (i) (z)) (polO n)))])) (fun z => z ≤ n) (fun z => n - z) (0) ρ0 ?_ ?_ ?_
      · exact ⟨⟨(mi), (by first | exact mt_row (V := _) (fun _ _ => rfl) | exact mt_fz (by exact ⟨(ne_fst rfl), (ne_fst rfl), trivial⟩) rfl (fun _ _ => rfl)), ⟨rfl, rfl, rfl, rfl, rfl⟩, (mi), ⟨rfl, rfl, rfl, rfl, rfl⟩, (by first | exact mt_row (V := _) (fun _ _ => rfl) | exact mt_fz (by exact ⟨(ne_fst rfl), (ne_fst rfl), trivial⟩) rfl (fun _ _ => rfl)), (mi), (mi), (mi), trivial⟩, ⟨⟨rfl, (sx), (by first | exact mt_vec (fun _ _ => rfl) | exact mt_mat (fun _ _ _ _ => rfl) | exact mt_tab (fun _ _ _ _ _ _ => rfl) | exact mt_arr0 | exact mt_app (fun _ _ => rfl) rfl | exact ⟨rfl, fun _ _ => mt_row (fun _ _ => rfl)⟩ | exact Mt_closed (V := _) closed_alg (fun _ _ _ => trivial) (by simp))⟩, ⟨rfl, (sx), (by exact mt_alg rfl rfl (fun a b z _ _ _ => polZ_0) (fun _ _ => rfl))⟩, trivial⟩, ⟨⟨(fun h => by first | exact ⟨rfl, rfl⟩ | exact absurd h (by decide)), (fun h => by first | exact ⟨rfl, rfl⟩ | exact absurd h (by decide)), trivial⟩, ⟨(fun h => by first | exact ⟨rfl, rfl⟩ | exact absurd h (by decide)), (fun h => by first | exact ⟨rfl, rfl⟩ | exact absurd h (by decide)), trivial⟩, trivial⟩⟩
      · exact Nat.zero_le _
      intro z hi4
      refine sq (env2 := [(0, .int .i64 p), (1, rowA n c), (4, .ptr 4 0 [] 0 (algA 0 0 (fun _ _ _ => 0) (fun _ => 0))), (5, .int .i64 (n : Int)), (6, .ptr 6 0 [] 0 (algA 0 0 (fun _ _ _ => 0) (fun _ => 0))), (7, rowA n (rs p n (cutF c n) (k))), (8, .int .i64 (k : Int)), (9, .int .i64 (i : Int)), (10, .int .i64 (z : Int))]) (ol2 := [(4, .one (algA 0 0 (fun _ _ _ => 0) (fun _ => 0)) (algA 0 0 (fun _ _ _ => 0) (fun _ => 0))), (6, .one (algA 0 0 (fun _ _ _ => 0) (fun _ => 0)) (algA p (n : Int) (polZ p n (cutF c n) k (i) (z)) (polO n)))]) rfl rfl ?_
      refine snd_seq ?_
      apply sr tokTB (by kernel_rfl)
      · intro RR hRR
        refine wm ?_
        refine wm ?_
        refine w_lss rfl rfl ?_
        exact hRR
      refine snd_cond _ rfl (fun hc51 => ?_) (fun hc51 => ?_)
      · try simp only [hcs] at hc51
        have lt_z : z < n := by omega
        refine snd_skip ?_
        refine snd_seq ?_
        refine snd_block ?_
        apply ld tokTB mixed (by kernel_rfl) (by kernel_rfl)
        · intro RR hRR
          refine wm ?_
          refine wm ?_
          refine wm ?_
          refine y_sub rfl rfl ?_
          refine wm ?_
          refine wm ?_
          refine wm ?_
          refine w_iar rfl rfl und24 kn2 (by exact sz2.symm) ?_ rfl ?_
          · exact ⟨by omega, by omega⟩
          first | refine w_ldc rfl kn2 (by constructor) (by exact sz2.symm) (by exact ag2.symm) ?_ | refine w_ldp rfl kn2 rfl (by constructor) (by exact sz2.symm) (by exact ag2.symm) ?_
          refine w_conv rfl und2 und5 (by exact w8b (hrB k) _) ?_
          refine w_fap rfl und32 rfl kn29 nz29 rfl (by decide) rfl ?_
          first | refine w_iac rfl rfl und29 kn28 (by exact sz28.symm) ?_ rfl ?_ | refine w_iap rfl rfl und29 kn28 rfl (by exact sz28.symm) rfl ?_ ?_
          · exact ⟨by omega, by omega⟩
          first | refine w_iac rfl rfl und28 kn27 (by exact sz27.symm) ?_ rfl ?_ | refine w_iap rfl rfl und28 kn27 rfl (by exact sz27.symm) rfl ?_ ?_
          · exact ⟨by omega, by omega⟩
          first | refine w_iac rfl rfl und27 kn5 (by exact sz5.symm) ?_ rfl ?_ | refine w_iap rfl rfl und27 kn5 rfl (by exact sz5.symm) rfl ?_ ?_
          · exact ⟨by omega, by omega⟩
          first | refine w_stw rfl (by constructor) kn5 rfl (by exact trivial) (sx) (by exact sz5.symm) ?_ | refine w_sti rfl rfl kn5 rfl (by exact trivial) (by exact sz5.symm) ?_ | refine w_store rfl (HV.eq (by constructor)) kn5 rfl (by exact trivial) (sx) (by exact sz5.symm) (pin_) ?_ | refine w_store rfl (HV.eq (by constructor)) kn5 rfl (by exact trivial) (by exact trivial) (by exact sz5.symm) rfl ?_
          exact hRR
        apply lr tokTB (by kernel_rfl)
        · intro RR hRR
          refine wm ?_
          refine y_add rfl rfl ?_
          refine wa ?_
          exact hRR
        refine ⟨z + 1, ρ0, ?_, (by omega), (by dsimp only; omega)⟩
        exact ⟨⟨(mi), (by first | exact mt_row (V := _) (fun _ _ => rfl) | exact mt_fz (by exact ⟨(ne_fst rfl), (ne_fst rfl), trivial⟩) rfl (fun _ _ => rfl)), ⟨rfl, rfl, rfl, rfl, rfl⟩, (mi), ⟨rfl, rfl, rfl, rfl, rfl⟩, (by first | exact mt_row (V := _) (fun _ _ => rfl) | exact mt_fz (by exact ⟨(ne_fst rfl), (ne_fst rfl), trivial⟩) rfl (fun _ _ => rfl)), (mi), (mi), (mi), trivial⟩, ⟨⟨rfl, (sx), (by first | exact mt_vec (fun _ _ => rfl) | exact mt_mat (fun _ _ _ _ => rfl) | exact mt_tab (fun _ _ _ _ _ _ => rfl) | exact mt_arr0 | exact mt_app (fun _ _ => rfl) rfl | exact ⟨rfl, fun _ _ => mt_row (fun _ _ => rfl)⟩ | exact Mt_closed (V := _) closed_alg (fun _ _ _ => trivial) (by simp))⟩, ⟨rfl, (sx), (by exact mt_alg rfl rfl (fun a b z _ _ _ => polZ_t (by omega)) (fun _ _ => rfl))⟩, trivial⟩, ⟨⟨(fun h => by first | exact ⟨rfl, rfl⟩ | exact absurd h (by decide)), (fun h => by first | exact ⟨rfl, rfl⟩ | exact absurd h (by decide)), trivial⟩, ⟨(fun h => by first | exact ⟨rfl, rfl⟩ | exact absurd h (by decide)), (fun h => by first | exact ⟨rfl, rfl⟩ | exact absurd h (by decide)), trivial⟩, trivial⟩⟩
      · try simp only [hcs] at hc51
        have ge_z : n = z := by omega
        subst ge_z
        refine snd_exit ?_
        apply lr tokTB (by kernel_rfl)
        · intro RR hRR
          refine wm ?_
          refine y_add rfl rfl ?_
          refine wa ?_
          exact hRR
        refine ⟨i + 1, ρ0, ?_, ⟨by omega, by omega⟩, (by dsimp only; omega)⟩
        exact ⟨⟨(mi), (by first | exact mt_row (V := _) (fun _ _ => rfl) | exact mt_fz (by exact ⟨(ne_fst rfl), (ne_fst rfl), trivial⟩) rfl (fun _ _ => rfl)), ⟨rfl, rfl, rfl, rfl, rfl⟩, (mi), ⟨rfl, rfl, rfl, rfl, rfl⟩, (by first | exact mt_row (V := _) (fun _ _ => rfl) | exact mt_fz (by exact ⟨(ne_fst rfl), (ne_fst rfl), trivial⟩) rfl (fun _ _ => rfl)), (mi), (mi), trivial⟩, ⟨⟨rfl, (sx), (by first | exact mt_vec (fun _ _ => rfl) | exact mt_mat (fun _ _ _ _ => rfl) | exact mt_tab (fun _ _ _ _ _ _ => rfl) | exact mt_arr0 | exact mt_app (fun _ _ => rfl) rfl | exact ⟨rfl, fun _ _ => mt_row (fun _ _ => rfl)⟩ | exact Mt_closed (V := _) closed_alg (fun _ _ _ => trivial) (by simp))⟩, ⟨rfl, (sx), (by exact mt_alg rfl rfl (fun a b z _ _ _ => polZ_n (j := k - i) (by omega) (by omega) lt_i (by omega) (by omega)) (fun _ _ => rfl))⟩, trivial⟩, ⟨⟨(fun h => by first | exact ⟨rfl, rfl⟩ | exact absurd h (by decide)), (fun h => by first | exact ⟨rfl, rfl⟩ | exact absurd h (by decide)), trivial⟩, ⟨(fun h => by first | exact ⟨rfl, rfl⟩ | exact absurd h (by decide)), (fun h => by first | exact ⟨rfl, rfl⟩ | exact absurd h (by decide)), trivial⟩, trivial⟩⟩
    · skip
      have hik : n ≤ i ∨ k < i := by rcases Nat.lt_or_ge i n with q | q; (right; rcases Nat.lt_or_ge k i with q2 | q2; (exact q2); (rw [decide_eq_true (show (i : Int) < n by omega), decide_eq_true (show (i : Int) ≤ k by omega)] at hc46; exact absurd hc46 (by decide))); (exact .inl q)
      refine snd_exit ?_
      apply sd tokTB mixed (by kernel_rfl) (by kernel_rfl)
      · intro RR hRR
        refine wm ?_
        refine wm ?_
        refine w_sub rfl rfl (by exact (w64 (n := (n : Int) - 1) (by omega) (by omega)).trans (show (n : Int) - 1 = ((n - 1 : Nat) : Int) by omega)) ?_
        refine w_iar rfl rfl und24 kn2 (by exact sz2.symm) ?_ rfl ?_
        · exact ⟨by omega, by omega⟩
        first | refine w_ldc rfl kn2 (by constructor) (by exact sz2.symm) (by exact ag2.symm) ?_ | refine w_ldp rfl kn2 rfl (by constructor) (by exact sz2.symm) (by exact ag2.symm) ?_
        refine wm ?_
        refine w_mks und24 rfl rfl kn2 rfl (by omega) (by rw [by2]; omega) (by omega) rfl ?_
        refine wa ?_
        refine wa ?_
        exact hRR
      refine snd_seq ?_
      apply sr tokTB (by kernel_rfl)
      · intro RR hRR
        refine wa ?_
        exact hRR
      refine snd_block ?_
      refine snd_loop (S := Nat) (fun j => ([(0, .int .i64 p), (1, rowA n c), (4, .ptr 4 0 [] 0 (algA 0 0 (fun _ _ _ => 0) (fun _ => 0))), (5, .int .i64 (n : Int)), (6, .ptr 6 0 [] 0 (algA 0 0 (fun _ _ _ => 0) (fun _ => 0))), (7, rowA n (rs p n (cutF c n) (k))), (8, .int .i64 (k : Int)), (11, .int .i64 (rs p n (cutF c n) k (n - 1))), (12, .own 74 0 n 2), (13, .int .i64 (j : Int))], [(4, .one (algA 0 0 (fun _ _ _ => 0) (fun _ => 0)) (algA 0 0 (fun _ _ _ => 0) (fun _ => 0))), (6, .one (algA 0 0 (fun _ _ _ => 0) (fun _ => 0)) (algA p (n : Int) (polK p n (cutF c n) (k) (i)) (polO n))), (74, .one (Z64 n) (C64 n (mixG (rs p n (cutF c n) (k + 1)) (fun _ => 0) (j))))])) (fun j => j ≤ n) (fun j => n - j) (0) ρ0 ?_ ?_ ?_
      · exact ⟨⟨(mi), (by first | exact mt_row (V := _) (fun _ _ => rfl) | exact mt_fz (by exact ⟨(ne_fst rfl), (ne_fst rfl), (ne_fst rfl), trivial⟩) rfl (fun _ _ => rfl)), ⟨rfl, rfl, rfl, rfl, rfl⟩, (mi), ⟨rfl, rfl, rfl, rfl, rfl⟩, (by first | exact mt_row (V := _) (fun _ _ => rfl) | exact mt_fz (by exact ⟨(ne_fst rfl), (ne_fst rfl), (ne_fst rfl), trivial⟩) rfl (fun _ _ => rfl)), (mi), (mi), (by first | exact ⟨rfl, rfl, rfl, rfl⟩ | exact ⟨rfl, by omega, rfl, rfl⟩), (mi), trivial⟩, ⟨⟨rfl, (sx), (by first | exact mt_vec (fun _ _ => rfl) | exact mt_mat (fun _ _ _ _ => rfl) | exact mt_tab (fun _ _ _ _ _ _ => rfl) | exact mt_arr0 | exact mt_app (fun _ _ => rfl) rfl | exact ⟨rfl, fun _ _ => mt_row (fun _ _ => rfl)⟩ | exact Mt_closed (V := _) closed_alg (fun _ _ _ => trivial) (by simp))⟩, ⟨rfl, (sx), (by first | exact mt_vec (fun _ _ => rfl) | exact mt_mat (fun _ _ _ _ => rfl) | exact mt_tab (fun _ _ _ _ _ _ => rfl) | exact mt_arr0 | exact mt_app (fun _ _ => rfl) rfl | exact ⟨rfl, fun _ _ => mt_row (fun _ _ => rfl)⟩ | exact Mt_closed (V := _) closed_alg (fun _ _ _ => trivial) (by simp))⟩, ⟨rfl, (sx), (by exact mt_vec (fun z _ => rfl))⟩, trivial⟩, ⟨⟨(fun h => by first | exact ⟨rfl, rfl⟩ | exact absurd h (by decide)), (fun h => by first | exact ⟨rfl, rfl⟩ | exact absurd h (by decide)), (fun h => by first | exact ⟨rfl, rfl⟩ | exact absurd h (by decide)), trivial⟩, ⟨(fun h => by first | exact ⟨rfl, rfl⟩ | exact absurd h (by decide)), (fun h => by first | exact ⟨rfl, rfl⟩ | exact absurd h (by decide)), (fun h => by first | exact ⟨rfl, rfl⟩ | exact absurd h (by decide)), trivial⟩, ⟨(fun h => by first | exact ⟨rfl, rfl⟩ | exact absurd h (by decide)), (fun h => by first | exact ⟨rfl, rfl⟩ | exact absurd h (by decide)), (fun h => by first | exact ⟨rfl, rfl⟩ | exact absurd h (by decide)), trivial⟩, trivial⟩⟩
      · exact Nat.zero_le _
      intro j hi6
      refine sq (env2 := [(0, .int .i64 p), (1, rowA n c), (4, .ptr 4 0 [] 0 (algA 0 0 (fun _ _ _ => 0) (fun _ => 0))), (5, .int .i64 (n : Int)), (6, .ptr 6 0 [] 0 (algA 0 0 (fun _ _ _ => 0) (fun _ => 0))), (7, rowA n (rs p n (cutF c n) (k))), (8, .int .i64 (k : Int)), (11, .int .i64 (rs p n (cutF c n) k (n - 1))), (12, .own 74 0 n 2), (13, .int .i64 (j : Int))]) (ol2 := [(4, .one (algA 0 0 (fun _ _ _ => 0) (fun _ => 0)) (algA 0 0 (fun _ _ _ => 0) (fun _ => 0))), (6, .one (algA 0 0 (fun _ _ _ => 0) (fun _ => 0)) (algA p (n : Int) (polK p n (cutF c n) (k) (i)) (polO n))), (74, .one (Z64 n) (C64 n (mixG (rs p n (cutF c n) (k + 1)) (fun _ => 0) (j))))]) rfl rfl ?_
      refine snd_seq ?_
      apply sr tokTB (by kernel_rfl)
      · intro RR hRR
        refine wm ?_
        refine wm ?_
        refine w_lss rfl rfl ?_
        exact hRR
      refine snd_cond _ rfl (fun hc77 => ?_) (fun hc77 => ?_)
      · try simp only [hcs] at hc77
        have lt_j : j < n := by omega
        refine snd_skip ?_
        refine snd_seq ?_
        refine snd_block ?_
        refine snd_seq ?_
        apply sr tokTB (by kernel_rfl)
        · intro RR hRR
          refine wm ?_
          refine w_gtr rfl rfl ?_
          exact hRR
        refine snd_cond _ rfl (fun hc81 => ?_) (fun hc81 => ?_)
        · try simp only [hcs] at hc81
          apply lr tokTB (by kernel_rfl)
          · intro RR hRR
            refine wm ?_
            refine wm ?_
            refine wm ?_
            refine wm ?_
            refine w_sub rfl rfl (by exact (w64 (n := (j : Int) - 1) (by omega) (by omega)).trans (show (j : Int) - 1 = ((j - 1 : Nat) : Int) by omega)) ?_
            refine w_iar rfl rfl und24 kn2 (by exact sz2.symm) ?_ rfl ?_
            · exact ⟨by omega, by omega⟩
            first | refine w_ldc rfl kn2 (by constructor) (by exact sz2.symm) (by exact ag2.symm) ?_ | refine w_ldp rfl kn2 rfl (by constructor) (by exact sz2.symm) (by exact ag2.symm) ?_
            refine w_iao rfl rfl und24 kn2 ?_ ?_
            · exact ⟨by omega, by omega⟩
            first | refine w_stw rfl (by constructor) kn2 rfl (by exact trivial) (sx) (by exact sz2.symm) ?_ | refine w_sti rfl rfl kn2 rfl (by exact trivial) (by exact sz2.symm) ?_ | refine w_store rfl (HV.eq (by constructor)) kn2 rfl (by exact trivial) (sx) (by exact sz2.symm) (pin_) ?_ | refine w_store rfl (HV.eq (by constructor)) kn2 rfl (by exact trivial) (by exact trivial) (by exact sz2.symm) rfl ?_
            exact hRR
          apply ldX tokTB mixed [11] (by kernel_rfl) (by kernel_rfl)
          · intro RR hRR
            show WOps _ _ _ _ _ _ _
            refine wm ?_
            refine wm ?_
            refine wm ?_
            refine wm ?_
            refine wm ?_
            refine w_iao rfl rfl und24 kn2 ?_ ?_
            · exact ⟨by omega, by omega⟩
            first | refine w_ldc rfl kn2 (by constructor) (by exact sz2.symm) (by exact ag2.symm) ?_ | refine w_ldp rfl kn2 rfl (by constructor) (by exact sz2.symm) (by exact ag2.symm) ?_
            refine wm ?_
            refine wm ?_
            refine wm ?_
            refine w_iar rfl rfl und24 kn2 (by exact sz2.symm) ?_ rfl ?_
            · exact ⟨by omega, by omega⟩
            show LoadC Tryz.prog TB _ _ _
            first | refine wx_ldc rfl kn2 (by constructor) (by exact sz2.symm) (by exact ag2.symm) ?_ | refine w_ldp rfl kn2 rfl (by constructor) (by exact sz2.symm) (by exact ag2.symm) ?_
            show WOps _ _ _ _ _ _ _
            refine y_mul rfl rfl ?_
            refine y_sub rfl rfl ?_
            refine y_call rfl (ec (ec exn)) (c_l01Mod (by omega) (by omega)) ?_
            refine w_iao rfl rfl und24 kn2 ?_ ?_
            · exact ⟨by omega, by omega⟩
            first | refine w_stw rfl (by constructor) kn2 rfl (by exact trivial) (sx) (by exact sz2.symm) ?_ | refine w_sti rfl rfl kn2 rfl (by exact trivial) (by exact sz2.symm) ?_ | refine w_store rfl (HV.eq (by constructor)) kn2 rfl (by exact trivial) (sx) (by exact sz2.symm) (pin_) ?_ | refine w_store rfl (HV.eq (by constructor)) kn2 rfl (by exact trivial) (by exact trivial) (by exact sz2.symm) rfl ?_
            exact hRR
          apply lr tokTB (by kernel_rfl)
          · intro RR hRR
            refine wm ?_
            refine y_add rfl rfl ?_
            refine wa ?_
            exact hRR
          refine ⟨j + 1, ρ0, ?_, (by omega), (by dsimp only; omega)⟩
          exact ⟨⟨(mi), (by first | exact mt_row (V := _) (fun _ _ => rfl) | exact mt_fz (by exact ⟨(ne_fst rfl), (ne_fst rfl), (ne_fst rfl), trivial⟩) rfl (fun _ _ => rfl)), ⟨rfl, rfl, rfl, rfl, rfl⟩, (mi), ⟨rfl, rfl, rfl, rfl, rfl⟩, (by first | exact mt_row (V := _) (fun _ _ => rfl) | exact mt_fz (by exact ⟨(ne_fst rfl), (ne_fst rfl), (ne_fst rfl), trivial⟩) rfl (fun _ _ => rfl)), (mi), (mi), (by first | exact ⟨rfl, rfl, rfl, rfl⟩ | exact ⟨rfl, by omega, rfl, rfl⟩), (mi), trivial⟩, ⟨⟨rfl, (sx), (by first | exact mt_vec (fun _ _ => rfl) | exact mt_mat (fun _ _ _ _ => rfl) | exact mt_tab (fun _ _ _ _ _ _ => rfl) | exact mt_arr0 | exact mt_app (fun _ _ => rfl) rfl | exact ⟨rfl, fun _ _ => mt_row (fun _ _ => rfl)⟩ | exact Mt_closed (V := _) closed_alg (fun _ _ _ => trivial) (by simp))⟩, ⟨rfl, (sx), (by exact mt_alg rfl rfl (fun a b z _ _ _ => rfl) (fun _ _ => rfl))⟩, ⟨rfl, (sx), (by exact mt_vec (fun z _ => nx_2 (rs_step h lt_j ((upd_at _ _ _).trans (if_neg (by omega)).symm))))⟩, trivial⟩, ⟨⟨(fun h => by first | exact ⟨rfl, rfl⟩ | exact absurd h (by decide)), (fun h => by first | exact ⟨rfl, rfl⟩ | exact absurd h (by decide)), (fun h => by first | exact ⟨rfl, rfl⟩ | exact absurd h (by decide)), trivial⟩, ⟨(fun h => by first | exact ⟨rfl, rfl⟩ | exact absurd h (by decide)), (fun h => by first | exact ⟨rfl, rfl⟩ | exact absurd h (by decide)), (fun h => by first | exact ⟨rfl, rfl⟩ | exact absurd h (by decide)), trivial⟩, ⟨(fun h => by first | exact ⟨rfl, rfl⟩ | exact absurd h (by decide)), (fun h => by first | exact ⟨rfl, rfl⟩ | exact absurd h (by decide)), (fun h => by first | exact ⟨rfl, rfl⟩ | exact absurd h (by decide)), trivial⟩, trivial⟩⟩
        · try simp only [hcs] at hc81
          refine snd_skip ?_
          apply ldX tokTB mixed [11] (by kernel_rfl) (by kernel_rfl)
          · intro RR hRR
            show WOps _ _ _ _ _ _ _
            refine wm ?_
            refine wm ?_
            refine wm ?_
            refine wm ?_
            refine wm ?_
            refine w_iao rfl rfl und24 kn2 ?_ ?_
            · exact ⟨by omega, by omega⟩
            first | refine w_ldc rfl kn2 (by constructor) (by exact sz2.symm) (by exact ag2.symm) ?_ | refine w_ldp rfl kn2 rfl (by constructor) (by exact sz2.symm) (by exact ag2.symm) ?_
            refine wm ?_
            refine wm ?_
            refine wm ?_
            refine w_iar rfl rfl und24 kn2 (by exact sz2.symm) ?_ rfl ?_
            · exact ⟨by omega, by omega⟩
            show LoadC Tryz.prog TB _ _ _
            first | refine wx_ldc rfl kn2 (by constructor) (by exact sz2.symm) (by exact ag2.symm) ?_ | refine w_ldp rfl kn2 rfl (by constructor) (by exact sz2.symm) (by exact ag2.symm) ?_
            show WOps _ _ _ _ _ _ _
            refine y_mul rfl rfl ?_
            refine y_sub rfl rfl ?_
            refine y_call rfl (ec (ec exn)) (c_l01Mod (by omega) (by omega)) ?_
            refine w_iao rfl rfl und24 kn2 ?_ ?_
            · exact ⟨by omega, by omega⟩
            first | refine w_stw rfl (by constructor) kn2 rfl (by exact trivial) (sx) (by exact sz2.symm) ?_ | refine w_sti rfl rfl kn2 rfl (by exact trivial) (by exact sz2.symm) ?_ | refine w_store rfl (HV.eq (by constructor)) kn2 rfl (by exact trivial) (sx) (by exact sz2.symm) (pin_) ?_ | refine w_store rfl (HV.eq (by constructor)) kn2 rfl (by exact trivial) (by exact trivial) (by exact sz2.symm) rfl ?_
            exact hRR
          apply lr tokTB (by kernel_rfl)
          · intro RR hRR
            refine wm ?_
            refine y_add rfl rfl ?_
            refine wa ?_
            exact hRR
          refine ⟨j + 1, ρ0, ?_, (by omega), (by dsimp only; omega)⟩
          exact ⟨⟨(mi), (by first | exact mt_row (V := _) (fun _ _ => rfl) | exact mt_fz (by exact ⟨(ne_fst rfl), (ne_fst rfl), (ne_fst rfl), trivial⟩) rfl (fun _ _ => rfl)), ⟨rfl, rfl, rfl, rfl, rfl⟩, (mi), ⟨rfl, rfl, rfl, rfl, rfl⟩, (by first | exact mt_row (V := _) (fun _ _ => rfl) | exact mt_fz (by exact ⟨(ne_fst rfl), (ne_fst rfl), (ne_fst rfl), trivial⟩) rfl (fun _ _ => rfl)), (mi), (mi), (by first | exact ⟨rfl, rfl, rfl, rfl⟩ | exact ⟨rfl, by omega, rfl, rfl⟩), (mi), trivial⟩, ⟨⟨rfl, (sx), (by first | exact mt_vec (fun _ _ => rfl) | exact mt_mat (fun _ _ _ _ => rfl) | exact mt_tab (fun _ _ _ _ _ _ => rfl) | exact mt_arr0 | exact mt_app (fun _ _ => rfl) rfl | exact ⟨rfl, fun _ _ => mt_row (fun _ _ => rfl)⟩ | exact Mt_closed (V := _) closed_alg (fun _ _ _ => trivial) (by simp))⟩, ⟨rfl, (sx), (by exact mt_alg rfl rfl (fun a b z _ _ _ => rfl) (fun _ _ => rfl))⟩, ⟨rfl, (sx), (by exact mt_vec (fun z _ => nx_1 (rs_step h lt_j (by obtain rfl : j = 0 := (by omega); exact rfl))))⟩, trivial⟩, ⟨⟨(fun h => by first | exact ⟨rfl, rfl⟩ | exact absurd h (by decide)), (fun h => by first | exact ⟨rfl, rfl⟩ | exact absurd h (by decide)), (fun h => by first | exact ⟨rfl, rfl⟩ | exact absurd h (by decide)), trivial⟩, ⟨(fun h => by first | exact ⟨rfl, rfl⟩ | exact absurd h (by decide)), (fun h => by first | exact ⟨rfl, rfl⟩ | exact absurd h (by decide)), (fun h => by first | exact ⟨rfl, rfl⟩ | exact absurd h (by decide)), trivial⟩, ⟨(fun h => by first | exact ⟨rfl, rfl⟩ | exact absurd h (by decide)), (fun h => by first | exact ⟨rfl, rfl⟩ | exact absurd h (by decide)), (fun h => by first | exact ⟨rfl, rfl⟩ | exact absurd h (by decide)), trivial⟩, trivial⟩⟩
      · try simp only [hcs] at hc77
        have ge_j : n = j := by omega
        subst ge_j
        refine snd_exit ?_
        apply lr tokTB (by kernel_rfl)
        · intro RR hRR
          refine wm ?_
          refine wa ?_
          exact hRR
        apply lr tokTB (by kernel_rfl)
        · intro RR hRR
          refine wm ?_
          refine y_add rfl rfl ?_
          refine wa ?_
          exact hRR
        refine ⟨k + 1, (fun k i => bif Nat.beq k 907 then (74, i) else (k, i)), ?_, (by omega), (by dsimp only; omega)⟩
        exact ⟨⟨(mi), (by first | exact mt_row (V := _) (fun _ _ => rfl) | exact mt_fz (by exact ⟨(ne_fst rfl), (ne_fst rfl), (ne_fst rfl), trivial⟩) rfl (fun _ _ => rfl)), ⟨rfl, rfl, rfl, rfl, rfl⟩, (mi), ⟨rfl, rfl, rfl, rfl, rfl⟩, (by first | exact ⟨rfl, rfl, rfl, rfl⟩ | exact ⟨rfl, by omega, rfl, rfl⟩), (mi), trivial⟩, ⟨⟨rfl, (sx), (by first | exact mt_vec (fun _ _ => rfl) | exact mt_mat (fun _ _ _ _ => rfl) | exact mt_tab (fun _ _ _ _ _ _ => rfl) | exact mt_arr0 | exact mt_app (fun _ _ => rfl) rfl | exact ⟨rfl, fun _ _ => mt_row (fun _ _ => rfl)⟩ | exact Mt_closed (V := _) closed_alg (fun _ _ _ => trivial) (by simp))⟩, ⟨rfl, (sx), (by exact mt_alg rfl rfl (fun a b z _ _ _ => polK_i1 hik) (fun _ _ => rfl))⟩, ⟨rfl, (sx), (by exact mt_vec (fun z hz => mixG_lt _ _ hz))⟩, trivial⟩, ⟨⟨(fun h => by first | exact ⟨rfl, rfl⟩ | exact absurd h (by decide)), (fun h => by first | exact ⟨rfl, rfl⟩ | exact absurd h (by decide)), (fun h => by first | exact ⟨rfl, rfl⟩ | exact absurd h (by decide)), trivial⟩, ⟨(fun h => by first | exact ⟨rfl, rfl⟩ | exact absurd h (by decide)), (fun h => by first | exact ⟨rfl, rfl⟩ | exact absurd h (by decide)), (fun h => by first | exact ⟨rfl, rfl⟩ | exact absurd h (by decide)), trivial⟩, ⟨(fun h => by first | exact ⟨rfl, rfl⟩ | exact absurd h (by decide)), (fun h => by first | exact ⟨rfl, rfl⟩ | exact absurd h (by decide)), (fun h => by first | exact ⟨rfl, rfl⟩ | exact absurd h (by decide)), trivial⟩, trivial⟩⟩
  · try simp only [hcs] at hc31
    have ge_k : 2 * n - 1 ≤ k := by omega
    refine snd_exit ?_
    apply sr tokTB (by kernel_rfl)
    · intro RR hRR
      refine w_ldp rfl kn32 rfl (by constructor) (by exact sz32.symm) (by exact ag32.symm) ?_
      refine w_stw rfl (by constructor) kn32 rfl (by exact trivial) (sx) (by exact sz32.symm) ?_
      exact hRR
    refine snd_ret ?_
    exact rt_c (T := TB) rfl kn32 rfl sz32.symm ag32.symm (fun V => mt_alg rfl rfl (fun a b z _ _ _ => polK_e ge_k) (fun _ _ => rfl))
end Go.Am

set_option maxRecDepth 4000
namespace Go.Am
attribute [local irreducible] retQ retQp
open Go.Proofs
theorem c_valueFv {p : Int} {n : Nat} {c : Nat → Int} (h : PO p n c) {r : Int} (hr : 0 ≤ r ∧ r < p) : ACalls Tryz.prog TB 63 [.int .i64 p, rowA (n + 1) (vc n c), .int .i64 r] (.int .i64 (fv n c r % p)) [] := by
  have hpb := primeB_bd h.1
  have hn := h.2.1
  have hcb := h.2.2
  have := c_valueAt (p := p) (r := r) (n := n + 1) (f := vc n c) (by omega) (by omega) (by omega) (fun j hj => by rcases Nat.lt_or_ge j n with q | q; (rw [vc_lt q]; have := hcb j q; omega); (obtain rfl : j = n := (by omega); rw [vc_d]; omega))
  rwa [hG_val (by omega)] at this
theorem c_roots {p : Int} {n : Nat} {c : Nat → Int} (h : PO p n c) : ACalls Tryz.prog TB 31 [.int .i64 p, rowA n c] (.own 0 0 (roN p n c) 2) [(0, .one (Z64 (roN p n c)) (C64 (roN p n c) (fun i => ((roF p n c i : Nat) : Int))))] := by
  have hpb := primeB_bd h.1
  have hn := h.2.1
  have hcb := h.2.2
  refine acalls_of tokTB Tryz.func31 rfl rfl (Nat.le_of_ble_eq_true rfl) ?_
  apply sr tokTB (by kernel_rfl)
  · intro RR hRR
    refine wa ?_
    exact hRR
  apply sr tokTB (by kernel_rfl)
  · intro RR hRR
    refine w_bsl und24 kn2 (by rw [sz2]; rfl) rfl trivial trivial rfl ?_
    refine wm ?_
    refine w_call rfl (ec exn) (c_Clone1 (n := n) (f := c) (by omega) (by omega)) (.inl ⟨trivial, ⟨fun _ => trivial, trivial⟩⟩) rfl (by constructor) rfl ?_
    refine w_bsl1 und24 kn2 (by rw [sz2]; rfl) rfl (by constructor) (by first | exact trivial | exact cel_cap2) (by exact sz2.symm) (by first | exact trivial | exact ssh_vec | exact ⟨rfl, fun _ => trivial⟩) ?_
    refine w_app_o und24 rfl rfl kn2 rfl rfl (fun C h => ⟨rfl, rfl, rfl, h⟩) (by rw [by2]; omega) (by omega) rfl ?_
    refine wa ?_
    refine wa ?_
    exact hRR
  refine snd_seq ?_
  apply sr tokTB (by kernel_rfl)
  · intro RR hRR
    refine wm ?_
    refine wm ?_
    exact hRR
  refine snd_block ?_
  refine snd_loop (S := Nat) (fun r => ([(0, .int .i64 p), (5, .own 905 0 (enN (rtB p n c) (r)) 2), (6, .own 12 0 (n + 1) 2), (13, .int .i64 p), (14, .int .i64 (r : Int))], [(905, .one (Z64 (enN (rtB p n c) (r))) (C64 (enN (rtB p n c) (r)) (fun i => ((enF (rtB p n c) (r) i : Nat) : Int)))), (12, .one (Z64 (n + 1)) (C64 (n + 1) (vc n c)))])) (fun r => r ≤ p.toNat) (fun r => p.toNat - r) (0) (fun k i => bif Nat.beq k 905 then (8, i) else (k, i)) ?_ ?_ ?_
  · exact ⟨⟨(mi), (by first | exact ⟨rfl, rfl, rfl, rfl⟩ | exact ⟨rfl, by omega, rfl, rfl⟩), (by first | exact ⟨rfl, rfl, rfl, rfl⟩ | exact ⟨rfl, by omega, rfl, rfl⟩), (mi), (mi), trivial⟩, ⟨⟨rfl, (sx), (by exact mt_arr0)⟩, ⟨rfl, (sx), (by exact ⟨rfl, fun j hj => vc_app hj (fun _ _ => rfl) rfl⟩)⟩, trivial⟩, ⟨⟨(fun h => by first | exact ⟨rfl, rfl⟩ | exact absurd h (by decide)), (fun h => by first | exact ⟨rfl, rfl⟩ | exact absurd h (by decide)), trivial⟩, ⟨(fun h => by first | exact ⟨rfl, rfl⟩ | exact absurd h (by decide)), (fun h => by first | exact ⟨rfl, rfl⟩ | exact absurd h (by decide)), trivial⟩, trivial⟩⟩
  · exact Nat.zero_le _
  intro r hi0
  refine sq (env2 := [(0, .int .i64 p), (5, .own 905 0 (enN (rtB p n c) (r)) 2), (6, .own 12 0 (n + 1) 2), (13, .int .i64 p), (14, .int .i64 (r : Int))]) (ol2 := [(905, .one (Z64 (enN (rtB p n c) (r))) (C64 (enN (rtB p n c) (r)) (fun i => ((enF (rtB p n c) (r) i : Nat) : Int)))), (12, .one (Z64 (n + 1)) (C64 (n + 1) (vc n c)))]) rfl rfl ?_
  apply sr tokTB (by kernel_rfl)
  · intro RR hRR
    refine w_lss rfl rfl ?_
    exact hRR
  refine snd_seq ?_
  refine snd_cond _ rfl (fun hc15 => ?_) (fun hc15 => ?_)
  · try simp only [hcs] at hc15
    have lt_r : r < p.toNat := by omega
    have hle := enN_le (rtB p n c) r
    refine snd_skip ?_
    refine snd_seq ?_
    refine snd_block ?_
    apply sr tokTB (by kernel_rfl)
    · intro RR hRR
      refine wm ?_
      refine wa ?_
      exact hRR
    apply sr tokTB (by kernel_rfl)
    · intro RR hRR
      refine wm ?_
      refine wm ?_
      refine wm ?_
      refine y_call rfl rfl ((c_valueFv h (r := (r : Int)) (by omega)).mt ⟨mt_int0, mt_row0 rfl, mt_int0, trivial⟩) ?_
      refine w_eql rfl rfl ?_
      exact hRR
    refine snd_cond _ rfl (fun hc21 => ?_) (fun hc21 => ?_)
    · skip
      have hB : rtB p n c r = true := hc21
      have hs := en_t hB
      apply lr tokTB (by kernel_rfl)
      · intro RR hRR
        refine wm ?_
        refine wm ?_
        refine w_bsl1 und24 kn2 (by rw [sz2]; rfl) rfl (by constructor) (by first | exact trivial | exact cel_cap2) (by exact sz2.symm) (by first | exact trivial | exact ssh_vec | exact ⟨rfl, fun _ => trivial⟩) ?_
        refine w_app_o und24 rfl rfl kn2 rfl rfl (fun C h => ⟨rfl, rfl, rfl, h⟩) (by rw [by2]; omega) (by omega) rfl ?_
        refine wa ?_
        exact hRR
      apply lr tokTB (by kernel_rfl)
      · intro RR hRR
        refine y_add rfl rfl ?_
        refine wm ?_
        exact hRR
      refine ⟨r + 1, (fun k i => bif Nat.beq k 905 then (25, i) else (k, i)), ?_, (by omega), (by dsimp only; omega)⟩
      exact ⟨⟨(mi), (by exact ⟨rfl, hs.symm, rfl, rfl⟩), (by first | exact ⟨rfl, rfl, rfl, rfl⟩ | exact ⟨rfl, by omega, rfl, rfl⟩), (mi), (mi), trivial⟩, ⟨⟨(by exact congrArg (fun q => AV.arr q _) hs.symm), (sx), (by exact mt_app' hs.symm (fun j hj => congrArg (fun q : Nat => AV.int .i64 (q : Int)) (enF_o hj).symm) (congrArg (fun q : Nat => AV.int .i64 (q : Int)) (enF_t hB).symm))⟩, ⟨rfl, (sx), (by first | exact mt_vec (fun _ _ => rfl) | exact mt_mat (fun _ _ _ _ => rfl) | exact mt_tab (fun _ _ _ _ _ _ => rfl) | exact mt_arr0 | exact mt_app (fun _ _ => rfl) rfl | exact ⟨rfl, fun _ _ => mt_row (fun _ _ => rfl)⟩ | exact Mt_closed (V := _) closed_alg (fun _ _ _ => trivial) (by simp))⟩, trivial⟩, ⟨⟨(fun h => by first | exact ⟨rfl, rfl⟩ | exact absurd h (by decide)), (fun h => by first | exact ⟨rfl, rfl⟩ | exact absurd h (by decide)), trivial⟩, ⟨(fun h => by first | exact ⟨rfl, rfl⟩ | exact absurd h (by decide)), (fun h => by first | exact ⟨rfl, rfl⟩ | exact absurd h (by decide)), trivial⟩, trivial⟩⟩
    · skip
      have hB : rtB p n c r = false := hc21
      have hs := en_f hB
      refine snd_skip ?_
      apply lr tokTB (by kernel_rfl)
      · intro RR hRR
        refine y_add rfl rfl ?_
        refine wm ?_
        exact hRR
      refine ⟨r + 1, ρ0, ?_, (by omega), (by dsimp only; omega)⟩
      exact ⟨⟨(mi), (by exact ⟨rfl, hs.symm, rfl, rfl⟩), (by first | exact ⟨rfl, rfl, rfl, rfl⟩ | exact ⟨rfl, by omega, rfl, rfl⟩), (mi), (mi), trivial⟩, ⟨⟨(by exact congrArg (fun q => AV.arr q _) hs.symm), (sx), (by exact ⟨hs.symm, fun j hj => congrArg (fun q : Nat => AV.int .i64 (q : Int)) (enF_n hB).symm⟩)⟩, ⟨rfl, (sx), (by first | exact mt_vec (fun _ _ => rfl) | exact mt_mat (fun _ _ _ _ => rfl) | exact mt_tab (fun _ _ _ _ _ _ => rfl) | exact mt_arr0 | exact mt_app (fun _ _ => rfl) rfl | exact ⟨rfl, fun _ _ => mt_row (fun _ _ => rfl)⟩ | exact Mt_closed (V := _) closed_alg (fun _ _ _ => trivial) (by simp))⟩, trivial⟩, ⟨⟨(fun h => by first | exact ⟨rfl, rfl⟩ | exact absurd h (by decide)), (fun h => by first | exact ⟨rfl, rfl⟩ | exact absurd h (by decide)), trivial⟩, ⟨(fun h => by first | exact ⟨rfl, rfl⟩ | exact absurd h (by decide)), (fun h => by first | exact ⟨rfl, rfl⟩ | exact absurd h (by decide)), trivial⟩, trivial⟩⟩
  · try simp only [hcs] at hc15
    have ge_r : p.toNat = r := by omega
    subst ge_r
    have hle := enN_le (rtB p n c) p.toNat
    refine snd_exit ?_
    apply sr tokTB (by kernel_rfl)
    · intro RR hRR
      refine wm ?_
      refine wa ?_
      exact hRR
    refine snd_ret ?_
    show retQ TB _ _ _ _ _ _
    exact rt_own rfl rfl rfl (fun _ => trivial) (fun V i hi => rfl)
theorem c_l09At {p : Int} {n : Nat} {c : Nat → Int} (h : PO p n c) {r : Int} (hr : 0 ≤ r ∧ r < p) : ACalls Tryz.prog TB 64 [.int .i64 p, rowA n c, .int .i64 r] (.int .i64 (fv n c r % p)) [] := by
  have hpb := primeB_bd h.1
  have hn := h.2.1
  have hcb := h.2.2
  have hhb := hG_bd (p := p) (by omega) r 1 c n (by omega)
  refine acalls_of tokTB Tryz.func64 rfl rfl (Nat.le_of_ble_eq_true rfl) ?_
  apply sr tokTB (by kernel_rfl)
  · intro RR hRR
    refine wa ?_
    exact hRR
  apply sr tokTB (by kernel_rfl)
  · intro RR hRR
    refine wa ?_
    exact hRR
  refine snd_seq ?_
  apply sr tokTB (by kernel_rfl)
  · intro RR hRR
    refine wm ?_
    refine w_len_r rfl rfl und24 ?_
    refine y_sub rfl rfl ?_
    refine wa ?_
    exact hRR
  refine snd_block ?_
  refine snd_loop (S := Nat) (fun k => ([(0, .int .i64 p), (1, rowA n c), (2, .int .i64 r), (7, .int .i64 (hG p r 1 c n k)), (8, .int .i64 ((n : Int) - 1 - (k : Int)))], [])) (fun k => k ≤ n) (fun k => n - k) (0) ρ0 ?_ ?_ ?_
  · exact ⟨⟨(mi), (by first | exact mt_row (V := _) (fun _ _ => rfl) | exact mt_fz (by exact trivial) rfl (fun _ _ => rfl)), (mi), (by exact m_int rfl), (by exact m_int (by omega)), trivial⟩, trivial, trivial⟩
  · exact Nat.zero_le _
  intro k hi0
  refine sq (env2 := [(0, .int .i64 p), (1, rowA n c), (2, .int .i64 r), (7, .int .i64 (hG p r 1 c n k)), (8, .int .i64 ((n : Int) - 1 - (k : Int)))]) (ol2 := []) rfl rfl ?_
  refine snd_seq ?_
  apply sr tokTB (by kernel_rfl)
  · intro RR hRR
    refine wm ?_
    refine w_geq rfl rfl ?_
    exact hRR
  refine snd_cond _ rfl (fun hc13 => ?_) (fun hc13 => ?_)
  · try simp only [hcs] at hc13
    have e : ((n : Int) - 1 - (k : Int)).toNat = n - 1 - k := by omega
    have hk1 := hcb (n - 1 - k) (by omega)
    have hk2 := hcb ((n : Int) - 1 - (k : Int)).toNat (by omega)
    have hk3 := hhb k
    have hmb := mul_bd (a := hG p r 1 c n k) (b := r) (A := 13) (B := 13) (by omega) (by omega)
    have lt_k : k < n := by omega
    refine snd_skip ?_
    refine snd_seq ?_
    refine snd_block ?_
    apply lr tokTB (by kernel_rfl)
    · intro RR hRR
      refine wm ?_
      refine wm ?_
      refine w_mul rfl rfl (by exact w64 (n := hG p r 1 c n k * r) (by omega) (by omega)) ?_
      refine wm ?_
      refine wm ?_
      refine w_iar rfl rfl und24 kn2 (by exact sz2.symm) ?_ rfl ?_
      · exact ⟨by omega, by omega⟩
      first | refine w_ldc rfl kn2 (by constructor) (by exact sz2.symm) (by exact ag2.symm) ?_ | refine w_ldp rfl kn2 rfl (by constructor) (by exact sz2.symm) (by exact ag2.symm) ?_
      refine w_add rfl rfl (by exact w64 (n := hG p r 1 c n k * r + c ((n : Int) - 1 - (k : Int)).toNat) (by omega) (by omega)) ?_
      refine wm ?_
      refine w_rem rfl rfl (by first | assumption | omega) ?_
      refine wa ?_
      exact hRR
    apply lr tokTB (by kernel_rfl)
    · intro RR hRR
      refine wm ?_
      refine y_sub rfl rfl ?_
      refine wa ?_
      exact hRR
    refine ⟨k + 1, ρ0, ?_, (by omega), (by dsimp only; omega)⟩
    exact ⟨⟨(mi), (by first | exact mt_row (V := _) (fun _ _ => rfl) | exact mt_fz (by exact trivial) rfl (fun _ _ => rfl)), (mi), (by exact m_int (by rw [Int.tmod_eq_emod_of_nonneg (by omega), e]; rfl)), (by exact m_int (by omega)), trivial⟩, trivial, trivial⟩
  · try simp only [hcs] at hc13
    have ge_k : n = k := by omega
    subst ge_k
    refine snd_exit ?_
    apply sr tokTB (by kernel_rfl)
    · intro RR hRR
      refine wm ?_
      refine wa ?_
      exact hRR
    refine snd_ret ?_
    exact rt (T := TB) (fun V => m_int (hG_fv (by omega) r c n (by omega)))
theorem c_l09Roots {p : Int} {n : Nat} {c : Nat → Int} (h : PO p n c) : ACalls Tryz.prog TB 32 [.int .i64 p, rowA n c] (.own 0 0 (roN p n c) 2) [(0, .one (Z64 (roN p n c)) (C64 (roN p n c) (fun i => ((roF p n c i : Nat) : Int))))] := by
  have hpb := primeB_bd h.1
  have hn := h.2.1
  have hcb := h.2.2
  refine acalls_of tokTB Tryz.func32 rfl rfl (Nat.le_of_ble_eq_true rfl) ?_
  apply sr tokTB (by kernel_rfl)
  · intro RR hRR
    refine wa ?_
    exact hRR
  apply sr tokTB (by kernel_rfl)
  · intro RR hRR
    refine w_bsl und24 kn2 (by rw [sz2]; rfl) rfl trivial trivial rfl ?_
    refine wa ?_
    exact hRR
  refine snd_seq ?_
  apply sr tokTB (by kernel_rfl)
  · intro RR hRR
    refine wa ?_
    exact hRR
  refine snd_block ?_
  refine snd_loop (S := Nat) (fun r => ([(0, .int .i64 p), (1, rowA n c), (5, .own 905 0 (enN (rtB p n c) (r)) 2), (6, .int .i64 (r : Int))], [(905, .one (Z64 (enN (rtB p n c) (r))) (C64 (enN (rtB p n c) (r)) (fun i => ((enF (rtB p n c) (r) i : Nat) : Int))))])) (fun r => r ≤ p.toNat) (fun r => p.toNat - r) (0) (fun k i => bif Nat.beq k 905 then (7, i) else (k, i)) ?_ ?_ ?_
  · exact ⟨⟨(mi), (by first | exact mt_row (V := _) (fun _ _ => rfl) | exact mt_fz (by exact ⟨(ne_fst rfl), trivial⟩) rfl (fun _ _ => rfl)), (by first | exact ⟨rfl, rfl, rfl, rfl⟩ | exact ⟨rfl, by omega, rfl, rfl⟩), (mi), trivial⟩, ⟨⟨rfl, (sx), (by exact mt_arr0)⟩, trivial⟩, ⟨⟨(fun h => by first | exact ⟨rfl, rfl⟩ | exact absurd h (by decide)), trivial⟩, trivial⟩⟩
  · exact Nat.zero_le _
  intro r hi0
  refine sq (env2 := [(0, .int .i64 p), (1, rowA n c), (5, .own 905 0 (enN (rtB p n c) (r)) 2), (6, .int .i64 (r : Int))]) (ol2 := [(905, .one (Z64 (enN (rtB p n c) (r))) (C64 (enN (rtB p n c) (r)) (fun i => ((enF (rtB p n c) (r) i : Nat) : Int))))]) rfl rfl ?_
  refine snd_seq ?_
  apply sr tokTB (by kernel_rfl)
  · intro RR hRR
    refine wm ?_
    refine wm ?_
    refine w_lss rfl rfl ?_
    exact hRR
  refine snd_cond _ rfl (fun hc10 => ?_) (fun hc10 => ?_)
  · try simp only [hcs] at hc10
    have lt_r : r < p.toNat := by omega
    have hle := enN_le (rtB p n c) r
    refine snd_skip ?_
    refine snd_seq ?_
    refine snd_block ?_
    apply sr tokTB (by kernel_rfl)
    · intro RR hRR
      refine wm ?_
      refine wm ?_
      refine wm ?_
      refine y_call rfl (ec (ec (ec exn))) (c_l09At h (r := (r : Int)) (by omega)) ?_
      refine w_eql rfl rfl ?_
      exact hRR
    refine snd_cond _ rfl (fun hc17 => ?_) (fun hc17 => ?_)
    · skip
      have hB : rtB p n c r = true := hc17
      have hs := en_t hB
      apply lr tokTB (by kernel_rfl)
      · intro RR hRR
        refine wm ?_
        refine wm ?_
        refine w_bsl1 und24 kn2 (by rw [sz2]; rfl) rfl (by constructor) (by first | exact trivial | exact cel_cap2) (by exact sz2.symm) (by first | exact trivial | exact ssh_vec | exact ⟨rfl, fun _ => trivial⟩) ?_
        refine w_app_o und24 rfl rfl kn2 rfl rfl (fun C h => ⟨rfl, rfl, rfl, h⟩) (by rw [by2]; omega) (by omega) rfl ?_
        refine wa ?_
        exact hRR
      apply lr tokTB (by kernel_rfl)
      · intro RR hRR
        refine wm ?_
        refine y_add rfl rfl ?_
        refine wa ?_
        exact hRR
      refine ⟨r + 1, (fun k i => bif Nat.beq k 905 then (21, i) else (k, i)), ?_, (by omega), (by dsimp only; omega)⟩
      exact ⟨⟨(mi), (by first | exact mt_row (V := _) (fun _ _ => rfl) | exact mt_fz (by exact ⟨(ne_fst rfl), trivial⟩) rfl (fun _ _ => rfl)), (by exact ⟨rfl, hs.symm, rfl, rfl⟩), (mi), trivial⟩, ⟨⟨(by exact congrArg (fun q => AV.arr q _) hs.symm), (sx), (by exact mt_app' hs.symm (fun j hj => congrArg (fun q : Nat => AV.int .i64 (q : Int)) (enF_o hj).symm) (congrArg (fun q : Nat => AV.int .i64 (q : Int)) (enF_t hB).symm))⟩, trivial⟩, ⟨⟨(fun h => by first | exact ⟨rfl, rfl⟩ | exact absurd h (by decide)), trivial⟩, trivial⟩⟩
    · skip
      have hB : rtB p n c r = false := hc17
      have hs := en_f hB
      refine snd_skip ?_
      apply lr tokTB (by kernel_rfl)
      · intro RR hRR
        refine wm ?_
        refine y_add rfl rfl ?_
        refine wa ?_
        exact hRR
      refine ⟨r + 1, ρ0, ?_, (by omega), (by dsimp only; omega)⟩
      exact ⟨⟨(mi), (by first | exact mt_row (V := _) (fun _ _ => rfl) | exact mt_fz (by exact ⟨(ne_fst rfl), trivial⟩) rfl (fun _ _ => rfl)), (by exact ⟨rfl, hs.symm, rfl, rfl⟩), (mi), trivial⟩, ⟨⟨(by exact congrArg (fun q => AV.arr q _) hs.symm), (sx), (by exact ⟨hs.symm, fun j hj => congrArg (fun q : Nat => AV.int .i64 (q : Int)) (enF_n hB).symm⟩)⟩, trivial⟩, ⟨⟨(fun h => by first | exact ⟨rfl, rfl⟩ | exact absurd h (by decide)), trivial⟩, trivial⟩⟩
  · try simp only [hcs] at hc10
    have ge_r : p.toNat = r := by omega
    subst ge_r
    have hle := enN_le (rtB p n c) p.toNat
    refine snd_exit ?_
    apply sr tokTB (by kernel_rfl)
    · intro RR hRR
      refine wm ?_
      refine wa ?_
      exact hRR
    refine snd_ret ?_
    show retQ TB _ _ _ _ _ _
    exact rt_own rfl rfl rfl (fun _ => trivial) (fun V i hi => rfl)
theorem c_valueSl {p : Int} {n : Nat} {c : Nat → Int} (h : PO p n c) {r : Int} (hr : 0 ≤ r ∧ r < p) : ACalls Tryz.prog TB 63 [.int .i64 p, rowA n (slI p n c), .int .i64 r] (.int .i64 (slP p n c r)) [] := by
  have hpb := primeB_bd h.1
  have hn := h.2.1
  have := c_valueAt (p := p) (r := r) (n := n) (f := slI p n c) (by omega) (by omega) (by omega) (fun j _ => by have h1 := Int.emod_nonneg (((j : Int) + 1) * vc n c (j + 1)) (show p ≠ 0 by omega); have h2 := Int.emod_lt_of_pos (((j : Int) + 1) * vc n c (j + 1)) (show 0 < p by omega); exact ⟨h1, by unfold slI; omega⟩)
  rwa [sl_i (by omega)] at this
theorem c_slope {p : Int} {n : Nat} {c : Nat → Int} (h : PO p n c) {r : Int} (hr : 0 ≤ r ∧ r < p) : ACalls Tryz.prog TB 46 [.int .i64 p, rowA n c, .int .i64 r] (.int .i64 (slP p n c r)) [] := by
  have hpb := primeB_bd h.1
  have hn := h.2.1
  have hcb := h.2.2
  have hvb : ∀ j, j < n + 1 → 0 ≤ vc n c j ∧ vc n c j ≤ 13 := fun j hj => by rcases Nat.lt_or_ge j n with q | q; (rw [vc_lt q]; have := hcb j q; omega); (obtain rfl : j = n := (by omega); rw [vc_d]; omega)
  refine acalls_of tokTB Tryz.func46 rfl rfl (Nat.le_of_ble_eq_true rfl) ?_
  apply sr tokTB (by kernel_rfl)
  · intro RR hRR
    refine wa ?_
    exact hRR
  apply sr tokTB (by kernel_rfl)
  · intro RR hRR
    refine wm ?_
    refine w_call rfl (ec exn) (c_Clone1 (n := n) (f := c) (by omega) (by omega)) (.inl ⟨trivial, ⟨fun _ => trivial, trivial⟩⟩) rfl (by constructor) rfl ?_
    refine w_bsl1 und24 kn2 (by rw [sz2]; rfl) rfl (by constructor) (by first | exact trivial | exact cel_cap2) (by exact sz2.symm) (by first | exact trivial | exact ssh_vec | exact ⟨rfl, fun _ => trivial⟩) ?_
    refine w_app_o und24 rfl rfl kn2 rfl rfl (fun C h => ⟨rfl, rfl, rfl, h⟩) (by rw [by2]; omega) (by omega) rfl ?_
    refine w_bsl und24 kn2 (by rw [sz2]; rfl) rfl trivial trivial rfl ?_
    refine wa ?_
    refine wa ?_
    exact hRR
  refine snd_seq ?_
  refine snd_emb (ρ := ρ0) (env2 := [(0, .int .i64 p), (2, .int .i64 r), (7, rowA (n + 1) (vc n c)), (8, .own 15 0 0 2)]) (ol2 := [(15, .one (Z64 0) (C64 0 (fun _ => 0)))]) ?_ ?_
  · exact ⟨⟨(mi), (mi), (by exact mt_fz (by exact ⟨(ne_fst rfl), trivial⟩) rfl (fun j hj => vc_app hj (fun _ _ => rfl) rfl)), (by first | exact ⟨rfl, rfl, rfl, rfl⟩ | exact ⟨rfl, by omega, rfl, rfl⟩), trivial⟩, ⟨⟨rfl, (sx), (by exact mt_arr0)⟩, trivial⟩, ⟨⟨(fun h => by first | exact ⟨rfl, rfl⟩ | exact absurd h (by decide)), trivial⟩, trivial⟩⟩
  apply sr tokTB (by kernel_rfl)
  · intro RR hRR
    refine wm ?_
    refine w_sl_rl (m := 1) (n := n + 1) rfl rfl und24 kn2 (by exact sz2.symm) rfl (show 1 ≤ n + 1 by omega) ?_
    refine w_len_r rfl rfl und24 ?_
    refine wm ?_
    exact hRR
  refine snd_block ?_
  refine snd_loop (S := Nat) (fun i => ([(0, .int .i64 p), (2, .int .i64 r), (8, .own 908 0 i 2), (17, rowA n (fun i => vc n c (1 + i))), (18, .int .i64 (n : Int)), (19, .int .i64 (i : Int))], [(908, .one (Z64 i) (C64 i (slI p n c)))])) (fun i => i ≤ n) (fun i => n - i) (0) (fun k i => bif Nat.beq k 908 then (15, i) else (k, i)) ?_ ?_ ?_
  · exact ⟨⟨(mi), (mi), (by first | exact ⟨rfl, rfl, rfl, rfl⟩ | exact ⟨rfl, by omega, rfl, rfl⟩), (by first | exact mt_row (V := _) (fun _ _ => rfl) | exact mt_fz (by exact ⟨(ne_fst rfl), trivial⟩) rfl (fun _ _ => rfl)), (mi), (mi), trivial⟩, ⟨⟨rfl, (sx), (by exact mt_arr0)⟩, trivial⟩, ⟨⟨(fun h => by first | exact ⟨rfl, rfl⟩ | exact absurd h (by decide)), trivial⟩, trivial⟩⟩
  · exact Nat.zero_le _
  intro i hi0
  refine sq (env2 := [(0, .int .i64 p), (2, .int .i64 r), (8, .own 908 0 i 2), (17, rowA n (fun i => vc n c (1 + i))), (18, .int .i64 (n : Int)), (19, .int .i64 (i : Int))]) (ol2 := [(908, .one (Z64 i) (C64 i (slI p n c)))]) rfl rfl ?_
  apply sr tokTB (by kernel_rfl)
  · intro RR hRR
    refine w_lss rfl rfl ?_
    exact hRR
  refine snd_seq ?_
  refine snd_cond _ rfl (fun hc20 => ?_) (fun hc20 => ?_)
  · try simp only [hcs] at hc20
    have lt_i : i < n := by omega
    have hv1 := hvb (1 + i) (by omega)
    have hmb := mul_bd (a := (i : Int) + 1) (b := vc n c (1 + i)) (A := 7) (B := 13) (by omega) hv1
    refine snd_skip ?_
    refine snd_seq ?_
    refine snd_block ?_
    apply sr tokTB (by kernel_rfl)
    · intro RR hRR
      refine wm ?_
      refine w_iar rfl rfl und24 kn2 (by exact sz2.symm) ?_ rfl ?_
      · exact ⟨by omega, by omega⟩
      first | refine w_ldc rfl kn2 (by constructor) (by exact sz2.symm) (by exact ag2.symm) ?_ | refine w_ldp rfl kn2 rfl (by constructor) (by exact sz2.symm) (by exact ag2.symm) ?_
      refine wa ?_
      refine wa ?_
      exact hRR
    apply lr tokTB (by kernel_rfl)
    · intro RR hRR
      refine wm ?_
      refine wm ?_
      refine y_add rfl rfl ?_
      refine wm ?_
      refine w_mul rfl rfl (by exact w64 (n := ((i : Int) + 1) * vc n c (1 + i)) (by omega) (by omega)) ?_
      refine wm ?_
      refine w_rem rfl rfl (by first | assumption | omega) ?_
      refine w_bsl1 und24 kn2 (by rw [sz2]; rfl) rfl (by constructor) (by first | exact trivial | exact cel_cap2) (by exact sz2.symm) (by first | exact trivial | exact ssh_vec | exact ⟨rfl, fun _ => trivial⟩) ?_
      refine w_app_o und24 rfl rfl kn2 rfl rfl (fun C h => ⟨rfl, rfl, rfl, h⟩) (by rw [by2]; omega) (by omega) rfl ?_
      refine wa ?_
      exact hRR
    apply lr tokTB (by kernel_rfl)
    · intro RR hRR
      refine y_add rfl rfl ?_
      refine wm ?_
      exact hRR
    refine ⟨i + 1, (fun k i => bif Nat.beq k 908 then (32, i) else (k, i)), ?_, (by omega), (by dsimp only; omega)⟩
    exact ⟨⟨(mi), (mi), (by first | exact ⟨rfl, rfl, rfl, rfl⟩ | exact ⟨rfl, by omega, rfl, rfl⟩), (by first | exact mt_row (V := _) (fun _ _ => rfl) | exact mt_fz (by exact ⟨(ne_fst rfl), trivial⟩) rfl (fun _ _ => rfl)), (mi), (mi), trivial⟩, ⟨⟨rfl, (sx), (by exact mt_app (fun _ _ => rfl) (congrArg (AV.int .i64) (by show _ = ((i : Int) + 1) * vc n c (i + 1) % p; rw [Nat.add_comm i 1]; exact Int.tmod_eq_emod_of_nonneg hmb.1)))⟩, trivial⟩, ⟨⟨(fun h => by first | exact ⟨rfl, rfl⟩ | exact absurd h (by decide)), trivial⟩, trivial⟩⟩
  · try simp only [hcs] at hc20
    have ge_i : n = i := by omega
    subst ge_i
    refine snd_exit ?_
    apply sr tokTB (by kernel_rfl)
    · intro RR hRR
      refine wm ?_
      refine wm ?_
      refine wm ?_
      refine y_call rfl rfl ((c_valueSl h hr).mt ⟨mt_int0, mt_row0 rfl, mt_int0, trivial⟩) ?_
      refine wa ?_
      exact hRR
    refine snd_ret ?_
    exact rt (T := TB) (fun V => m_int rfl)
theorem c_l09Slope {p : Int} {n : Nat} {c : Nat → Int} (h : PO p n c) {r : Int} (hr : 0 ≤ r ∧ r < p) : ACalls Tryz.prog TB 50 [.int .i64 p, rowA n c, .int .i64 r] (.int .i64 (slP p n c r)) [] := by
  have hpb := primeB_bd h.1
  have hn := h.2.1
  have hcb := h.2.2
  have hnp : 0 ≤ (n : Int) % p ∧ (n : Int) % p < p := ⟨Int.emod_nonneg _ (by omega), Int.emod_lt_of_pos _ (by omega)⟩
  have hhb := hG_bd (p := p) (by omega) r ((n : Int) % p) (slS c) n hnp
  refine acalls_of tokTB Tryz.func50 rfl rfl (Nat.le_of_ble_eq_true rfl) ?_
  apply sr tokTB (by kernel_rfl)
  · intro RR hRR
    refine wa ?_
    exact hRR
  apply sr tokTB (by kernel_rfl)
  · intro RR hRR
    refine wm ?_
    refine w_len_r rfl rfl und24 ?_
    refine wm ?_
    refine w_rem rfl rfl (by first | assumption | omega) ?_
    refine wa ?_
    exact hRR
  refine snd_seq ?_
  apply sr tokTB (by kernel_rfl)
  · intro RR hRR
    refine wm ?_
    refine w_len_r rfl rfl und24 ?_
    refine y_sub rfl rfl ?_
    refine wa ?_
    exact hRR
  refine snd_block ?_
  refine snd_loop (S := Nat) (fun k => ([(0, .int .i64 p), (1, rowA n c), (2, .int .i64 r), (7, .int .i64 (hG p r ((n : Int) % p) (slS c) n k)), (8, .int .i64 ((n : Int) - 1 - (k : Int)))], [])) (fun k => k ≤ (n - 1)) (fun k => (n - 1) - k) (0) ρ0 ?_ ?_ ?_
  · exact ⟨⟨(mi), (by first | exact mt_row (V := _) (fun _ _ => rfl) | exact mt_fz (by exact trivial) rfl (fun _ _ => rfl)), (mi), (by exact m_int (Int.tmod_eq_emod_of_nonneg (by omega))), (by exact m_int (by omega)), trivial⟩, trivial, trivial⟩
  · exact Nat.zero_le _
  intro k hi0
  refine sq (env2 := [(0, .int .i64 p), (1, rowA n c), (2, .int .i64 r), (7, .int .i64 (hG p r ((n : Int) % p) (slS c) n k)), (8, .int .i64 ((n : Int) - 1 - (k : Int)))]) (ol2 := []) rfl rfl ?_
  refine snd_seq ?_
  apply sr tokTB (by kernel_rfl)
  · intro RR hRR
    refine wm ?_
    refine w_gtr rfl rfl ?_
    exact hRR
  refine snd_cond _ rfl (fun hc17 => ?_) (fun hc17 => ?_)
  · try simp only [hcs] at hc17
    have lt_k : k < n - 1 := by omega
    have e : ((n : Int) - 1 - (k : Int)).toNat = n - 1 - k := by omega
    have e2 : (n : Int) - 1 - (k : Int) = ((n - 1 - k : Nat) : Int) := by omega
    have hk2 := hcb ((n : Int) - 1 - (k : Int)).toNat (by omega)
    have hk3 := hhb k
    have hmb := mul_bd (a := hG p r ((n : Int) % p) (slS c) n k) (b := r) (A := 13) (B := 13) (by omega) (by omega)
    have hmc := mul_bd (a := (n : Int) - 1 - (k : Int)) (b := c ((n : Int) - 1 - (k : Int)).toNat) (A := 7) (B := 13) (by omega) (by omega)
    refine snd_skip ?_
    refine snd_seq ?_
    refine snd_block ?_
    apply lr tokTB (by kernel_rfl)
    · intro RR hRR
      refine wm ?_
      refine wm ?_
      refine w_mul rfl rfl (by exact w64 (n := hG p r ((n : Int) % p) (slS c) n k * r) (by omega) (by omega)) ?_
      refine wm ?_
      refine wm ?_
      refine wm ?_
      refine w_iar rfl rfl und24 kn2 (by exact sz2.symm) ?_ rfl ?_
      · exact ⟨by omega, by omega⟩
      first | refine w_ldc rfl kn2 (by constructor) (by exact sz2.symm) (by exact ag2.symm) ?_ | refine w_ldp rfl kn2 rfl (by constructor) (by exact sz2.symm) (by exact ag2.symm) ?_
      refine w_mul rfl rfl (by exact w64 (n := ((n : Int) - 1 - (k : Int)) * c ((n : Int) - 1 - (k : Int)).toNat) (by omega) (by omega)) ?_
      refine w_add rfl rfl (by exact w64 (n := hG p r ((n : Int) % p) (slS c) n k * r + ((n : Int) - 1 - (k : Int)) * c ((n : Int) - 1 - (k : Int)).toNat) (by omega) (by omega)) ?_
      refine wm ?_
      refine w_rem rfl rfl (by first | assumption | omega) ?_
      refine wa ?_
      exact hRR
    apply lr tokTB (by kernel_rfl)
    · intro RR hRR
      refine wm ?_
      refine y_sub rfl rfl ?_
      refine wa ?_
      exact hRR
    refine ⟨k + 1, ρ0, ?_, (by omega), (by dsimp only; omega)⟩
    exact ⟨⟨(mi), (by first | exact mt_row (V := _) (fun _ _ => rfl) | exact mt_fz (by exact trivial) rfl (fun _ _ => rfl)), (mi), (by exact m_int (by rw [Int.tmod_eq_emod_of_nonneg (by omega), e, e2]; rfl)), (by exact m_int (by omega)), trivial⟩, trivial, trivial⟩
  · try simp only [hcs] at hc17
    have ge_k : n - 1 = k := by omega
    subst ge_k
    refine snd_exit ?_
    apply sr tokTB (by kernel_rfl)
    · intro RR hRR
      refine wm ?_
      refine wa ?_
      exact hRR
    refine snd_ret ?_
    exact rt (T := TB) (fun V => m_int (sl_s (by omega) r c n (by omega)))
end Go.Am

set_option maxRecDepth 4000
namespace Go.Am
attribute [local irreducible] retQ retQp
open Go.Proofs
theorem c_sPolyAlg_ok {p : Int} {n : Nat} {c : Nat → Int} (h : PO p n c) (hp0 : -1000000 ≤ p ∧ p ≤ 1000000) (hn0 : n ≤ 1000) : ACalls Tryz.prog TB 7 [.int .i64 p, rowA n c] (.tup 2 (pairA (algA p (n : Int) (polT p n (cutF c n)) (polO n)) (.int .i64 0))) [] := by
  refine acalls_of tokTB Tryz.func7 rfl rfl (Nat.le_of_ble_eq_true rfl) ?_
  apply sr tokTB (by kernel_rfl)
  · intro RR hRR
    refine w_alloc kn32 rfl zr32 ?_
    refine wa ?_
    exact hRR
  refine snd_seq ?_
  apply sr tokTB (by kernel_rfl)
  · intro RR hRR
    refine wm ?_
    refine wm ?_
    refine y_call rfl (ec (ec exn)) ((poC_t h) ▸ c_l09Poly (f := c) hp0 hn0) ?_
    refine wa ?_
    exact hRR
  apply sr tokTB (by kernel_rfl)
  · intro RR hRR
    refine wm ?_
    refine w_neq rfl rfl ?_
    exact hRR
  refine snd_cond_false rfl ?_
  refine snd_skip ?_
  apply sr tokTB (by kernel_rfl)
  · intro RR hRR
    refine wm ?_
    refine wm ?_
    refine y_call rfl (ec (ec exn)) (c_l09Algebra h) ?_
    refine w_stw rfl (by constructor) kn32 rfl (by exact trivial) (sx) (by exact sz32.symm) ?_
    refine wa ?_
    exact hRR
  refine snd_ret ?_
  show retQ TB _ _ _ _ _ _
  exact rt_ct (T := TB) rfl kn32 rfl (by exact sz32.symm) (by exact ag32.symm) (fun V => m_alg) (fun V => rfl)
theorem c_sPolyAlg_no {p : Int} {n : Nat} {c : Nat → Int} (hp0 : -1000000 ≤ p ∧ p ≤ 1000000) (hn0 : n ≤ 1000) (h : ¬ PO p n c) : ACalls Tryz.prog TB 7 [.int .i64 p, rowA n c] (.tup 2 (pairA (algA 0 0 (fun _ _ _ => 0) (fun _ => 0)) (.int .i64 2))) [] := by
  refine acalls_of tokTB Tryz.func7 rfl rfl (Nat.le_of_ble_eq_true rfl) ?_
  apply sr tokTB (by kernel_rfl)
  · intro RR hRR
    refine w_alloc kn32 rfl zr32 ?_
    refine wa ?_
    exact hRR
  refine snd_seq ?_
  apply sr tokTB (by kernel_rfl)
  · intro RR hRR
    refine wm ?_
    refine wm ?_
    refine y_call rfl (ec (ec exn)) ((poC_f h) ▸ c_l09Poly (f := c) hp0 hn0) ?_
    refine wa ?_
    exact hRR
  apply sr tokTB (by kernel_rfl)
  · intro RR hRR
    refine wm ?_
    refine w_neq rfl rfl ?_
    exact hRR
  refine snd_cond_true rfl ?_
  apply sr tokTB (by kernel_rfl)
  · intro RR hRR
    refine w_bld_s kn32 zr32 und32 rfl (by exact ⟨rfl, kn2, sz2, rfl, kn2, sz2, rfl, kn29, sz29, rfl, kn30, sz30, trivial⟩) trivial rfl ?_
    refine wm ?_
    refine w_stw rfl (by constructor) kn32 rfl (by exact trivial) (sx) (by exact sz32.symm) ?_
    refine wa ?_
    exact hRR
  refine snd_ret ?_
  show retQ TB _ _ _ _ _ _
  exact rt_ct (T := TB) rfl kn32 rfl (by exact sz32.symm) (by exact ag32.symm) (fun V => m_alg) (fun V => rfl)
theorem c_iRootsOf_ok {p : Int} {n : Nat} {c : Nat → Int} (h : PO p n c) (hp0 : -1000000 ≤ p ∧ p ≤ 1000000) (hn0 : n ≤ 1000) : ACalls Tryz.prog TB 8 [.int .i64 p, rowA n c] (.tup 2 (pairA (.own 0 0 (roN p n c) 2) (.int .i64 0))) [(0, .one (Z64 (roN p n c)) (C64 (roN p n c) (fun i => ((roF p n c i : Nat) : Int))))] := by
  refine acalls_of tokTB Tryz.func8 rfl rfl (Nat.le_of_ble_eq_true rfl) ?_
  apply sr tokTB (by kernel_rfl)
  · intro RR hRR
    refine wa ?_
    refine wa ?_
    exact hRR
  refine snd_seq ?_
  apply sr tokTB (by kernel_rfl)
  · intro RR hRR
    refine wm ?_
    refine wm ?_
    refine y_call rfl (ec (ec exn)) (((poB_PO (p := p) (n := n) (f := c)).trans (decide_eq_true h)) ▸ c_polynomialOk (f := c) hp0 hn0) ?_
    refine w_not rfl ?_
    exact hRR
  refine snd_cond_false rfl ?_
  refine snd_skip ?_
  apply sr tokTB (by kernel_rfl)
  · intro RR hRR
    refine wm ?_
    refine wm ?_
    refine w_call rfl (ec (ec exn)) (c_roots h) (.inl ⟨trivial, ⟨fun _ => trivial, trivial⟩⟩) rfl (by constructor) rfl ?_
    refine wa ?_
    refine wa ?_
    exact hRR
  refine snd_ret ?_
  show retQ TB _ _ _ _ _ _
  show retQ TB _ _ _ _ _ _
  exact rt_own_u rfl (fun V => rfl) rfl rfl (fun _ => trivial) (fun V i hi => rfl)
theorem c_iRootsOf_no {p : Int} {n : Nat} {c : Nat → Int} (hp0 : -1000000 ≤ p ∧ p ≤ 1000000) (hn0 : n ≤ 1000) (h : ¬ PO p n c) : ACalls Tryz.prog TB 8 [.int .i64 p, rowA n c] (.tup 2 (pairA .nilsl (.int .i64 2))) [] := by
  refine acalls_of tokTB Tryz.func8 rfl rfl (Nat.le_of_ble_eq_true rfl) ?_
  apply sr tokTB (by kernel_rfl)
  · intro RR hRR
    refine wa ?_
    refine wa ?_
    exact hRR
  refine snd_seq ?_
  apply sr tokTB (by kernel_rfl)
  · intro RR hRR
    refine wm ?_
    refine wm ?_
    refine y_call rfl (ec (ec exn)) (((poB_PO (p := p) (n := n) (f := c)).trans (decide_eq_false h)) ▸ c_polynomialOk (f := c) hp0 hn0) ?_
    refine w_not rfl ?_
    exact hRR
  refine snd_cond_true rfl ?_
  apply sr tokTB (by kernel_rfl)
  · intro RR hRR
    refine wa ?_
    refine wa ?_
    exact hRR
  refine snd_ret ?_
  exact rt_tt (T := TB) (fun V => rfl) (fun V => rfl)
theorem c_sRootsOf_ok {p : Int} {n : Nat} {c : Nat → Int} (h : PO p n c) (hp0 : -1000000 ≤ p ∧ p ≤ 1000000) (hn0 : n ≤ 1000) : ACalls Tryz.prog TB 9 [.int .i64 p, rowA n c] (.tup 2 (pairA (.own 0 0 (roN p n c) 2) (.int .i64 0))) [(0, .one (Z64 (roN p n c)) (C64 (roN p n c) (fun i => ((roF p n c i : Nat) : Int))))] := by
  refine acalls_of tokTB Tryz.func9 rfl rfl (Nat.le_of_ble_eq_true rfl) ?_
  apply sr tokTB (by kernel_rfl)
  · intro RR hRR
    refine wa ?_
    refine wa ?_
    exact hRR
  refine snd_seq ?_
  apply sr tokTB (by kernel_rfl)
  · intro RR hRR
    refine wm ?_
    refine wm ?_
    refine y_call rfl (ec (ec exn)) ((poC_t h) ▸ c_l09Poly (f := c) hp0 hn0) ?_
    refine wa ?_
    exact hRR
  apply sr tokTB (by kernel_rfl)
  · intro RR hRR
    refine wm ?_
    refine w_neq rfl rfl ?_
    exact hRR
  refine snd_cond_false rfl ?_
  refine snd_skip ?_
  apply sr tokTB (by kernel_rfl)
  · intro RR hRR
    refine wm ?_
    refine wm ?_
    refine w_call rfl (ec (ec exn)) (c_l09Roots h) (.inl ⟨trivial, ⟨fun _ => trivial, trivial⟩⟩) rfl (by constructor) rfl ?_
    refine wa ?_
    refine wa ?_
    exact hRR
  refine snd_ret ?_
  show retQ TB _ _ _ _ _ _
  show retQ TB _ _ _ _ _ _
  exact rt_own_u rfl (fun V => rfl) rfl rfl (fun _ => trivial) (fun V i hi => rfl)
theorem c_sRootsOf_no {p : Int} {n : Nat} {c : Nat → Int} (hp0 : -1000000 ≤ p ∧ p ≤ 1000000) (hn0 : n ≤ 1000) (h : ¬ PO p n c) : ACalls Tryz.prog TB 9 [.int .i64 p, rowA n c] (.tup 2 (pairA .nilsl (.int .i64 2))) [] := by
  refine acalls_of tokTB Tryz.func9 rfl rfl (Nat.le_of_ble_eq_true rfl) ?_
  apply sr tokTB (by kernel_rfl)
  · intro RR hRR
    refine wa ?_
    refine wa ?_
    exact hRR
  refine snd_seq ?_
  apply sr tokTB (by kernel_rfl)
  · intro RR hRR
    refine wm ?_
    refine wm ?_
    refine y_call rfl (ec (ec exn)) ((poC_f h) ▸ c_l09Poly (f := c) hp0 hn0) ?_
    refine wa ?_
    exact hRR
  apply sr tokTB (by kernel_rfl)
  · intro RR hRR
    refine wm ?_
    refine w_neq rfl rfl ?_
    exact hRR
  refine snd_cond_true rfl ?_
  apply sr tokTB (by kernel_rfl)
  · intro RR hRR
    refine wm ?_
    refine wa ?_
    refine wa ?_
    exact hRR
  refine snd_ret ?_
  exact rt_tt (T := TB) (fun V => rfl) (fun V => rfl)
theorem c_iSlopeAt_ok {p : Int} {n : Nat} {c : Nat → Int} (h : PO p n c) (hp0 : -1000000 ≤ p ∧ p ≤ 1000000) (hn0 : n ≤ 1000) {r : Int} (hr : 0 ≤ r ∧ r ≤ p - 1) : ACalls Tryz.prog TB 21 [.int .i64 p, rowA n c, .int .i64 r] (.tup 2 (pairA (.int .i64 (slP p n c r)) (.int .i64 0))) [] := by
  refine acalls_of tokTB Tryz.func21 rfl rfl (Nat.le_of_ble_eq_true rfl) ?_
  apply sr tokTB (by kernel_rfl)
  · intro RR hRR
    refine wa ?_
    refine wa ?_
    exact hRR
  refine snd_seq ?_
  apply srG (env' := (18, .bool (!(poB p n c) || !(decide (0 ≤ r) && decide (r ≤ p - 1)))) :: (17, .any) :: (16, .any) :: (15, .any) :: (14, .any) :: (13, .any) :: (12, .bool (!(poB p n c))) :: (11, .bool (!(poB p n c))) :: (10, _) :: (9, _) :: (8, _) :: _) tokTB (by kernel_rfl)
  · intro RR hRR
    refine wm ?_
    refine wm ?_
    refine y_call rfl (ec (ec exn)) (c_polynomialOk (f := c) hp0 hn0) ?_
    refine w_not rfl ?_
    refine wm ?_
    refine w_g rfl rfl (fun hg4 => ?_) (fun hg4 => ?_)
    · skip
      refine wm ?_
      refine w_g_on rfl rfl hg4 ?_
      refine wm ?_
      refine w_g_on rfl rfl hg4 ?_
      refine y_sub rfl rfl ?_
      refine w_g_on rfl rfl hg4 ?_
      refine y_call rfl (ec (ec (ec exn))) (c_in) ?_
      refine w_g_on rfl rfl hg4 ?_
      refine w_not rfl ?_
      refine w_pick_0 rfl hg4 (by constructor) ?_
      try simp only [Int.toNat_natCast] at hg4
      exact hRR _ (EL.cons (.inr (by first | rfl | (simp only [hg4, els]; done) | (simp only [hg4, els]; rfl) | (simp [hg4]; done) | (clear hRR; simp_all; done))) (EL.cons (.inl rfl) (EL.cons (.inl rfl) (EL.cons (.inl rfl) (EL.cons (.inl rfl) (EL.cons (.inl rfl) (EL.cons (.inr (by first | rfl | (simp only [hg4, els]; done) | (simp only [hg4, els]; rfl) | (simp [hg4]; done) | (clear hRR; simp_all; done))) (EL.cons (.inr (by first | rfl | (simp only [hg4, els]; done) | (simp only [hg4, els]; rfl) | (simp [hg4]; done) | (clear hRR; simp_all; done))) (EL.cons (.inr rfl) (EL.cons (.inr rfl) (EL.cons (.inr rfl) (EL.refl _))))))))))))
    · have hg4 := eq_true_of_ne_false hg4
      refine w_g_off rfl rfl (by rw [hg4]; decide) ?_
      refine w_g_off rfl rfl (by rw [hg4]; decide) ?_
      refine w_g_off rfl rfl (by rw [hg4]; decide) ?_
      refine w_g_off rfl rfl (by rw [hg4]; decide) ?_
      refine w_pick_1 rfl hg4 (by constructor) ?_
      try simp only [Int.toNat_natCast] at hg4
      exact hRR _ (EL.cons (.inr (by first | rfl | (simp only [hg4, els]; done) | (simp only [hg4, els]; rfl) | (simp [hg4]; done) | (clear hRR; simp_all; done))) (EL.cons (.inl rfl) (EL.cons (.inl rfl) (EL.cons (.inl rfl) (EL.cons (.inl rfl) (EL.cons (.inl rfl) (EL.cons (.inr (by first | rfl | (simp only [hg4, els]; done) | (simp only [hg4, els]; rfl) | (simp [hg4]; done) | (clear hRR; simp_all; done))) (EL.cons (.inr (by first | rfl | (simp only [hg4, els]; done) | (simp only [hg4, els]; rfl) | (simp [hg4]; done) | (clear hRR; simp_all; done))) (EL.cons (.inr rfl) (EL.cons (.inr rfl) (EL.cons (.inr rfl) (EL.refl _))))))))))))
  refine snd_cond_false (by exact congrArg AV.bool (chkI_t h hr)) ?_
  refine snd_skip ?_
  apply sr tokTB (by kernel_rfl)
  · intro RR hRR
    refine wm ?_
    refine wm ?_
    refine wm ?_
    refine y_call rfl (ec (ec (ec exn))) (c_slope h (r := r) (by omega)) ?_
    refine wa ?_
    refine wa ?_
    exact hRR
  refine snd_ret ?_
  exact rt_tt (T := TB) (fun V => rfl) (fun V => rfl)
theorem c_iSlopeAt_no {p : Int} {n : Nat} {c : Nat → Int} (hp0 : -1000000 ≤ p ∧ p ≤ 1000000) (hn0 : n ≤ 1000) {r : Int} (h : ¬ (PO p n c ∧ 0 ≤ r ∧ r ≤ p - 1)) : ACalls Tryz.prog TB 21 [.int .i64 p, rowA n c, .int .i64 r] (.tup 2 (pairA (.int .i64 0) (.int .i64 2))) [] := by
  refine acalls_of tokTB Tryz.func21 rfl rfl (Nat.le_of_ble_eq_true rfl) ?_
  apply sr tokTB (by kernel_rfl)
  · intro RR hRR
    refine wa ?_
    refine wa ?_
    exact hRR
  refine snd_seq ?_
  apply srG (env' := (18, .bool (!(poB p n c) || !(decide (0 ≤ r) && decide (r ≤ p - 1)))) :: (17, .any) :: (16, .any) :: (15, .any) :: (14, .any) :: (13, .any) :: (12, .bool (!(poB p n c))) :: (11, .bool (!(poB p n c))) :: (10, _) :: (9, _) :: (8, _) :: _) tokTB (by kernel_rfl)
  · intro RR hRR
    refine wm ?_
    refine wm ?_
    refine y_call rfl (ec (ec exn)) (c_polynomialOk (f := c) hp0 hn0) ?_
    refine w_not rfl ?_
    refine wm ?_
    refine w_g rfl rfl (fun hg4 => ?_) (fun hg4 => ?_)
    · skip
      refine wm ?_
      refine w_g_on rfl rfl hg4 ?_
      refine wm ?_
      refine w_g_on rfl rfl hg4 ?_
      refine y_sub rfl rfl ?_
      refine w_g_on rfl rfl hg4 ?_
      refine y_call rfl (ec (ec (ec exn))) (c_in) ?_
      refine w_g_on rfl rfl hg4 ?_
      refine w_not rfl ?_
      refine w_pick_0 rfl hg4 (by constructor) ?_
      try simp only [Int.toNat_natCast] at hg4
      exact hRR _ (EL.cons (.inr (by first | rfl | (simp only [hg4, els]; done) | (simp only [hg4, els]; rfl) | (simp [hg4]; done) | (clear hRR; simp_all; done))) (EL.cons (.inl rfl) (EL.cons (.inl rfl) (EL.cons (.inl rfl) (EL.cons (.inl rfl) (EL.cons (.inl rfl) (EL.cons (.inr (by first | rfl | (simp only [hg4, els]; done) | (simp only [hg4, els]; rfl) | (simp [hg4]; done) | (clear hRR; simp_all; done))) (EL.cons (.inr (by first | rfl | (simp only [hg4, els]; done) | (simp only [hg4, els]; rfl) | (simp [hg4]; done) | (clear hRR; simp_all; done))) (EL.cons (.inr rfl) (EL.cons (.inr rfl) (EL.cons (.inr rfl) (EL.refl _))))))))))))
    · have hg4 := eq_true_of_ne_false hg4
      refine w_g_off rfl rfl (by rw [hg4]; decide) ?_
      refine w_g_off rfl rfl (by rw [hg4]; decide) ?_
      refine w_g_off rfl rfl (by rw [hg4]; decide) ?_
      refine w_g_off rfl rfl (by rw [hg4]; decide) ?_
      refine w_pick_1 rfl hg4 (by constructor) ?_
      try simp only [Int.toNat_natCast] at hg4
      exact hRR _ (EL.cons (.inr (by first | rfl | (simp only [hg4, els]; done) | (simp only [hg4, els]; rfl) | (simp [hg4]; done) | (clear hRR; simp_all; done))) (EL.cons (.inl rfl) (EL.cons (.inl rfl) (EL.cons (.inl rfl) (EL.cons (.inl rfl) (EL.cons (.inl rfl) (EL.cons (.inr (by first | rfl | (simp only [hg4, els]; done) | (simp only [hg4, els]; rfl) | (simp [hg4]; done) | (clear hRR; simp_all; done))) (EL.cons (.inr (by first | rfl | (simp only [hg4, els]; done) | (simp only [hg4, els]; rfl) | (simp [hg4]; done) | (clear hRR; simp_all; done))) (EL.cons (.inr rfl) (EL.cons (.inr rfl) (EL.cons (.inr rfl) (EL.refl _))))))))))))
  refine snd_cond_true (by exact congrArg AV.bool (chkI_f h)) ?_
  apply sr tokTB (by kernel_rfl)
  · intro RR hRR
    refine wa ?_
    refine wa ?_
    exact hRR
  refine snd_ret ?_
  exact rt_tt (T := TB) (fun V => rfl) (fun V => rfl)
theorem c_sSlopeAt_ok {p : Int} {n : Nat} {c : Nat → Int} (h : PO p n c) (hp0 : -1000000 ≤ p ∧ p ≤ 1000000) (hn0 : n ≤ 1000) {r : Int} (hr : 0 ≤ r ∧ r ≤ p - 1) : ACalls Tryz.prog TB 22 [.int .i64 p, rowA n c, .int .i64 r] (.tup 2 (pairA (.int .i64 (slP p n c r)) (.int .i64 0))) [] := by
  refine acalls_of tokTB Tryz.func22 rfl rfl (Nat.le_of_ble_eq_true rfl) ?_
  apply sr tokTB (by kernel_rfl)
  · intro RR hRR
    refine wa ?_
    refine wa ?_
    exact hRR
  refine snd_seq ?_
  apply srG (env' := (18, .bool (decide (poC p n c ≠ 0) || !(decide (0 ≤ r) && decide (r ≤ p - 1)))) :: (17, .any) :: (16, .any) :: (15, .any) :: (14, .any) :: (13, .any) :: (12, .bool (decide (poC p n c ≠ 0))) :: (11, .bool (decide (poC p n c ≠ 0))) :: (10, _) :: (9, _) :: (8, _) :: _) tokTB (by kernel_rfl)
  · intro RR hRR
    refine wm ?_
    refine wm ?_
    refine y_call rfl (ec (ec exn)) (c_l09Poly (f := c) hp0 hn0) ?_
    refine w_neq rfl rfl ?_
    refine wm ?_
    refine w_g rfl rfl (fun hg4 => ?_) (fun hg4 => ?_)
    · skip
      refine wm ?_
      refine w_g_on rfl rfl hg4 ?_
      refine wm ?_
      refine w_g_on rfl rfl hg4 ?_
      refine y_sub rfl rfl ?_
      refine w_g_on rfl rfl hg4 ?_
      refine y_call rfl (ec (ec (ec exn))) (c_l01In) ?_
      refine w_g_on rfl rfl hg4 ?_
      refine w_not rfl ?_
      refine w_pick_0 rfl hg4 (by constructor) ?_
      try simp only [Int.toNat_natCast] at hg4
      exact hRR _ (EL.cons (.inr (by first | rfl | (simp only [hg4, els]; done) | (simp only [hg4, els]; rfl) | (simp [hg4]; done) | (clear hRR; simp_all; done))) (EL.cons (.inl rfl) (EL.cons (.inl rfl) (EL.cons (.inl rfl) (EL.cons (.inl rfl) (EL.cons (.inl rfl) (EL.cons (.inr (by first | rfl | (simp only [hg4, els]; done) | (simp only [hg4, els]; rfl) | (simp [hg4]; done) | (clear hRR; simp_all; done))) (EL.cons (.inr (by first | rfl | (simp only [hg4, els]; done) | (simp only [hg4, els]; rfl) | (simp [hg4]; done) | (clear hRR; simp_all; done))) (EL.cons (.inr rfl) (EL.cons (.inr rfl) (EL.cons (.inr rfl) (EL.refl _))))))))))))
    · have hg4 := eq_true_of_ne_false hg4
      refine w_g_off rfl rfl (by rw [hg4]; decide) ?_
      refine w_g_off rfl rfl (by rw [hg4]; decide) ?_
      refine w_g_off rfl rfl (by rw [hg4]; decide) ?_
      refine w_g_off rfl rfl (by rw [hg4]; decide) ?_
      refine w_pick_1 rfl hg4 (by constructor) ?_
      try simp only [Int.toNat_natCast] at hg4
      exact hRR _ (EL.cons (.inr (by first | rfl | (simp only [hg4, els]; done) | (simp only [hg4, els]; rfl) | (simp [hg4]; done) | (clear hRR; simp_all; done))) (EL.cons (.inl rfl) (EL.cons (.inl rfl) (EL.cons (.inl rfl) (EL.cons (.inl rfl) (EL.cons (.inl rfl) (EL.cons (.inr (by first | rfl | (simp only [hg4, els]; done) | (simp only [hg4, els]; rfl) | (simp [hg4]; done) | (clear hRR; simp_all; done))) (EL.cons (.inr (by first | rfl | (simp only [hg4, els]; done) | (simp only [hg4, els]; rfl) | (simp [hg4]; done) | (clear hRR; simp_all; done))) (EL.cons (.inr rfl) (EL.cons (.inr rfl) (EL.cons (.inr rfl) (EL.refl _))))))))))))
  refine snd_cond_false (by exact congrArg AV.bool (chkS_t h hr)) ?_
  refine snd_skip ?_
  apply sr tokTB (by kernel_rfl)
  · intro RR hRR
    refine wm ?_
    refine wm ?_
    refine wm ?_
    refine y_call rfl (ec (ec (ec exn))) (c_l09Slope h (r := r) (by omega)) ?_
    refine wa ?_
    refine wa ?_
    exact hRR
  refine snd_ret ?_
  exact rt_tt (T := TB) (fun V => rfl) (fun V => rfl)
theorem c_sSlopeAt_no {p : Int} {n : Nat} {c : Nat → Int} (hp0 : -1000000 ≤ p ∧ p ≤ 1000000) (hn0 : n ≤ 1000) {r : Int} (h : ¬ (PO p n c ∧ 0 ≤ r ∧ r ≤ p - 1)) : ACalls Tryz.prog TB 22 [.int .i64 p, rowA n c, .int .i64 r] (.tup 2 (pairA (.int .i64 0) (.int .i64 2))) [] := by
  refine acalls_of tokTB Tryz.func22 rfl rfl (Nat.le_of_ble_eq_true rfl) ?_
  apply sr tokTB (by kernel_rfl)
  · intro RR hRR
    refine wa ?_
    refine wa ?_
    exact hRR
  refine snd_seq ?_
  apply srG (env' := (18, .bool (decide (poC p n c ≠ 0) || !(decide (0 ≤ r) && decide (r ≤ p - 1)))) :: (17, .any) :: (16, .any) :: (15, .any) :: (14, .any) :: (13, .any) :: (12, .bool (decide (poC p n c ≠ 0))) :: (11, .bool (decide (poC p n c ≠ 0))) :: (10, _) :: (9, _) :: (8, _) :: _) tokTB (by kernel_rfl)
  · intro RR hRR
    refine wm ?_
    refine wm ?_
    refine y_call rfl (ec (ec exn)) (c_l09Poly (f := c) hp0 hn0) ?_
    refine w_neq rfl rfl ?_
    refine wm ?_
    refine w_g rfl rfl (fun hg4 => ?_) (fun hg4 => ?_)
    · skip
      refine wm ?_
      refine w_g_on rfl rfl hg4 ?_
      refine wm ?_
      refine w_g_on rfl rfl hg4 ?_
      refine y_sub rfl rfl ?_
      refine w_g_on rfl rfl hg4 ?_
      refine y_call rfl (ec (ec (ec exn))) (c_l01In) ?_
      refine w_g_on rfl rfl hg4 ?_
      refine w_not rfl ?_
      refine w_pick_0 rfl hg4 (by constructor) ?_
      try simp only [Int.toNat_natCast] at hg4
      exact hRR _ (EL.cons (.inr (by first | rfl | (simp only [hg4, els]; done) | (simp only [hg4, els]; rfl) | (simp [hg4]; done) | (clear hRR; simp_all; done))) (EL.cons (.inl rfl) (EL.cons (.inl rfl) (EL.cons (.inl rfl) (EL.cons (.inl rfl) (EL.cons (.inl rfl) (EL.cons (.inr (by first | rfl | (simp only [hg4, els]; done) | (simp only [hg4, els]; rfl) | (simp [hg4]; done) | (clear hRR; simp_all; done))) (EL.cons (.inr (by first | rfl | (simp only [hg4, els]; done) | (simp only [hg4, els]; rfl) | (simp [hg4]; done) | (clear hRR; simp_all; done))) (EL.cons (.inr rfl) (EL.cons (.inr rfl) (EL.cons (.inr rfl) (EL.refl _))))))))))))
    · have hg4 := eq_true_of_ne_false hg4
      refine w_g_off rfl rfl (by rw [hg4]; decide) ?_
      refine w_g_off rfl rfl (by rw [hg4]; decide) ?_
      refine w_g_off rfl rfl (by rw [hg4]; decide) ?_
      refine w_g_off rfl rfl (by rw [hg4]; decide) ?_
      refine w_pick_1 rfl hg4 (by constructor) ?_
      try simp only [Int.toNat_natCast] at hg4
      exact hRR _ (EL.cons (.inr (by first | rfl | (simp only [hg4, els]; done) | (simp only [hg4, els]; rfl) | (simp [hg4]; done) | (clear hRR; simp_all; done))) (EL.cons (.inl rfl) (EL.cons (.inl rfl) (EL.cons (.inl rfl) (EL.cons (.inl rfl) (EL.cons (.inl rfl) (EL.cons (.inr (by first | rfl | (simp only [hg4, els]; done) | (simp only [hg4, els]; rfl) | (simp [hg4]; done) | (clear hRR; simp_all; done))) (EL.cons (.inr (by first | rfl | (simp only [hg4, els]; done) | (simp only [hg4, els]; rfl) | (simp [hg4]; done) | (clear hRR; simp_all; done))) (EL.cons (.inr rfl) (EL.cons (.inr rfl) (EL.cons (.inr rfl) (EL.refl _))))))))))))
  refine snd_cond_true (by exact congrArg AV.bool (chkS_f h)) ?_
  apply sr tokTB (by kernel_rfl)
  · intro RR hRR
    refine wa ?_
    refine wa ?_
    exact hRR
  refine snd_ret ?_
  exact rt_tt (T := TB) (fun V => rfl) (fun V => rfl)
theorem c_iRootNumber_ok {p : Int} {n : Nat} {c : Nat → Int} (h : PO p n c) (hp0 : -1000000 ≤ p ∧ p ≤ 1000000) (hn0 : n ≤ 1000) (hN : roN p n c = n) {g : Nat} (hg : g ≤ 30) : ACalls Tryz.prog TB 14 [.int .i64 p, rowA n c, .int .i64 (g : Int)] (.tup 2 (pairA (.int .i64 (rnF p n c g)) (.int .i64 0))) [] := by
  have hpb := primeB_bd h.1
  have hn := h.2.1
  have hcb := h.2.2
  refine acalls_of tokTB Tryz.func14 rfl rfl (Nat.le_of_ble_eq_true rfl) ?_
  apply sr tokTB (by kernel_rfl)
  · intro RR hRR
    refine wa ?_
    refine wa ?_
    exact hRR
  refine snd_seq ?_
  apply srG (env' := (21, .bool (!(poB p n c) || !(decide (0 ≤ (g : Int)) && decide ((g : Int) ≤ 30)))) :: (20, .any) :: (19, .any) :: (18, .any) :: (17, .bool (!(poB p n c))) :: (16, .bool (!(poB p n c))) :: (15, _) :: (14, _) :: (13, _) :: _) tokTB (by kernel_rfl)
  · intro RR hRR
    refine wm ?_
    refine wm ?_
    refine y_call rfl (ec (ec exn)) (c_polynomialOk (f := c) hp0 hn0) ?_
    refine w_not rfl ?_
    refine wm ?_
    refine w_g rfl rfl (fun hg4 => ?_) (fun hg4 => ?_)
    · skip
      refine wm ?_
      refine w_g_on rfl rfl hg4 ?_
      refine y_call rfl (ec (ec (ec exn))) (c_in) ?_
      refine w_g_on rfl rfl hg4 ?_
      refine w_not rfl ?_
      refine w_pick_0 rfl hg4 (by constructor) ?_
      try simp only [Int.toNat_natCast] at hg4
      exact hRR _ (EL.cons (.inr (by first | rfl | (simp only [hg4, els]; done) | (simp only [hg4, els]; rfl) | (simp [hg4]; done) | (clear hRR; simp_all; done))) (EL.cons (.inl rfl) (EL.cons (.inl rfl) (EL.cons (.inl rfl) (EL.cons (.inr (by first | rfl | (simp only [hg4, els]; done) | (simp only [hg4, els]; rfl) | (simp [hg4]; done) | (clear hRR; simp_all; done))) (EL.cons (.inr (by first | rfl | (simp only [hg4, els]; done) | (simp only [hg4, els]; rfl) | (simp [hg4]; done) | (clear hRR; simp_all; done))) (EL.cons (.inr rfl) (EL.cons (.inr rfl) (EL.cons (.inr rfl) (EL.refl _))))))))))
    · have hg4 := eq_true_of_ne_false hg4
      refine w_g_off rfl rfl (by rw [hg4]; decide) ?_
      refine w_g_off rfl rfl (by rw [hg4]; decide) ?_
      refine w_pick_1 rfl hg4 (by constructor) ?_
      try simp only [Int.toNat_natCast] at hg4
      exact hRR _ (EL.cons (.inr (by first | rfl | (simp only [hg4, els]; done) | (simp only [hg4, els]; rfl) | (simp [hg4]; done) | (clear hRR; simp_all; done))) (EL.cons (.inl rfl) (EL.cons (.inl rfl) (EL.cons (.inl rfl) (EL.cons (.inr (by first | rfl | (simp only [hg4, els]; done) | (simp only [hg4, els]; rfl) | (simp [hg4]; done) | (clear hRR; simp_all; done))) (EL.cons (.inr (by first | rfl | (simp only [hg4, els]; done) | (simp only [hg4, els]; rfl) | (simp [hg4]; done) | (clear hRR; simp_all; done))) (EL.cons (.inr rfl) (EL.cons (.inr rfl) (EL.cons (.inr rfl) (EL.refl _))))))))))
  refine snd_cond_false (by exact congrArg AV.bool (chkI_t h ⟨by omega, by omega⟩)) ?_
  refine snd_skip ?_
  apply sr tokTB (by kernel_rfl)
  · intro RR hRR
    refine wm ?_
    refine wm ?_
    refine w_call rfl (ec (ec exn)) (c_roots h) (.inl ⟨trivial, ⟨fun _ => trivial, trivial⟩⟩) rfl (by constructor) rfl ?_
    refine wa ?_
    exact hRR
  refine snd_seq ?_
  apply sr tokTB (by kernel_rfl)
  · intro RR hRR
    refine wm ?_
    refine w_len_o rfl rfl und24 ?_
    refine wm ?_
    refine w_len_r rfl rfl und24 ?_
    refine w_lss rfl rfl ?_
    exact hRR
  refine snd_cond_false (by exact congrArg AV.bool (decide_eq_false (by omega))) ?_
  refine snd_skip ?_
  refine snd_emb (ρ := ρ0) (env2 := [(0, .int .i64 p), (1, rowA n c), (2, .int .i64 (g : Int)), (8, rowA (roN p n c) (fun i => ((roF p n c i : Nat) : Int)))]) (ol2 := []) ?_ ?_
  · exact ⟨⟨(mi), (by first | exact mt_row (V := _) (fun _ _ => rfl) | exact mt_fz (by exact trivial) rfl (fun _ _ => rfl)), (mi), (by exact mt_fz trivial rfl (fun _ _ => rfl)), trivial⟩, trivial, trivial⟩
  apply sr tokTB (by kernel_rfl)
  · intro RR hRR
    refine wa ?_
    exact hRR
  refine snd_seq ?_
  apply sr tokTB (by kernel_rfl)
  · intro RR hRR
    refine wm ?_
    refine w_len_r rfl rfl und24 ?_
    refine wm ?_
    exact hRR
  refine snd_block ?_
  refine snd_loop (S := Nat) (fun i => ([(0, .int .i64 p), (1, rowA n c), (2, .int .i64 (g : Int)), (9, .int .i64 (sumZ (rnI p n c g) i)), (30, rowA (roN p n c) (fun i => ((roF p n c i : Nat) : Int))), (31, .int .i64 (((roN p n c) : Nat) : Int)), (32, .int .i64 (i : Int))], [])) (fun i => i ≤ n) (fun i => n - i) (0) ρ0 ?_ ?_ ?_
  · exact ⟨⟨(mi), (by first | exact mt_row (V := _) (fun _ _ => rfl) | exact mt_fz (by exact trivial) rfl (fun _ _ => rfl)), (mi), (by exact m_int rfl), (by first | exact mt_row (V := _) (fun _ _ => rfl) | exact mt_fz (by exact trivial) rfl (fun _ _ => rfl)), (mi), (mi), trivial⟩, trivial, trivial⟩
  · exact Nat.zero_le _
  intro i hi0
  refine sq (env2 := [(0, .int .i64 p), (1, rowA n c), (2, .int .i64 (g : Int)), (9, .int .i64 (sumZ (rnI p n c g) i)), (30, rowA (roN p n c) (fun i => ((roF p n c i : Nat) : Int))), (31, .int .i64 (((roN p n c) : Nat) : Int)), (32, .int .i64 (i : Int))]) (ol2 := []) rfl rfl ?_
  apply sr tokTB (by kernel_rfl)
  · intro RR hRR
    refine w_lss rfl rfl ?_
    exact hRR
  refine snd_seq ?_
  refine snd_cond _ rfl (fun hc33 => ?_) (fun hc33 => ?_)
  · try simp only [hcs] at hc33
    have lt_i : i < n := by omega
    have hro := (ro_in (p := p) (d := n) (c := c) (i := i) (by omega)).1
    have hsl := slP_bd (p := p) (n := n) (c := c) (by omega) ((roF p n c i : Nat) : Int)
    have hsl2 : 0 ≤ slR p n c i ∧ slR p n c i < p := hsl
    have hrb := rnI_bd (p := p) (n := n) (c := c) hpb g
    have hsm := sumZ_bd hrb i
    have hri := hrb i
    have hre : rnI p n c g i = invF p (slR p n c i) * powF (slR p n c i) p g := rfl
    refine snd_skip ?_
    refine snd_seq ?_
    refine snd_block ?_
    apply sr tokTB (by kernel_rfl)
    · intro RR hRR
      refine w_iar rfl rfl und24 kn2 (by exact sz2.symm) ?_ rfl ?_
      · exact ⟨by omega, by omega⟩
      first | refine w_ldc rfl kn2 (by constructor) (by exact sz2.symm) (by exact ag2.symm) ?_ | refine w_ldp rfl kn2 rfl (by constructor) (by exact sz2.symm) (by exact ag2.symm) ?_
      refine wa ?_
      exact hRR
    apply sr tokTB (by kernel_rfl)
    · intro RR hRR
      refine wm ?_
      refine wm ?_
      refine wm ?_
      refine y_call rfl (ec (ec (ec exn))) (c_slope h (r := ((roF p n c i : Nat) : Int)) (by omega)) ?_
      refine wa ?_
      exact hRR
    apply lr tokTB (by kernel_rfl)
    · intro RR hRR
      refine wm ?_
      refine wm ?_
      refine wm ?_
      refine y_call rfl (ec (ec exn)) (c_inverseI (x := slR p n c i) (p := p) (by omega) (by omega) (by omega)) ?_
      refine wm ?_
      refine wm ?_
      refine wm ?_
      refine y_call rfl (ec (ec (ec exn))) (c_powerI (x := slR p n c i) (p := p) (k := g) (by omega) (by omega) (by omega) (by omega)) ?_
      refine w_mul rfl rfl (by exact w64 (n := invF p (slR p n c i) * powF (slR p n c i) p g) (by omega) (by omega)) ?_
      refine w_add rfl rfl (by exact w64 (n := sumZ (rnI p n c g) i + invF p (slR p n c i) * powF (slR p n c i) p g) (by omega) (by omega)) ?_
      refine wa ?_
      exact hRR
    apply lr tokTB (by kernel_rfl)
    · intro RR hRR
      refine y_add rfl rfl ?_
      refine wm ?_
      exact hRR
    refine ⟨i + 1, ρ0, ?_, (by omega), (by dsimp only; omega)⟩
    exact ⟨⟨(mi), (by first | exact mt_row (V := _) (fun _ _ => rfl) | exact mt_fz (by exact trivial) rfl (fun _ _ => rfl)), (mi), (by exact m_int rfl), (by first | exact mt_row (V := _) (fun _ _ => rfl) | exact mt_fz (by exact trivial) rfl (fun _ _ => rfl)), (mi), (mi), trivial⟩, trivial, trivial⟩
  · try simp only [hcs] at hc33
    have ge_i : n = i := by omega
    subst ge_i
    have hsm := sumZ_bd (rnI_bd (p := p) (n := n) (c := c) hpb g) n
    refine snd_exit ?_
    apply sr tokTB (by kernel_rfl)
    · intro RR hRR
      refine wm ?_
      refine wm ?_
      refine w_rem rfl rfl (by first | assumption | omega) ?_
      refine wa ?_
      refine wa ?_
      exact hRR
    refine snd_ret ?_
    exact rt_tt (T := TB) (fun V => congrArg (AV.int .i64) (by rw [← rnI_eq]; exact Int.tmod_eq_emod_of_nonneg hsm.1)) (fun V => rfl)
theorem c_iRootNumber_st {p : Int} {n : Nat} {c : Nat → Int} (h : PO p n c) (hp0 : -1000000 ≤ p ∧ p ≤ 1000000) (hn0 : n ≤ 1000) (hN : ¬ roN p n c = n) {g : Nat} (hg : g ≤ 30) : ACalls Tryz.prog TB 14 [.int .i64 p, rowA n c, .int .i64 (g : Int)] (.tup 2 (pairA (.int .i64 0) (.int .i64 5))) [] := by
  have hpb := primeB_bd h.1
  have hn := h.2.1
  have hcb := h.2.2
  have hle := ro_le h.1 n c
  refine acalls_of tokTB Tryz.func14 rfl rfl (Nat.le_of_ble_eq_true rfl) ?_
  apply sr tokTB (by kernel_rfl)
  · intro RR hRR
    refine wa ?_
    refine wa ?_
    exact hRR
  refine snd_seq ?_
  apply srG (env' := (21, .bool (!(poB p n c) || !(decide (0 ≤ (g : Int)) && decide ((g : Int) ≤ 30)))) :: (20, .any) :: (19, .any) :: (18, .any) :: (17, .bool (!(poB p n c))) :: (16, .bool (!(poB p n c))) :: (15, _) :: (14, _) :: (13, _) :: _) tokTB (by kernel_rfl)
  · intro RR hRR
    refine wm ?_
    refine wm ?_
    refine y_call rfl (ec (ec exn)) (c_polynomialOk (f := c) hp0 hn0) ?_
    refine w_not rfl ?_
    refine wm ?_
    refine w_g rfl rfl (fun hg4 => ?_) (fun hg4 => ?_)
    · skip
      refine wm ?_
      refine w_g_on rfl rfl hg4 ?_
      refine y_call rfl (ec (ec (ec exn))) (c_in) ?_
      refine w_g_on rfl rfl hg4 ?_
      refine w_not rfl ?_
      refine w_pick_0 rfl hg4 (by constructor) ?_
      try simp only [Int.toNat_natCast] at hg4
      exact hRR _ (EL.cons (.inr (by first | rfl | (simp only [hg4, els]; done) | (simp only [hg4, els]; rfl) | (simp [hg4]; done) | (clear hRR; simp_all; done))) (EL.cons (.inl rfl) (EL.cons (.inl rfl) (EL.cons (.inl rfl) (EL.cons (.inr (by first | rfl | (simp only [hg4, els]; done) | (simp only [hg4, els]; rfl) | (simp [hg4]; done) | (clear hRR; simp_all; done))) (EL.cons (.inr (by first | rfl | (simp only [hg4, els]; done) | (simp only [hg4, els]; rfl) | (simp [hg4]; done) | (clear hRR; simp_all; done))) (EL.cons (.inr rfl) (EL.cons (.inr rfl) (EL.cons (.inr rfl) (EL.refl _))))))))))
    · have hg4 := eq_true_of_ne_false hg4
      refine w_g_off rfl rfl (by rw [hg4]; decide) ?_
      refine w_g_off rfl rfl (by rw [hg4]; decide) ?_
      refine w_pick_1 rfl hg4 (by constructor) ?_
      try simp only [Int.toNat_natCast] at hg4
      exact hRR _ (EL.cons (.inr (by first | rfl | (simp only [hg4, els]; done) | (simp only [hg4, els]; rfl) | (simp [hg4]; done) | (clear hRR; simp_all; done))) (EL.cons (.inl rfl) (EL.cons (.inl rfl) (EL.cons (.inl rfl) (EL.cons (.inr (by first | rfl | (simp only [hg4, els]; done) | (simp only [hg4, els]; rfl) | (simp [hg4]; done) | (clear hRR; simp_all; done))) (EL.cons (.inr (by first | rfl | (simp only [hg4, els]; done) | (simp only [hg4, els]; rfl) | (simp [hg4]; done) | (clear hRR; simp_all; done))) (EL.cons (.inr rfl) (EL.cons (.inr rfl) (EL.cons (.inr rfl) (EL.refl _))))))))))
  refine snd_cond_false (by exact congrArg AV.bool (chkI_t h ⟨by omega, by omega⟩)) ?_
  refine snd_skip ?_
  apply sr tokTB (by kernel_rfl)
  · intro RR hRR
    refine wm ?_
    refine wm ?_
    refine w_call rfl (ec (ec exn)) (c_roots h) (.inl ⟨trivial, ⟨fun _ => trivial, trivial⟩⟩) rfl (by constructor) rfl ?_
    refine wa ?_
    exact hRR
  refine snd_seq ?_
  apply sr tokTB (by kernel_rfl)
  · intro RR hRR
    refine wm ?_
    refine w_len_o rfl rfl und24 ?_
    refine wm ?_
    refine w_len_r rfl rfl und24 ?_
    refine w_lss rfl rfl ?_
    exact hRR
  refine snd_cond_true (by exact congrArg AV.bool (decide_eq_true (by omega))) ?_
  apply sr tokTB (by kernel_rfl)
  · intro RR hRR
    refine wa ?_
    refine wa ?_
    exact hRR
  refine snd_ret ?_
  exact rt_tt (T := TB) (fun V => rfl) (fun V => rfl)
theorem c_iRootNumber_no {p : Int} {n : Nat} {c : Nat → Int} (hp0 : -1000000 ≤ p ∧ p ≤ 1000000) (hn0 : n ≤ 1000) {g0 : Int} (h : ¬ (PO p n c ∧ 0 ≤ g0 ∧ g0 ≤ 30)) : ACalls Tryz.prog TB 14 [.int .i64 p, rowA n c, .int .i64 g0] (.tup 2 (pairA (.int .i64 0) (.int .i64 2))) [] := by
  refine acalls_of tokTB Tryz.func14 rfl rfl (Nat.le_of_ble_eq_true rfl) ?_
  apply sr tokTB (by kernel_rfl)
  · intro RR hRR
    refine wa ?_
    refine wa ?_
    exact hRR
  refine snd_seq ?_
  apply srG (env' := (21, .bool (!(poB p n c) || !(decide (0 ≤ g0) && decide (g0 ≤ 30)))) :: (20, .any) :: (19, .any) :: (18, .any) :: (17, .bool (!(poB p n c))) :: (16, .bool (!(poB p n c))) :: (15, _) :: (14, _) :: (13, _) :: _) tokTB (by kernel_rfl)
  · intro RR hRR
    refine wm ?_
    refine wm ?_
    refine y_call rfl (ec (ec exn)) (c_polynomialOk (f := c) hp0 hn0) ?_
    refine w_not rfl ?_
    refine wm ?_
    refine w_g rfl rfl (fun hg4 => ?_) (fun hg4 => ?_)
    · skip
      refine wm ?_
      refine w_g_on rfl rfl hg4 ?_
      refine y_call rfl (ec (ec (ec exn))) (c_in) ?_
      refine w_g_on rfl rfl hg4 ?_
      refine w_not rfl ?_
      refine w_pick_0 rfl hg4 (by constructor) ?_
      try simp only [Int.toNat_natCast] at hg4
      exact hRR _ (EL.cons (.inr (by first | rfl | (simp only [hg4, els]; done) | (simp only [hg4, els]; rfl) | (simp [hg4]; done) | (clear hRR; simp_all; done))) (EL.cons (.inl rfl) (EL.cons (.inl rfl) (EL.cons (.inl rfl) (EL.cons (.inr (by first | rfl | (simp only [hg4, els]; done) | (simp only [hg4, els]; rfl) | (simp [hg4]; done) | (clear hRR; simp_all; done))) (EL.cons (.inr (by first | rfl | (simp only [hg4, els]; done) | (simp only [hg4, els]; rfl) | (simp [hg4]; done) | (clear hRR; simp_all; done))) (EL.cons (.inr rfl) (EL.cons (.inr rfl) (EL.cons (.inr rfl) (EL.refl _))))))))))
    · have hg4 := eq_true_of_ne_false hg4
      refine w_g_off rfl rfl (by rw [hg4]; decide) ?_
      refine w_g_off rfl rfl (by rw [hg4]; decide) ?_
      refine w_pick_1 rfl hg4 (by constructor) ?_
      try simp only [Int.toNat_natCast] at hg4
      exact hRR _ (EL.cons (.inr (by first | rfl | (simp only [hg4, els]; done) | (simp only [hg4, els]; rfl) | (simp [hg4]; done) | (clear hRR; simp_all; done))) (EL.cons (.inl rfl) (EL.cons (.inl rfl) (EL.cons (.inl rfl) (EL.cons (.inr (by first | rfl | (simp only [hg4, els]; done) | (simp only [hg4, els]; rfl) | (simp [hg4]; done) | (clear hRR; simp_all; done))) (EL.cons (.inr (by first | rfl | (simp only [hg4, els]; done) | (simp only [hg4, els]; rfl) | (simp [hg4]; done) | (clear hRR; simp_all; done))) (EL.cons (.inr rfl) (EL.cons (.inr rfl) (EL.cons (.inr rfl) (EL.refl _))))))))))
  refine snd_cond_true (by exact congrArg AV.bool (chkI_f h)) ?_
  apply sr tokTB (by kernel_rfl)
  · intro RR hRR
    refine wa ?_
    refine wa ?_
    exact hRR
  refine snd_ret ?_
  exact rt_tt (T := TB) (fun V => rfl) (fun V => rfl)
theorem c_sRootNumber_ok {p : Int} {n : Nat} {c : Nat → Int} (h : PO p n c) (hp0 : -1000000 ≤ p ∧ p ≤ 1000000) (hn0 : n ≤ 1000) (hN : roN p n c = n) {g : Nat} (hg : g ≤ 30) : ACalls Tryz.prog TB 15 [.int .i64 p, rowA n c, .int .i64 (g : Int)] (.tup 2 (pairA (.int .i64 (rnF p n c g)) (.int .i64 0))) [] := by
  have hpb := primeB_bd h.1
  have hn := h.2.1
  have hcb := h.2.2
  refine acalls_of tokTB Tryz.func15 rfl rfl (Nat.le_of_ble_eq_true rfl) ?_
  apply sr tokTB (by kernel_rfl)
  · intro RR hRR
    refine wa ?_
    refine wa ?_
    exact hRR
  refine snd_seq ?_
  apply srG (env' := (22, .bool (decide (poC p n c ≠ 0) || !(decide (0 ≤ (g : Int)) && decide ((g : Int) ≤ 30)))) :: (21, .any) :: (20, .any) :: (19, .any) :: (18, .bool (decide (poC p n c ≠ 0))) :: (17, .bool (decide (poC p n c ≠ 0))) :: (16, _) :: (15, _) :: (14, _) :: _) tokTB (by kernel_rfl)
  · intro RR hRR
    refine wm ?_
    refine wm ?_
    refine y_call rfl (ec (ec exn)) (c_l09Poly (f := c) hp0 hn0) ?_
    refine w_neq rfl rfl ?_
    refine wm ?_
    refine w_g rfl rfl (fun hg4 => ?_) (fun hg4 => ?_)
    · skip
      refine wm ?_
      refine w_g_on rfl rfl hg4 ?_
      refine y_call rfl (ec (ec (ec exn))) (c_l01In) ?_
      refine w_g_on rfl rfl hg4 ?_
      refine w_not rfl ?_
      refine w_pick_0 rfl hg4 (by constructor) ?_
      try simp only [Int.toNat_natCast] at hg4
      exact hRR _ (EL.cons (.inr (by first | rfl | (simp only [hg4, els]; done) | (simp only [hg4, els]; rfl) | (simp [hg4]; done) | (clear hRR; simp_all; done))) (EL.cons (.inl rfl) (EL.cons (.inl rfl) (EL.cons (.inl rfl) (EL.cons (.inr (by first | rfl | (simp only [hg4, els]; done) | (simp only [hg4, els]; rfl) | (simp [hg4]; done) | (clear hRR; simp_all; done))) (EL.cons (.inr (by first | rfl | (simp only [hg4, els]; done) | (simp only [hg4, els]; rfl) | (simp [hg4]; done) | (clear hRR; simp_all; done))) (EL.cons (.inr rfl) (EL.cons (.inr rfl) (EL.cons (.inr rfl) (EL.refl _))))))))))
    · have hg4 := eq_true_of_ne_false hg4
      refine w_g_off rfl rfl (by rw [hg4]; decide) ?_
      refine w_g_off rfl rfl (by rw [hg4]; decide) ?_
      refine w_pick_1 rfl hg4 (by constructor) ?_
      try simp only [Int.toNat_natCast] at hg4
      exact hRR _ (EL.cons (.inr (by first | rfl | (simp only [hg4, els]; done) | (simp only [hg4, els]; rfl) | (simp [hg4]; done) | (clear hRR; simp_all; done))) (EL.cons (.inl rfl) (EL.cons (.inl rfl) (EL.cons (.inl rfl) (EL.cons (.inr (by first | rfl | (simp only [hg4, els]; done) | (simp only [hg4, els]; rfl) | (simp [hg4]; done) | (clear hRR; simp_all; done))) (EL.cons (.inr (by first | rfl | (simp only [hg4, els]; done) | (simp only [hg4, els]; rfl) | (simp [hg4]; done) | (clear hRR; simp_all; done))) (EL.cons (.inr rfl) (EL.cons (.inr rfl) (EL.cons (.inr rfl) (EL.refl _))))))))))
  refine snd_cond_false (by exact congrArg AV.bool (chkS_t h ⟨by omega, by omega⟩)) ?_
  refine snd_skip ?_
  apply sr tokTB (by kernel_rfl)
  · intro RR hRR
    refine wm ?_
    refine wm ?_
    refine w_call rfl (ec (ec exn)) (c_l09Roots h) (.inl ⟨trivial, ⟨fun _ => trivial, trivial⟩⟩) rfl (by constructor) rfl ?_
    refine wa ?_
    refine wa ?_
    exact hRR
  refine snd_seq ?_
  apply sr tokTB (by kernel_rfl)
  · intro RR hRR
    refine wm ?_
    refine w_len_o rfl rfl und24 ?_
    refine wm ?_
    refine w_len_r rfl rfl und24 ?_
    refine w_neq rfl rfl ?_
    exact hRR
  refine snd_cond_false (by exact congrArg AV.bool (decide_eq_false (by omega))) ?_
  refine snd_skip ?_
  refine snd_seq ?_
  refine snd_emb (ρ := ρ0) (env2 := [(0, .int .i64 p), (1, rowA n c), (2, .int .i64 (g : Int)), (8, rowA (roN p n c) (fun i => ((roF p n c i : Nat) : Int))), (9, .int .i64 0)]) (ol2 := []) ?_ ?_
  · exact ⟨⟨(mi), (by first | exact mt_row (V := _) (fun _ _ => rfl) | exact mt_fz (by exact trivial) rfl (fun _ _ => rfl)), (mi), (by exact mt_fz trivial rfl (fun _ _ => rfl)), (mi), trivial⟩, trivial, trivial⟩
  apply sr tokTB (by kernel_rfl)
  · intro RR hRR
    refine wa ?_
    exact hRR
  refine snd_block ?_
  refine snd_loop (S := Nat) (fun i => ([(0, .int .i64 p), (1, rowA n c), (2, .int .i64 (g : Int)), (8, rowA (roN p n c) (fun i => ((roF p n c i : Nat) : Int))), (9, .int .i64 (sumZ (rnS p n c g) i)), (10, .int .i64 (i : Int))], [])) (fun i => i ≤ n) (fun i => n - i) (0) ρ0 ?_ ?_ ?_
  · exact ⟨⟨(mi), (by first | exact mt_row (V := _) (fun _ _ => rfl) | exact mt_fz (by exact trivial) rfl (fun _ _ => rfl)), (mi), (by first | exact mt_row (V := _) (fun _ _ => rfl) | exact mt_fz (by exact trivial) rfl (fun _ _ => rfl)), (by exact m_int rfl), (mi), trivial⟩, trivial, trivial⟩
  · exact Nat.zero_le _
  intro i hi0
  refine sq (env2 := [(0, .int .i64 p), (1, rowA n c), (2, .int .i64 (g : Int)), (8, rowA (roN p n c) (fun i => ((roF p n c i : Nat) : Int))), (9, .int .i64 (sumZ (rnS p n c g) i)), (10, .int .i64 (i : Int))]) (ol2 := []) rfl rfl ?_
  refine snd_seq ?_
  apply sr tokTB (by kernel_rfl)
  · intro RR hRR
    refine wm ?_
    refine wm ?_
    refine w_len_r rfl rfl und24 ?_
    refine w_lss rfl rfl ?_
    exact hRR
  refine snd_cond _ rfl (fun hc34 => ?_) (fun hc34 => ?_)
  · try simp only [hcs] at hc34
    have lt_i : i < n := by omega
    have hro := (ro_in (p := p) (d := n) (c := c) (i := i) (by omega)).1
    have hpos := slP_pos h.1 (by omega) hN lt_i
    have hsl : 0 ≤ slR p n c i ∧ slR p n c i < p := slP_bd (p := p) (n := n) (c := c) (by omega) ((roF p n c i : Nat) : Int)
    have hrb := rnS_bd (p := p) (n := n) (c := c) hpb g
    have hsm := sumZ_bd hrb i
    have hri := hrb i
    refine snd_skip ?_
    refine snd_seq ?_
    refine snd_block ?_
    apply sr tokTB (by kernel_rfl)
    · intro RR hRR
      refine wm ?_
      refine wm ?_
      refine wm ?_
      refine wm ?_
      refine w_iar rfl rfl und24 kn2 (by exact sz2.symm) ?_ rfl ?_
      · exact ⟨by omega, by omega⟩
      first | refine w_ldc rfl kn2 (by constructor) (by exact sz2.symm) (by exact ag2.symm) ?_ | refine w_ldp rfl kn2 rfl (by constructor) (by exact sz2.symm) (by exact ag2.symm) ?_
      refine y_call rfl (ec (ec (ec exn))) (c_l09Slope h (r := ((roF p n c i : Nat) : Int)) (by omega)) ?_
      refine wa ?_
      exact hRR
    apply sr tokTB (by kernel_rfl)
    · intro RR hRR
      refine wm ?_
      refine wm ?_
      refine y_call rfl (ec (ec exn)) (c_l01Inverse (x := slR p n c i) h.1 hpos hsl.2) ?_
      refine wa ?_
      exact hRR
    refine snd_seq ?_
    apply sr tokTB (by kernel_rfl)
    · intro RR hRR
      refine wm ?_
      refine wa ?_
      exact hRR
    refine snd_block ?_
    refine snd_loop (S := Nat) (fun k => ([(0, .int .i64 p), (1, rowA n c), (2, .int .i64 (g : Int)), (8, rowA (roN p n c) (fun i => ((roF p n c i : Nat) : Int))), (9, .int .i64 (sumZ (rnS p n c g) i)), (10, .int .i64 (i : Int)), (11, .int .i64 (slR p n c i)), (12, .int .i64 (owR p (slR p n c i) k)), (13, .int .i64 ((g : Int) - (k : Int)))], [])) (fun k => k ≤ g) (fun k => g - k) (0) ρ0 ?_ ?_ ?_
    · exact ⟨⟨(mi), (by first | exact mt_row (V := _) (fun _ _ => rfl) | exact mt_fz (by exact trivial) rfl (fun _ _ => rfl)), (mi), (by first | exact mt_row (V := _) (fun _ _ => rfl) | exact mt_fz (by exact trivial) rfl (fun _ _ => rfl)), (mi), (mi), (mi), (by exact m_int rfl), (by exact m_int (by omega)), trivial⟩, trivial, trivial⟩
    · exact Nat.zero_le _
    intro k hi2
    refine sq (env2 := [(0, .int .i64 p), (1, rowA n c), (2, .int .i64 (g : Int)), (8, rowA (roN p n c) (fun i => ((roF p n c i : Nat) : Int))), (9, .int .i64 (sumZ (rnS p n c g) i)), (10, .int .i64 (i : Int)), (11, .int .i64 (slR p n c i)), (12, .int .i64 (owR p (slR p n c i) k)), (13, .int .i64 ((g : Int) - (k : Int)))]) (ol2 := []) rfl rfl ?_
    refine snd_seq ?_
    apply sr tokTB (by kernel_rfl)
    · intro RR hRR
      refine wm ?_
      refine w_gtr rfl rfl ?_
      exact hRR
    refine snd_cond _ rfl (fun hc49 => ?_) (fun hc49 => ?_)
    · try simp only [hcs] at hc49
      have lt_k : k < g := by omega
      have how := owR_bd (p := p) (by omega) (slR p n c i) k
      have hmb := mul_bd (a := owR p (slR p n c i) k) (b := slR p n c i) (A := 13) (B := 13) (by omega) (by omega)
      refine snd_skip ?_
      refine snd_seq ?_
      refine snd_block ?_
      apply lr tokTB (by kernel_rfl)
      · intro RR hRR
        refine wm ?_
        refine wm ?_
        refine w_mul rfl rfl (by exact w64 (n := owR p (slR p n c i) k * slR p n c i) (by omega) (by omega)) ?_
        refine wm ?_
        refine w_rem rfl rfl (by first | assumption | omega) ?_
        refine wa ?_
        exact hRR
      apply lr tokTB (by kernel_rfl)
      · intro RR hRR
        refine wm ?_
        refine y_sub rfl rfl ?_
        refine wa ?_
        exact hRR
      refine ⟨k + 1, ρ0, ?_, (by omega), (by dsimp only; omega)⟩
      exact ⟨⟨(mi), (by first | exact mt_row (V := _) (fun _ _ => rfl) | exact mt_fz (by exact trivial) rfl (fun _ _ => rfl)), (mi), (by first | exact mt_row (V := _) (fun _ _ => rfl) | exact mt_fz (by exact trivial) rfl (fun _ _ => rfl)), (mi), (mi), (mi), (by exact m_int (by rw [Int.tmod_eq_emod_of_nonneg hmb.1]; rfl)), (by exact m_int (by omega)), trivial⟩, trivial, trivial⟩
    · try simp only [hcs] at hc49
      have ge_k : g = k := by omega
      subst ge_k
      have hre : rnS p n c g i = owR p (slR p n c i) g := rfl
      refine snd_exit ?_
      apply lr tokTB (by kernel_rfl)
      · intro RR hRR
        refine wm ?_
        refine wm ?_
        refine w_add rfl rfl (by exact w64 (n := sumZ (rnS p n c g) i + owR p (slR p n c i) g) (by omega) (by omega)) ?_
        refine wa ?_
        exact hRR
      apply lr tokTB (by kernel_rfl)
      · intro RR hRR
        refine wm ?_
        refine y_add rfl rfl ?_
        refine wa ?_
        exact hRR
      refine ⟨i + 1, ρ0, ?_, (by omega), (by dsimp only; omega)⟩
      exact ⟨⟨(mi), (by first | exact mt_row (V := _) (fun _ _ => rfl) | exact mt_fz (by exact trivial) rfl (fun _ _ => rfl)), (mi), (by first | exact mt_row (V := _) (fun _ _ => rfl) | exact mt_fz (by exact trivial) rfl (fun _ _ => rfl)), (by exact m_int rfl), (mi), trivial⟩, trivial, trivial⟩
  · try simp only [hcs] at hc34
    have ge_i : n = i := by omega
    subst ge_i
    have hsm := sumZ_bd (rnS_bd (p := p) (n := n) (c := c) hpb g) n
    refine snd_exit ?_
    apply sr tokTB (by kernel_rfl)
    · intro RR hRR
      refine wm ?_
      refine wm ?_
      refine w_rem rfl rfl (by first | assumption | omega) ?_
      refine wa ?_
      refine wa ?_
      exact hRR
    refine snd_ret ?_
    exact rt_tt (T := TB) (fun V => congrArg (AV.int .i64) (by rw [← rnS_eq]; exact Int.tmod_eq_emod_of_nonneg hsm.1)) (fun V => rfl)
theorem c_sRootNumber_st {p : Int} {n : Nat} {c : Nat → Int} (h : PO p n c) (hp0 : -1000000 ≤ p ∧ p ≤ 1000000) (hn0 : n ≤ 1000) (hN : ¬ roN p n c = n) {g : Nat} (hg : g ≤ 30) : ACalls Tryz.prog TB 15 [.int .i64 p, rowA n c, .int .i64 (g : Int)] (.tup 2 (pairA (.int .i64 0) (.int .i64 5))) [] := by
  have hpb := primeB_bd h.1
  have hn := h.2.1
  have hcb := h.2.2
  refine acalls_of tokTB Tryz.func15 rfl rfl (Nat.le_of_ble_eq_true rfl) ?_
  apply sr tokTB (by kernel_rfl)
  · intro RR hRR
    refine wa ?_
    refine wa ?_
    exact hRR
  refine snd_seq ?_
  apply srG (env' := (22, .bool (decide (poC p n c ≠ 0) || !(decide (0 ≤ (g : Int)) && decide ((g : Int) ≤ 30)))) :: (21, .any) :: (20, .any) :: (19, .any) :: (18, .bool (decide (poC p n c ≠ 0))) :: (17, .bool (decide (poC p n c ≠ 0))) :: (16, _) :: (15, _) :: (14, _) :: _) tokTB (by kernel_rfl)
  · intro RR hRR
    refine wm ?_
    refine wm ?_
    refine y_call rfl (ec (ec exn)) (c_l09Poly (f := c) hp0 hn0) ?_
    refine w_neq rfl rfl ?_
    refine wm ?_
    refine w_g rfl rfl (fun hg4 => ?_) (fun hg4 => ?_)
    · skip
      refine wm ?_
      refine w_g_on rfl rfl hg4 ?_
      refine y_call rfl (ec (ec (ec exn))) (c_l01In) ?_
      refine w_g_on rfl rfl hg4 ?_
      refine w_not rfl ?_
      refine w_pick_0 rfl hg4 (by constructor) ?_
      try simp only [Int.toNat_natCast] at hg4
      exact hRR _ (EL.cons (.inr (by first | rfl | (simp only [hg4, els]; done) | (simp only [hg4, els]; rfl) | (simp [hg4]; done) | (clear hRR; simp_all; done))) (EL.cons (.inl rfl) (EL.cons (.inl rfl) (EL.cons (.inl rfl) (EL.cons (.inr (by first | rfl | (simp only [hg4, els]; done) | (simp only [hg4, els]; rfl) | (simp [hg4]; done) | (clear hRR; simp_all; done))) (EL.cons (.inr (by first | rfl | (simp only [hg4, els]; done) | (simp only [hg4, els]; rfl) | (simp [hg4]; done) | (clear hRR; simp_all; done))) (EL.cons (.inr rfl) (EL.cons (.inr rfl) (EL.cons (.inr rfl) (EL.refl _))))))))))
    · have hg4 := eq_true_of_ne_false hg4
      refine w_g_off rfl rfl (by rw [hg4]; decide) ?_
      refine w_g_off rfl rfl (by rw [hg4]; decide) ?_
      refine w_pick_1 rfl hg4 (by constructor) ?_
      try simp only [Int.toNat_natCast] at hg4
      exact hRR _ (EL.cons (.inr (by first | rfl | (simp only [hg4, els]; done) | (simp only [hg4, els]; rfl) | (simp [hg4]; done) | (clear hRR; simp_all; done))) (EL.cons (.inl rfl) (EL.cons (.inl rfl) (EL.cons (.inl rfl) (EL.cons (.inr (by first | rfl | (simp only [hg4, els]; done) | (simp only [hg4, els]; rfl) | (simp [hg4]; done) | (clear hRR; simp_all; done))) (EL.cons (.inr (by first | rfl | (simp only [hg4, els]; done) | (simp only [hg4, els]; rfl) | (simp [hg4]; done) | (clear hRR; simp_all; done))) (EL.cons (.inr rfl) (EL.cons (.inr rfl) (EL.cons (.inr rfl) (EL.refl _))))))))))
  refine snd_cond_false (by exact congrArg AV.bool (chkS_t h ⟨by omega, by omega⟩)) ?_
  refine snd_skip ?_
  apply sr tokTB (by kernel_rfl)
  · intro RR hRR
    refine wm ?_
    refine wm ?_
    refine w_call rfl (ec (ec exn)) (c_l09Roots h) (.inl ⟨trivial, ⟨fun _ => trivial, trivial⟩⟩) rfl (by constructor) rfl ?_
    refine wa ?_
    refine wa ?_
    exact hRR
  refine snd_seq ?_
  apply sr tokTB (by kernel_rfl)
  · intro RR hRR
    refine wm ?_
    refine w_len_o rfl rfl und24 ?_
    refine wm ?_
    refine w_len_r rfl rfl und24 ?_
    refine w_neq rfl rfl ?_
    exact hRR
  refine snd_cond_true (by exact congrArg AV.bool (decide_eq_true (by omega))) ?_
  apply sr tokTB (by kernel_rfl)
  · intro RR hRR
    refine wa ?_
    refine wa ?_
    exact hRR
  refine snd_ret ?_
  exact rt_tt (T := TB) (fun V => rfl) (fun V => rfl)
theorem c_sRootNumber_no {p : Int} {n : Nat} {c : Nat → Int} (hp0 : -1000000 ≤ p ∧ p ≤ 1000000) (hn0 : n ≤ 1000) {g0 : Int} (h : ¬ (PO p n c ∧ 0 ≤ g0 ∧ g0 ≤ 30)) : ACalls Tryz.prog TB 15 [.int .i64 p, rowA n c, .int .i64 g0] (.tup 2 (pairA (.int .i64 0) (.int .i64 2))) [] := by
  refine acalls_of tokTB Tryz.func15 rfl rfl (Nat.le_of_ble_eq_true rfl) ?_
  apply sr tokTB (by kernel_rfl)
  · intro RR hRR
    refine wa ?_
    refine wa ?_
    exact hRR
  refine snd_seq ?_
  apply srG (env' := (22, .bool (decide (poC p n c ≠ 0) || !(decide (0 ≤ g0) && decide (g0 ≤ 30)))) :: (21, .any) :: (20, .any) :: (19, .any) :: (18, .bool (decide (poC p n c ≠ 0))) :: (17, .bool (decide (poC p n c ≠ 0))) :: (16, _) :: (15, _) :: (14, _) :: _) tokTB (by kernel_rfl)
  · intro RR hRR
    refine wm ?_
    refine wm ?_
    refine y_call rfl (ec (ec exn)) (c_l09Poly (f := c) hp0 hn0) ?_
    refine w_neq rfl rfl ?_
    refine wm ?_
    refine w_g rfl rfl (fun hg4 => ?_) (fun hg4 => ?_)
    · skip
      refine wm ?_
      refine w_g_on rfl rfl hg4 ?_
      refine y_call rfl (ec (ec (ec exn))) (c_l01In) ?_
      refine w_g_on rfl rfl hg4 ?_
      refine w_not rfl ?_
      refine w_pick_0 rfl hg4 (by constructor) ?_
      try simp only [Int.toNat_natCast] at hg4
      exact hRR _ (EL.cons (.inr (by first | rfl | (simp only [hg4, els]; done) | (simp only [hg4, els]; rfl) | (simp [hg4]; done) | (clear hRR; simp_all; done))) (EL.cons (.inl rfl) (EL.cons (.inl rfl) (EL.cons (.inl rfl) (EL.cons (.inr (by first | rfl | (simp only [hg4, els]; done) | (simp only [hg4, els]; rfl) | (simp [hg4]; done) | (clear hRR; simp_all; done))) (EL.cons (.inr (by first | rfl | (simp only [hg4, els]; done) | (simp only [hg4, els]; rfl) | (simp [hg4]; done) | (clear hRR; simp_all; done))) (EL.cons (.inr rfl) (EL.cons (.inr rfl) (EL.cons (.inr rfl) (EL.refl _))))))))))
    · have hg4 := eq_true_of_ne_false hg4
      refine w_g_off rfl rfl (by rw [hg4]; decide) ?_
      refine w_g_off rfl rfl (by rw [hg4]; decide) ?_
      refine w_pick_1 rfl hg4 (by constructor) ?_
      try simp only [Int.toNat_natCast] at hg4
      exact hRR _ (EL.cons (.inr (by first | rfl | (simp only [hg4, els]; done) | (simp only [hg4, els]; rfl) | (simp [hg4]; done) | (clear hRR; simp_all; done))) (EL.cons (.inl rfl) (EL.cons (.inl rfl) (EL.cons (.inl rfl) (EL.cons (.inr (by first | rfl | (simp only [hg4, els]; done) | (simp only [hg4, els]; rfl) | (simp [hg4]; done) | (clear hRR; simp_all; done))) (EL.cons (.inr (by first | rfl | (simp only [hg4, els]; done) | (simp only [hg4, els]; rfl) | (simp [hg4]; done) | (clear hRR; simp_all; done))) (EL.cons (.inr rfl) (EL.cons (.inr rfl) (EL.cons (.inr rfl) (EL.refl _))))))))))
  refine snd_cond_true (by exact congrArg AV.bool (chkS_f h)) ?_
  apply sr tokTB (by kernel_rfl)
  · intro RR hRR
    refine wa ?_
    refine wa ?_
    exact hRR
  refine snd_ret ?_
  exact rt_tt (T := TB) (fun V => rfl) (fun V => rfl)
end Go.Am

