/- Part 6 of what the law stands on: abstract values, their walk, contracts of functions. My own work. Conditions: none. -/
import Derived.Test.YtadeodcgnbmpnaaPart5
set_option linter.unusedVariables false
set_option linter.unusedSimpArgs false
set_option maxRecDepth 4000
namespace Go.Am
attribute [local irreducible] retQ retQp
open Go.Proofs
theorem c_l01Vector {p n : Int} {T : Nat → Nat → Nat → Int} {fo : Nat → Int} {v : Nat → Int} (hv : B8 v) : ACalls Try.prog TB 96 [algA p n T fo, vecA v] (.bool (decide (smP p n v))) [] := by
  refine acalls_of tokTB Try.func96 rfl rfl (Nat.le_of_ble_eq_true rfl) ?_
  apply sr tokTB (by kernel_rfl)
  · intro RR hRR
    refine w_boxc (HV.eq (by constructor)) (by exact trivial) ?_
    refine w_boxc (HV.eq (by constructor)) (by exact trivial) ?_
    refine w_assign (by constructor) ?_
    exact hRR
  apply sr tokTB (by kernel_rfl)
  · intro RR hRR
    refine w_fac rfl und32 rfl kn2 nz2 (by decide) rfl (by constructor) ?_
    refine w_ldc rfl kn2 (by constructor) (by exact sz2.symm) (by exact ag2.symm) ?_
    refine w_fac rfl und32 rfl kn2 nz2 (by decide) rfl (by constructor) ?_
    refine w_ldc rfl kn2 (by constructor) (by exact sz2.symm) (by exact ag2.symm) ?_
    refine w_ldc rfl kn30 (by constructor) (by exact sz30.symm) (by exact ag30.symm) ?_
    refine y_call rfl (ec (ec (ec exn))) (c_l01Small (by assumption)) ?_
    refine w_assign (by constructor) ?_
    exact hRR
  refine snd_ret ?_
  exact rt (T := TB) (fun V => by first | exact m_bool rfl | exact m_int rfl)
theorem c_l01AlgebraN {p : Int} {n : Nat} {T : Nat → Nat → Nat → Int} {fo : Nat → Int} (hT : RB T) (hf : RV fo) : ACalls Try.prog TB 95 [algA p (n : Int) T fo] (.bool (decide (VA p n T fo))) [] := by
  refine acalls_of tokTB Try.func95 rfl rfl (Nat.le_of_ble_eq_true rfl) ?_
  apply sr tokTB (by kernel_rfl)
  · intro RR hRR
    refine w_boxc (HV.eq (by constructor)) (by exact trivial) ?_
    refine w_assign (by constructor) ?_
    exact hRR
  refine snd_seq ?_
  apply sr tokTB (by kernel_rfl)
  · intro RR hRR
    refine w_ldc rfl kn32 (by constructor) (by exact sz32.symm) (by exact ag32.symm) ?_
    refine y_call rfl (ec exn) (c_l01Shape hT.b hf.b) ?_
    refine w_not rfl ?_
    exact hRR
  refine snd_cond _ rfl (fun hc10 => ?_) (fun hc10 => ?_)
  · try simp only [hcs] at hc10
    apply sr tokTB (by kernel_rfl)
    · intro RR hRR
      refine w_assign (by constructor) ?_
      exact hRR
    refine snd_ret ?_
    exact rt (T := TB) (fun V => m_bool (by symm; rw [decide_eq_false_iff_not]; exact fun h => hc10 h.1))
  · try simp only [hcs] at hc10
    obtain ⟨h1, h2, h3, h4⟩ := shape_iff.1 hc10
    have hpb := primeB_bd h1
    refine snd_skip ?_
    refine snd_seq ?_
    apply sr tokTB (by kernel_rfl)
    · intro RR hRR
      refine w_assign (by constructor) ?_
      exact hRR
    refine snd_block ?_
    refine snd_loop (S := Nat) (fun i => ([(1, .cptr (algA p (n : Int) T fo)), (3, .int .i64 (i : Int))], [])) (fun i => i ≤ n ∧ (∀ a, a < i → ∀ b, b < n → ∀ c, c < n → assocG p n T a b c)) (fun i => n - i) (0) ρ0 ?_ ?_ ?_
    · exact ⟨⟨m_calg, (by first | exact m_int rfl | exact m_int (by omega) | exact m_int (by simp; done) | (exact m_int (by simp; omega))), trivial⟩, trivial, trivial⟩
    · exact ⟨Nat.zero_le _, fun j hj => absurd hj (Nat.not_lt_zero _)⟩
    intro i hi0
    refine sq (env2 := [(1, .cptr (algA p (n : Int) T fo)), (3, .int .i64 (i : Int))]) (ol2 := []) rfl rfl ?_
    obtain ⟨le_i, inv_i⟩ := hi0
    refine snd_seq ?_
    apply sr tokTB (by kernel_rfl)
    · intro RR hRR
      refine w_move (by constructor) ?_
      refine w_fac rfl und32 rfl kn2 nz2 (by decide) rfl (by constructor) ?_
      refine w_ldc rfl kn2 (by constructor) (by exact sz2.symm) (by exact ag2.symm) ?_
      refine w_lss rfl rfl ?_
      exact hRR
    refine snd_cond _ rfl (fun hc14 => ?_) (fun hc14 => ?_)
    · try simp only [hcs] at hc14
      have lt_i : i < n := by omega
      refine snd_skip ?_
      refine snd_seq ?_
      refine snd_block ?_
      apply sr tokTB (by kernel_rfl)
      · intro RR hRR
        refine w_assign (by constructor) ?_
        exact hRR
      refine snd_block ?_
      refine snd_loop (S := Nat) (fun j => ([(1, .cptr (algA p (n : Int) T fo)), (3, .int .i64 (i : Int)), (4, .int .i64 (j : Int))], [])) (fun j => j ≤ n ∧ (∀ b, b < j → ∀ c, c < n → assocG p n T i b c)) (fun j => n - j) (0) ρ0 ?_ ?_ ?_
      · exact ⟨⟨m_calg, (by first | exact m_int rfl | exact m_int (by omega) | exact m_int (by simp; done) | (exact m_int (by simp; omega))), (by first | exact m_int rfl | exact m_int (by omega) | exact m_int (by simp; done) | (exact m_int (by simp; omega))), trivial⟩, trivial, trivial⟩
      · exact ⟨Nat.zero_le _, fun j hj => absurd hj (Nat.not_lt_zero _)⟩
      intro j hi2
      refine sq (env2 := [(1, .cptr (algA p (n : Int) T fo)), (3, .int .i64 (i : Int)), (4, .int .i64 (j : Int))]) (ol2 := []) rfl rfl ?_
      obtain ⟨le_j, inv_j⟩ := hi2
      refine snd_seq ?_
      apply sr tokTB (by kernel_rfl)
      · intro RR hRR
        refine w_move (by constructor) ?_
        refine w_fac rfl und32 rfl kn2 nz2 (by decide) rfl (by constructor) ?_
        refine w_ldc rfl kn2 (by constructor) (by exact sz2.symm) (by exact ag2.symm) ?_
        refine w_lss rfl rfl ?_
        exact hRR
      refine snd_cond _ rfl (fun hc20 => ?_) (fun hc20 => ?_)
      · try simp only [hcs] at hc20
        have lt_j : j < n := by omega
        refine snd_skip ?_
        refine snd_seq ?_
        refine snd_block ?_
        apply sr tokTB (by kernel_rfl)
        · intro RR hRR
          refine w_assign (by constructor) ?_
          exact hRR
        refine snd_block ?_
        refine snd_loop (S := Nat) (fun k => ([(1, .cptr (algA p (n : Int) T fo)), (3, .int .i64 (i : Int)), (4, .int .i64 (j : Int)), (5, .int .i64 (k : Int))], [])) (fun k => k ≤ n ∧ (∀ c, c < k → assocG p n T i j c)) (fun k => n - k) (0) ρ0 ?_ ?_ ?_
        · exact ⟨⟨m_calg, (by first | exact m_int rfl | exact m_int (by omega) | exact m_int (by simp; done) | (exact m_int (by simp; omega))), (by first | exact m_int rfl | exact m_int (by omega) | exact m_int (by simp; done) | (exact m_int (by simp; omega))), (by first | exact m_int rfl | exact m_int (by omega) | exact m_int (by simp; done) | (exact m_int (by simp; omega))), trivial⟩, trivial, trivial⟩
        · exact ⟨Nat.zero_le _, fun j hj => absurd hj (Nat.not_lt_zero _)⟩
        intro k hi4
        refine sq (env2 := [(1, .cptr (algA p (n : Int) T fo)), (3, .int .i64 (i : Int)), (4, .int .i64 (j : Int)), (5, .int .i64 (k : Int))]) (ol2 := []) rfl rfl ?_
        obtain ⟨le_k, inv_k⟩ := hi4
        refine snd_seq ?_
        apply sr tokTB (by kernel_rfl)
        · intro RR hRR
          refine w_move (by constructor) ?_
          refine w_fac rfl und32 rfl kn2 nz2 (by decide) rfl (by constructor) ?_
          refine w_ldc rfl kn2 (by constructor) (by exact sz2.symm) (by exact ag2.symm) ?_
          refine w_lss rfl rfl ?_
          exact hRR
        refine snd_cond _ rfl (fun hc26 => ?_) (fun hc26 => ?_)
        · try simp only [hcs] at hc26
          have lt_k : k < n := by omega
          refine snd_skip ?_
          refine snd_seq ?_
          refine snd_block ?_
          apply sd tokTB mixed (by kernel_rfl) (by kernel_rfl)
          · intro RR hRR
            refine w_ldc rfl kn32 (by constructor) (by exact sz32.symm) (by exact ag32.symm) ?_
            refine w_move (by constructor) ?_
            refine w_move (by constructor) ?_
            refine w_fac rfl und32 rfl kn24 nz24 (by decide) rfl (by constructor) ?_
            refine w_iac rfl rfl und24 kn23 (by exact sz23.symm) ?_ rfl ?_
            · exact ⟨by omega, by omega⟩
            refine w_iac rfl rfl und23 kn22 (by exact sz22.symm) ?_ rfl ?_
            · exact ⟨by omega, by omega⟩
            refine w_ldc rfl kn22 (by constructor) (by exact sz22.symm) (by exact ag22.symm) ?_
            refine w_move (by constructor) ?_
            refine y_call rfl (ec exn) (c_l01Basis (by omega)) ?_
            refine y_call rfl (ec (ec (ec exn))) (c_l01Times (u := T i j) (v := eF k) (by omega) (by omega) (by omega) hT.b (hT.b i j) (eF_B8 k)) ?_
            refine w_ldc rfl kn32 (by constructor) (by exact sz32.symm) (by exact ag32.symm) ?_
            refine w_move (by constructor) ?_
            refine y_call rfl (ec exn) (c_l01Basis (by omega)) ?_
            refine w_move (by constructor) ?_
            refine w_move (by constructor) ?_
            refine w_fac rfl und32 rfl kn24 nz24 (by decide) rfl (by constructor) ?_
            refine w_iac rfl rfl und24 kn23 (by exact sz23.symm) ?_ rfl ?_
            · exact ⟨by omega, by omega⟩
            refine w_iac rfl rfl und23 kn22 (by exact sz22.symm) ?_ rfl ?_
            · exact ⟨by omega, by omega⟩
            refine w_ldc rfl kn22 (by constructor) (by exact sz22.symm) (by exact ag22.symm) ?_
            refine y_call rfl (ec (ec (ec exn))) (c_l01Times (u := eF i) (v := T j k) (by omega) (by omega) (by omega) hT.b (eF_B8 i) (hT.b j k)) ?_
            refine w_aneq rfl rfl und30 und5 ?_
            exact hRR
          refine snd_cond _ rfl (fun hc49 => ?_) (fun hc49 => ?_)
          · skip
            apply sr tokTB (by kernel_rfl)
            · intro RR hRR
              refine w_assign (by constructor) ?_
              exact hRR
            refine snd_ret ?_
            exact rt (T := TB) (fun V => m_bool (by symm; rw [decide_eq_false_iff_not]; intro h; exact of_decide_eq_true (p := ¬ eqN 6 _ _) hc49 (h.2.1 i (by omega) j (by omega) k (by omega))))
          · skip
            refine snd_skip ?_
            apply lr tokTB (by kernel_rfl)
            · intro RR hRR
              refine w_move (by constructor) ?_
              refine y_add rfl rfl ?_
              refine w_assign (by constructor) ?_
              exact hRR
            refine ⟨k + 1, ρ0, ?_, ⟨by omega, all_step inv_k (Classical.not_not.1 (of_decide_eq_false (p := ¬ eqN 6 _ _) hc49))⟩, (by dsimp only; omega)⟩
            exact ⟨⟨m_calg, (by first | exact m_int rfl | exact m_int (by omega) | exact m_int (by simp; done) | (exact m_int (by simp; omega))), (by first | exact m_int rfl | exact m_int (by omega) | exact m_int (by simp; done) | (exact m_int (by simp; omega))), (by first | exact m_int rfl | exact m_int (by omega) | exact m_int (by simp; done) | (exact m_int (by simp; omega))), trivial⟩, trivial, trivial⟩
        · try simp only [hcs] at hc26
          have ge_k : k = n := by omega
          refine snd_exit ?_
          apply lr tokTB (by kernel_rfl)
          · intro RR hRR
            refine w_move (by constructor) ?_
            refine y_add rfl rfl ?_
            refine w_assign (by constructor) ?_
            exact hRR
          refine ⟨j + 1, ρ0, ?_, ⟨by omega, all_step inv_j (fun b hb => inv_k b (by omega))⟩, (by dsimp only; omega)⟩
          exact ⟨⟨m_calg, (by first | exact m_int rfl | exact m_int (by omega) | exact m_int (by simp; done) | (exact m_int (by simp; omega))), (by first | exact m_int rfl | exact m_int (by omega) | exact m_int (by simp; done) | (exact m_int (by simp; omega))), trivial⟩, trivial, trivial⟩
      · try simp only [hcs] at hc20
        have ge_j : j = n := by omega
        refine snd_exit ?_
        apply lr tokTB (by kernel_rfl)
        · intro RR hRR
          refine w_move (by constructor) ?_
          refine y_add rfl rfl ?_
          refine w_assign (by constructor) ?_
          exact hRR
        refine ⟨i + 1, ρ0, ?_, ⟨by omega, all_step inv_i (fun b hb => inv_j b (by omega))⟩, (by dsimp only; omega)⟩
        exact ⟨⟨m_calg, (by first | exact m_int rfl | exact m_int (by omega) | exact m_int (by simp; done) | (exact m_int (by simp; omega))), trivial⟩, trivial, trivial⟩
    · try simp only [hcs] at hc14
      have ge_i : i = n := by omega
      refine snd_exit ?_
      apply sr tokTB (by kernel_rfl)
      · intro RR hRR
        refine w_ldc rfl kn32 (by constructor) (by exact sz32.symm) (by exact ag32.symm) ?_
        refine y_call rfl (ec exn) (c_l01Find h1 (by omega) (by omega) (BpT_of hT hc10)) ?_
        refine w_move (by constructor) ?_
        refine w_ext rfl (by decide) (by constructor) ?_
        refine w_ext rfl (by decide) (by constructor) ?_
        refine w_alloc kn30 rfl zr30 ?_
        refine w_stw rfl (by constructor) kn30 rfl (by exact trivial) (by first | exact trivial | exact ssh_vec | exact ssh_alg | exact ssh_pr | exact ssh_tab | exact ssh_mat | exact ⟨rfl, fun _ => trivial⟩ | exact ⟨rfl, fun _ => by rw [zr30]; exact ssh_vec⟩) (by exact sz30.symm) ?_
        refine w_assign (by constructor) ?_
        exact hRR
      apply sr tokTB (by kernel_rfl)
      · intro RR hRR
        refine w_move (by constructor) ?_
        refine w_assign (by constructor) ?_
        exact hRR
      refine snd_ret ?_
      exact rt (T := TB) (fun V => m_bool (decide_eq_decide.2 ⟨fun h => ⟨hc10, fun a ha b hb c hc => inv_i a (by omega) b (by omega) c (by omega), h⟩, fun h => h.2.2⟩))
theorem c_l01Algebra0 {p n : Int} {T : Nat → Nat → Nat → Int} {fo : Nat → Int} (hT : RB T) (hf : RV fo) (hn : n < 0) : ACalls Try.prog TB 95 [algA p n T fo] (.bool (decide (VA p n T fo))) [] := by
  refine acalls_of tokTB Try.func95 rfl rfl (Nat.le_of_ble_eq_true rfl) ?_
  apply sr tokTB (by kernel_rfl)
  · intro RR hRR
    refine w_boxc (HV.eq (by constructor)) (by exact trivial) ?_
    refine w_assign (by constructor) ?_
    exact hRR
  refine snd_seq ?_
  apply sr tokTB (by kernel_rfl)
  · intro RR hRR
    refine w_ldc rfl kn32 (by constructor) (by exact sz32.symm) (by exact ag32.symm) ?_
    refine y_call rfl (ec exn) (c_l01Shape hT.b hf.b) ?_
    refine w_not rfl ?_
    exact hRR
  refine snd_cond_true (by exact congrArg AV.bool (by rw [decide_eq_false (shape_neg hn)]; rfl)) ?_
  apply sr tokTB (by kernel_rfl)
  · intro RR hRR
    refine w_assign (by constructor) ?_
    exact hRR
  refine snd_ret ?_
  exact rt (T := TB) (fun V => m_bool (by symm; rw [decide_eq_false_iff_not]; exact VA_neg hn))
theorem c_l01Algebra {p n : Int} {T : Nat → Nat → Nat → Int} {fo : Nat → Int} (hT : RB T) (hf : RV fo) : ACalls Try.prog TB 95 [algA p n T fo] (.bool (decide (VA p n T fo))) [] := by
  rcases Int.lt_or_le n 0 with h | h
  · exact c_l01Algebra0 hT hf h
  · obtain ⟨m, rfl⟩ := Int.eq_ofNat_of_zero_le h
    exact c_l01AlgebraN hT hf
theorem c_IsAlgebraN {p : Int} {n : Nat} {T : Nat → Nat → Nat → Int} {fo : Nat → Int} (hT : RB T) (hf : RV fo) : ACalls Try.prog TB 100 [algA p (n : Int) T fo] (.bool (decide (VA p n T fo))) [] := by
  refine acalls_of tokTB Try.func100 rfl rfl (Nat.le_of_ble_eq_true rfl) ?_
  apply sr tokTB (by kernel_rfl)
  · intro RR hRR
    refine w_boxc (HV.eq (by constructor)) (by exact trivial) ?_
    refine w_assign (by constructor) ?_
    exact hRR
  refine snd_seq ?_
  apply srG (env' := (22, .bool (((!(primeB p) || !(decide (1 ≤ (n : Int)) && decide ((n : Int) ≤ 6))) || !(decide (tabP p n T fo))) || !(decide (assocP p n T)))) :: (21, .any) :: (20, .any) :: (19, .bool ((!(primeB p) || !(decide (1 ≤ (n : Int)) && decide ((n : Int) ≤ 6))) || !(decide (tabP p n T fo)))) :: (18, .bool ((!(primeB p) || !(decide (1 ≤ (n : Int)) && decide ((n : Int) ≤ 6))) || !(decide (tabP p n T fo)))) :: (17, .any) :: (16, .any) :: (15, .bool (!(primeB p) || !(decide (1 ≤ (n : Int)) && decide ((n : Int) ≤ 6)))) :: (14, .bool (!(primeB p) || !(decide (1 ≤ (n : Int)) && decide ((n : Int) ≤ 6)))) :: (13, .any) :: (12, .any) :: (11, .any) :: (10, .any) :: (9, _) :: (8, _) :: (7, _) :: (6, _) :: (5, _) :: _) tokTB (by kernel_rfl)
  · intro RR hRR
    refine w_fac rfl und32 rfl kn2 nz2 (by decide) rfl (by constructor) ?_
    first | refine w_ldc rfl kn2 (by constructor) (by exact sz2.symm) (by exact ag2.symm) ?_ | refine w_ldp rfl kn2 rfl (by constructor) (by exact sz2.symm) (by exact ag2.symm) ?_
    refine y_call rfl (ec exn) (c_isPrime) ?_
    refine w_not rfl ?_
    refine w_move (by constructor) ?_
    refine w_g rfl rfl (fun hg4 => ?_) (fun hg4 => ?_)
    · skip
      refine w_fac rfl und32 rfl kn2 nz2 (by decide) rfl (by constructor) ?_
      refine w_g_on rfl rfl hg4 ?_
      first | refine w_ldc rfl kn2 (by constructor) (by exact sz2.symm) (by exact ag2.symm) ?_ | refine w_ldp rfl kn2 rfl (by constructor) (by exact sz2.symm) (by exact ag2.symm) ?_
      refine w_g_on rfl rfl hg4 ?_
      refine y_call rfl (ec (ec (ec exn))) (c_in) ?_
      refine w_g_on rfl rfl hg4 ?_
      refine w_not rfl ?_
      refine w_pick_0 rfl hg4 (by constructor) ?_
      refine w_move (by constructor) ?_
      refine w_g rfl rfl (fun hg10 => ?_) (fun hg10 => ?_)
      · skip
        refine y_call rfl (ec exn) (c_tableOk hT.b hf.b) ?_
        refine w_g_on rfl rfl hg10 ?_
        refine w_not rfl ?_
        refine w_pick_0 rfl hg10 (by constructor) ?_
        refine w_move (by constructor) ?_
        refine w_g rfl rfl (fun hg14 => ?_) (fun hg14 => ?_)
        · skip
          refine y_call rfl (ec exn) (c_associative (p := p) (n := n) (T := T) (by simp only [Bool.not_eq_false'] at hg4; have := primeB_bd hg4; omega) (by simp only [Bool.not_eq_false'] at hg4; have := primeB_bd hg4; omega) (by simp only [Bool.not_eq_false', Bool.and_eq_true, decide_eq_true_eq] at hg10; omega) hT.b) ?_
          refine w_g_on rfl rfl hg14 ?_
          refine w_not rfl ?_
          refine w_pick_0 rfl hg14 (by constructor) ?_
          try simp only [Int.toNat_natCast] at hg4 hg10 hg14
          exact hRR _ (EL.cons (.inr (by first | rfl | (simp only [hg4, hg10, hg14, els]; done) | (simp only [hg4, hg10, hg14, els]; rfl) | simp [hg4, hg10, hg14])) (EL.cons (.inl rfl) (EL.cons (.inl rfl) (EL.cons (.inr (by first | rfl | (simp only [hg4, hg10, hg14, els]; done) | (simp only [hg4, hg10, hg14, els]; rfl) | simp [hg4, hg10, hg14])) (EL.cons (.inr (by first | rfl | (simp only [hg4, hg10, hg14, els]; done) | (simp only [hg4, hg10, hg14, els]; rfl) | simp [hg4, hg10, hg14])) (EL.cons (.inl rfl) (EL.cons (.inl rfl) (EL.cons (.inr (by first | rfl | (simp only [hg4, hg10, hg14, els]; done) | (simp only [hg4, hg10, hg14, els]; rfl) | simp [hg4, hg10, hg14])) (EL.cons (.inr (by first | rfl | (simp only [hg4, hg10, hg14, els]; done) | (simp only [hg4, hg10, hg14, els]; rfl) | simp [hg4, hg10, hg14])) (EL.cons (.inl rfl) (EL.cons (.inl rfl) (EL.cons (.inl rfl) (EL.cons (.inl rfl) (EL.cons (.inr rfl) (EL.cons (.inr rfl) (EL.cons (.inr rfl) (EL.cons (.inr rfl) (EL.cons (.inr rfl) (EL.refl _)))))))))))))))))))
        · have hg14 := eq_true_of_ne_false hg14
          refine w_g_off rfl rfl (by rw [hg14]; decide) ?_
          refine w_pick_1 rfl hg14 (by constructor) ?_
          try simp only [Int.toNat_natCast] at hg4 hg10 hg14
          exact hRR _ (EL.cons (.inr (by first | rfl | (simp only [hg4, hg10, hg14, els]; done) | (simp only [hg4, hg10, hg14, els]; rfl) | simp [hg4, hg10, hg14])) (EL.cons (.inl rfl) (EL.cons (.inl rfl) (EL.cons (.inr (by first | rfl | (simp only [hg4, hg10, hg14, els]; done) | (simp only [hg4, hg10, hg14, els]; rfl) | simp [hg4, hg10, hg14])) (EL.cons (.inr (by first | rfl | (simp only [hg4, hg10, hg14, els]; done) | (simp only [hg4, hg10, hg14, els]; rfl) | simp [hg4, hg10, hg14])) (EL.cons (.inl rfl) (EL.cons (.inl rfl) (EL.cons (.inr (by first | rfl | (simp only [hg4, hg10, hg14, els]; done) | (simp only [hg4, hg10, hg14, els]; rfl) | simp [hg4, hg10, hg14])) (EL.cons (.inr (by first | rfl | (simp only [hg4, hg10, hg14, els]; done) | (simp only [hg4, hg10, hg14, els]; rfl) | simp [hg4, hg10, hg14])) (EL.cons (.inl rfl) (EL.cons (.inl rfl) (EL.cons (.inl rfl) (EL.cons (.inl rfl) (EL.cons (.inr rfl) (EL.cons (.inr rfl) (EL.cons (.inr rfl) (EL.cons (.inr rfl) (EL.cons (.inr rfl) (EL.refl _)))))))))))))))))))
      · have hg10 := eq_true_of_ne_false hg10
        refine w_g_off rfl rfl (by rw [hg10]; decide) ?_
        refine w_pick_1 rfl hg10 (by constructor) ?_
        refine w_move (by constructor) ?_
        refine w_g_off rfl rfl (by decide) ?_
        refine w_g_off rfl rfl (by decide) ?_
        refine w_pick_1 rfl rfl (by constructor) ?_
        try simp only [Int.toNat_natCast] at hg4 hg10
        exact hRR _ (EL.cons (.inr (by first | rfl | (simp only [hg4, hg10, els]; done) | (simp only [hg4, hg10, els]; rfl) | simp [hg4, hg10])) (EL.cons (.inl rfl) (EL.cons (.inl rfl) (EL.cons (.inr (by first | rfl | (simp only [hg4, hg10, els]; done) | (simp only [hg4, hg10, els]; rfl) | simp [hg4, hg10])) (EL.cons (.inr (by first | rfl | (simp only [hg4, hg10, els]; done) | (simp only [hg4, hg10, els]; rfl) | simp [hg4, hg10])) (EL.cons (.inl rfl) (EL.cons (.inl rfl) (EL.cons (.inr (by first | rfl | (simp only [hg4, hg10, els]; done) | (simp only [hg4, hg10, els]; rfl) | simp [hg4, hg10])) (EL.cons (.inr (by first | rfl | (simp only [hg4, hg10, els]; done) | (simp only [hg4, hg10, els]; rfl) | simp [hg4, hg10])) (EL.cons (.inl rfl) (EL.cons (.inl rfl) (EL.cons (.inl rfl) (EL.cons (.inl rfl) (EL.cons (.inr rfl) (EL.cons (.inr rfl) (EL.cons (.inr rfl) (EL.cons (.inr rfl) (EL.cons (.inr rfl) (EL.refl _)))))))))))))))))))
    · have hg4 := eq_true_of_ne_false hg4
      refine w_g_off rfl rfl (by rw [hg4]; decide) ?_
      refine w_g_off rfl rfl (by rw [hg4]; decide) ?_
      refine w_g_off rfl rfl (by rw [hg4]; decide) ?_
      refine w_pick_1 rfl hg4 (by constructor) ?_
      refine w_move (by constructor) ?_
      refine w_g_off rfl rfl (by decide) ?_
      refine w_g_off rfl rfl (by decide) ?_
      refine w_pick_1 rfl rfl (by constructor) ?_
      refine w_move (by constructor) ?_
      refine w_g_off rfl rfl (by decide) ?_
      refine w_g_off rfl rfl (by decide) ?_
      refine w_pick_1 rfl rfl (by constructor) ?_
      try simp only [Int.toNat_natCast] at hg4
      exact hRR _ (EL.cons (.inr (by first | rfl | (simp only [hg4, els]; done) | (simp only [hg4, els]; rfl) | simp [hg4])) (EL.cons (.inl rfl) (EL.cons (.inl rfl) (EL.cons (.inr (by first | rfl | (simp only [hg4, els]; done) | (simp only [hg4, els]; rfl) | simp [hg4])) (EL.cons (.inr (by first | rfl | (simp only [hg4, els]; done) | (simp only [hg4, els]; rfl) | simp [hg4])) (EL.cons (.inl rfl) (EL.cons (.inl rfl) (EL.cons (.inr (by first | rfl | (simp only [hg4, els]; done) | (simp only [hg4, els]; rfl) | simp [hg4])) (EL.cons (.inr (by first | rfl | (simp only [hg4, els]; done) | (simp only [hg4, els]; rfl) | simp [hg4])) (EL.cons (.inl rfl) (EL.cons (.inl rfl) (EL.cons (.inl rfl) (EL.cons (.inl rfl) (EL.cons (.inr rfl) (EL.cons (.inr rfl) (EL.cons (.inr rfl) (EL.cons (.inr rfl) (EL.cons (.inr rfl) (EL.refl _)))))))))))))))))))
  refine snd_cond _ rfl (fun hc22 => ?_) (fun hc22 => ?_)
  · skip
    apply sr tokTB (by kernel_rfl)
    · intro RR hRR
      refine w_assign (by constructor) ?_
      exact hRR
    refine snd_ret ?_
    exact rt (T := TB) (fun V => m_bool (by symm; rw [decide_eq_false_iff_not]; intro h; obtain ⟨q1, q2, q3⟩ := shape_iff.1 h.1; rw [q1, decide_eq_true q2.1, decide_eq_true q2.2, decide_eq_true q3, decide_eq_true (show assocP p n T from h.2.1)] at hc22; cases hc22))
  · skip
    simp only [Bool.or_eq_false_iff, Bool.not_eq_false', Bool.and_eq_true, decide_eq_true_eq] at hc22
    obtain ⟨⟨⟨h1, h2⟩, h3⟩, h4⟩ := hc22
    refine snd_skip ?_
    apply sr tokTB (by kernel_rfl)
    · intro RR hRR
      refine y_call rfl (ec exn) (c_findUnit h1 (by omega) (by omega) (BpT_of hT (shape_iff.2 ⟨h1, h2, h3⟩))) ?_
      refine w_move (by constructor) ?_
      refine w_ext rfl (by decide) (by constructor) ?_
      refine w_ext rfl (by decide) (by constructor) ?_
      refine w_alloc kn30 rfl zr30 ?_
      refine w_stw rfl (by constructor) kn30 rfl (by exact trivial) (by first | exact trivial | exact ssh_vec | exact ssh_alg | exact ssh_pr | exact ssh_tab | exact ssh_mat | exact ⟨rfl, fun _ => trivial⟩ | exact ⟨rfl, fun _ => by rw [zr30]; exact ssh_vec⟩) (by exact sz30.symm) ?_
      refine w_assign (by constructor) ?_
      exact hRR
    apply sr tokTB (by kernel_rfl)
    · intro RR hRR
      refine w_move (by constructor) ?_
      refine w_assign (by constructor) ?_
      exact hRR
    refine snd_ret ?_
    exact rt (T := TB) (fun V => m_bool (decide_eq_decide.2 ⟨fun h => ⟨shape_iff.2 ⟨h1, h2, h3⟩, h4, h⟩, fun h => h.2.2⟩))
theorem c_IsAlgebra0 {p n : Int} {T : Nat → Nat → Nat → Int} {fo : Nat → Int} (hT : RB T) (hf : RV fo) (hn : n < 0) : ACalls Try.prog TB 100 [algA p n T fo] (.bool (decide (VA p n T fo))) [] := by
  refine acalls_of tokTB Try.func100 rfl rfl (Nat.le_of_ble_eq_true rfl) ?_
  apply sr tokTB (by kernel_rfl)
  · intro RR hRR
    refine w_boxc (HV.eq (by constructor)) (by exact trivial) ?_
    refine w_assign (by constructor) ?_
    exact hRR
  refine snd_seq ?_
  apply srG (env' := (22, .bool true) :: (21, .any) :: (20, .any) :: (19, .bool ((!(primeB p) || !(decide (1 ≤ n) && decide (n ≤ 6))) || !(decide (tabP p n T fo)))) :: (18, .bool ((!(primeB p) || !(decide (1 ≤ n) && decide (n ≤ 6))) || !(decide (tabP p n T fo)))) :: (17, .any) :: (16, .any) :: (15, .bool (!(primeB p) || !(decide (1 ≤ n) && decide (n ≤ 6)))) :: (14, .bool (!(primeB p) || !(decide (1 ≤ n) && decide (n ≤ 6)))) :: (13, .any) :: (12, .any) :: (11, .any) :: (10, .any) :: (9, _) :: (8, _) :: (7, _) :: (6, _) :: (5, _) :: _) tokTB (by kernel_rfl)
  · intro RR hRR
    refine w_fac rfl und32 rfl kn2 nz2 (by decide) rfl (by constructor) ?_
    first | refine w_ldc rfl kn2 (by constructor) (by exact sz2.symm) (by exact ag2.symm) ?_ | refine w_ldp rfl kn2 rfl (by constructor) (by exact sz2.symm) (by exact ag2.symm) ?_
    refine y_call rfl (ec exn) (c_isPrime) ?_
    refine w_not rfl ?_
    refine w_move (by constructor) ?_
    refine w_g rfl rfl (fun hg4 => ?_) (fun hg4 => ?_)
    · skip
      refine w_fac rfl und32 rfl kn2 nz2 (by decide) rfl (by constructor) ?_
      refine w_g_on rfl rfl hg4 ?_
      first | refine w_ldc rfl kn2 (by constructor) (by exact sz2.symm) (by exact ag2.symm) ?_ | refine w_ldp rfl kn2 rfl (by constructor) (by exact sz2.symm) (by exact ag2.symm) ?_
      refine w_g_on rfl rfl hg4 ?_
      refine y_call rfl (ec (ec (ec exn))) (c_in) ?_
      refine w_g_on rfl rfl hg4 ?_
      refine w_not rfl ?_
      refine w_pick_0 rfl hg4 (by constructor) ?_
      refine w_move (by constructor) ?_
      refine w_g rfl rfl (fun hg10 => ?_) (fun hg10 => ?_)
      · skip
        refine y_call rfl (ec exn) (c_tableOk hT.b hf.b) ?_
        refine w_g_on rfl rfl hg10 ?_
        refine w_not rfl ?_
        refine w_pick_0 rfl hg10 (by constructor) ?_
        refine w_move (by constructor) ?_
        refine w_g rfl rfl (fun hg14 => ?_) (fun hg14 => ?_)
        · skip
          refine y_call rfl (ec exn) ((absurd hg10 (by simp; omega) : ACalls Try.prog TB 138 [.cptr (algA p n T fo)] (.bool false) [])) ?_
          refine w_g_on rfl rfl hg14 ?_
          refine w_not rfl ?_
          refine w_pick_0 rfl hg14 (by constructor) ?_
          try simp only [Int.toNat_natCast] at hg4 hg10 hg14
          exact hRR _ (EL.cons (.inr (by first | rfl | (simp only [hg4, hg10, hg14, els]; done) | (simp only [hg4, hg10, hg14, els]; rfl) | simp [hg4, hg10, hg14])) (EL.cons (.inl rfl) (EL.cons (.inl rfl) (EL.cons (.inr (by first | rfl | (simp only [hg4, hg10, hg14, els]; done) | (simp only [hg4, hg10, hg14, els]; rfl) | simp [hg4, hg10, hg14])) (EL.cons (.inr (by first | rfl | (simp only [hg4, hg10, hg14, els]; done) | (simp only [hg4, hg10, hg14, els]; rfl) | simp [hg4, hg10, hg14])) (EL.cons (.inl rfl) (EL.cons (.inl rfl) (EL.cons (.inr (by first | rfl | (simp only [hg4, hg10, hg14, els]; done) | (simp only [hg4, hg10, hg14, els]; rfl) | simp [hg4, hg10, hg14])) (EL.cons (.inr (by first | rfl | (simp only [hg4, hg10, hg14, els]; done) | (simp only [hg4, hg10, hg14, els]; rfl) | simp [hg4, hg10, hg14])) (EL.cons (.inl rfl) (EL.cons (.inl rfl) (EL.cons (.inl rfl) (EL.cons (.inl rfl) (EL.cons (.inr rfl) (EL.cons (.inr rfl) (EL.cons (.inr rfl) (EL.cons (.inr rfl) (EL.cons (.inr rfl) (EL.refl _)))))))))))))))))))
        · have hg14 := eq_true_of_ne_false hg14
          refine w_g_off rfl rfl (by rw [hg14]; decide) ?_
          refine w_pick_1 rfl hg14 (by constructor) ?_
          try simp only [Int.toNat_natCast] at hg4 hg10 hg14
          exact hRR _ (EL.cons (.inr (by first | rfl | (simp only [hg4, hg10, hg14, els]; done) | (simp only [hg4, hg10, hg14, els]; rfl) | simp [hg4, hg10, hg14])) (EL.cons (.inl rfl) (EL.cons (.inl rfl) (EL.cons (.inr (by first | rfl | (simp only [hg4, hg10, hg14, els]; done) | (simp only [hg4, hg10, hg14, els]; rfl) | simp [hg4, hg10, hg14])) (EL.cons (.inr (by first | rfl | (simp only [hg4, hg10, hg14, els]; done) | (simp only [hg4, hg10, hg14, els]; rfl) | simp [hg4, hg10, hg14])) (EL.cons (.inl rfl) (EL.cons (.inl rfl) (EL.cons (.inr (by first | rfl | (simp only [hg4, hg10, hg14, els]; done) | (simp only [hg4, hg10, hg14, els]; rfl) | simp [hg4, hg10, hg14])) (EL.cons (.inr (by first | rfl | (simp only [hg4, hg10, hg14, els]; done) | (simp only [hg4, hg10, hg14, els]; rfl) | simp [hg4, hg10, hg14])) (EL.cons (.inl rfl) (EL.cons (.inl rfl) (EL.cons (.inl rfl) (EL.cons (.inl rfl) (EL.cons (.inr rfl) (EL.cons (.inr rfl) (EL.cons (.inr rfl) (EL.cons (.inr rfl) (EL.cons (.inr rfl) (EL.refl _)))))))))))))))))))
      · have hg10 := eq_true_of_ne_false hg10
        refine w_g_off rfl rfl (by rw [hg10]; decide) ?_
        refine w_pick_1 rfl hg10 (by constructor) ?_
        refine w_move (by constructor) ?_
        refine w_g_off rfl rfl (by decide) ?_
        refine w_g_off rfl rfl (by decide) ?_
        refine w_pick_1 rfl rfl (by constructor) ?_
        try simp only [Int.toNat_natCast] at hg4 hg10
        exact hRR _ (EL.cons (.inr (by first | rfl | (simp only [hg4, hg10, els]; done) | (simp only [hg4, hg10, els]; rfl) | simp [hg4, hg10])) (EL.cons (.inl rfl) (EL.cons (.inl rfl) (EL.cons (.inr (by first | rfl | (simp only [hg4, hg10, els]; done) | (simp only [hg4, hg10, els]; rfl) | simp [hg4, hg10])) (EL.cons (.inr (by first | rfl | (simp only [hg4, hg10, els]; done) | (simp only [hg4, hg10, els]; rfl) | simp [hg4, hg10])) (EL.cons (.inl rfl) (EL.cons (.inl rfl) (EL.cons (.inr (by first | rfl | (simp only [hg4, hg10, els]; done) | (simp only [hg4, hg10, els]; rfl) | simp [hg4, hg10])) (EL.cons (.inr (by first | rfl | (simp only [hg4, hg10, els]; done) | (simp only [hg4, hg10, els]; rfl) | simp [hg4, hg10])) (EL.cons (.inl rfl) (EL.cons (.inl rfl) (EL.cons (.inl rfl) (EL.cons (.inl rfl) (EL.cons (.inr rfl) (EL.cons (.inr rfl) (EL.cons (.inr rfl) (EL.cons (.inr rfl) (EL.cons (.inr rfl) (EL.refl _)))))))))))))))))))
    · have hg4 := eq_true_of_ne_false hg4
      refine w_g_off rfl rfl (by rw [hg4]; decide) ?_
      refine w_g_off rfl rfl (by rw [hg4]; decide) ?_
      refine w_g_off rfl rfl (by rw [hg4]; decide) ?_
      refine w_pick_1 rfl hg4 (by constructor) ?_
      refine w_move (by constructor) ?_
      refine w_g_off rfl rfl (by decide) ?_
      refine w_g_off rfl rfl (by decide) ?_
      refine w_pick_1 rfl rfl (by constructor) ?_
      refine w_move (by constructor) ?_
      refine w_g_off rfl rfl (by decide) ?_
      refine w_g_off rfl rfl (by decide) ?_
      refine w_pick_1 rfl rfl (by constructor) ?_
      try simp only [Int.toNat_natCast] at hg4
      exact hRR _ (EL.cons (.inr (by first | rfl | (simp only [hg4, els]; done) | (simp only [hg4, els]; rfl) | simp [hg4])) (EL.cons (.inl rfl) (EL.cons (.inl rfl) (EL.cons (.inr (by first | rfl | (simp only [hg4, els]; done) | (simp only [hg4, els]; rfl) | simp [hg4])) (EL.cons (.inr (by first | rfl | (simp only [hg4, els]; done) | (simp only [hg4, els]; rfl) | simp [hg4])) (EL.cons (.inl rfl) (EL.cons (.inl rfl) (EL.cons (.inr (by first | rfl | (simp only [hg4, els]; done) | (simp only [hg4, els]; rfl) | simp [hg4])) (EL.cons (.inr (by first | rfl | (simp only [hg4, els]; done) | (simp only [hg4, els]; rfl) | simp [hg4])) (EL.cons (.inl rfl) (EL.cons (.inl rfl) (EL.cons (.inl rfl) (EL.cons (.inl rfl) (EL.cons (.inr rfl) (EL.cons (.inr rfl) (EL.cons (.inr rfl) (EL.cons (.inr rfl) (EL.cons (.inr rfl) (EL.refl _)))))))))))))))))))
  refine snd_cond_true rfl ?_
  apply sr tokTB (by kernel_rfl)
  · intro RR hRR
    refine w_assign (by constructor) ?_
    exact hRR
  refine snd_ret ?_
  exact rt (T := TB) (fun V => m_bool (by symm; rw [decide_eq_false_iff_not]; exact VA_neg hn))
theorem c_IsAlgebra {p n : Int} {T : Nat → Nat → Nat → Int} {fo : Nat → Int} (hT : RB T) (hf : RV fo) : ACalls Try.prog TB 100 [algA p n T fo] (.bool (decide (VA p n T fo))) [] := by
  rcases Int.lt_or_le n 0 with h | h
  · exact c_IsAlgebra0 hT hf h
  · obtain ⟨m, rfl⟩ := Int.eq_ofNat_of_zero_le h
    exact c_IsAlgebraN hT hf
end Go.Am

set_option linter.unusedVariables false
set_option linter.unusedSimpArgs false
set_option maxRecDepth 4000
namespace Go.Am
attribute [local irreducible] retQ retQp
open Go.Proofs
theorem c_IndexFuncV {M : Nat} {F : Nat → Nat → Int} {g nc : Nat} {caps : Nat → AV} {P : Nat → Bool} (hm : M ≤ 16777216) (hcaps : (AV.fn g nc caps).closed) (hf : ∀ i, i < M → ACalls Try.prog TB g (vecA (F i) :: capL nc caps) (.bool (P i)) []) : ACalls Try.prog TB 140 [vlA M F, .fn g nc caps] (.int .i64 (idxF P M)) [] := by
  refine acalls_of tokTB Try.func140 rfl rfl (Nat.le_of_ble_eq_true rfl) ?_
  apply sr tokTB (by kernel_rfl)
  · intro RR hRR
    refine w_assign (by constructor) ?_
    exact hRR
  refine snd_seq ?_
  apply sr tokTB (by kernel_rfl)
  · intro RR hRR
    refine w_move (by constructor) ?_
    refine w_len_r rfl rfl und27 ?_
    refine w_move (by constructor) ?_
    exact hRR
  refine snd_block ?_
  refine snd_loop (S := Nat) (fun i => ([(0, vlA M F), (1, .fn g nc caps), (7, .int .i64 (M : Int)), (8, .int .i64 (i : Int))], [])) (fun i => i ≤ M ∧ (∀ j, j < i → P j = false)) (fun i => M - i) (0) ρ0 ?_ ?_ ?_
  · exact ⟨⟨(by first | exact m_vl | exact mt_fz (by exact trivial) rfl (fun _ _ => mt_vec (fun _ _ => rfl))), (Mt_closed (V := _) (by assumption) (fun _ _ _ => trivial) (by simp)), (by first | exact m_int rfl | exact m_int (by omega) | exact m_int (by simp; done) | (exact m_int (by simp; omega))), (by first | exact m_int rfl | exact m_int (by omega) | exact m_int (by simp; done) | (exact m_int (by simp; omega))), trivial⟩, trivial, trivial⟩
  · exact ⟨Nat.zero_le _, fun j hj => absurd hj (Nat.not_lt_zero _)⟩
  intro i hi0
  refine sq (env2 := [(0, vlA M F), (1, .fn g nc caps), (7, .int .i64 (M : Int)), (8, .int .i64 (i : Int))]) (ol2 := []) rfl rfl ?_
  obtain ⟨le_i, inv_i⟩ := hi0
  apply sr tokTB (by kernel_rfl)
  · intro RR hRR
    refine w_lss rfl rfl ?_
    exact hRR
  refine snd_seq ?_
  refine snd_cond _ rfl (fun hc9 => ?_) (fun hc9 => ?_)
  · try simp only [hcs] at hc9
    have lt_i : i < M := by omega
    refine snd_skip ?_
    refine snd_seq ?_
    refine snd_block ?_
    apply sr tokTB (by kernel_rfl)
    · intro RR hRR
      refine w_move (by constructor) ?_
      refine w_assign (by constructor) ?_
      exact hRR
    apply sr tokTB (by kernel_rfl)
    · intro RR hRR
      refine w_move (by constructor) ?_
      refine w_move (by constructor) ?_
      refine w_move (by constructor) ?_
      refine w_iar rfl rfl und27 kn30 (by exact sz30.symm) ?_ rfl ?_
      · exact ⟨by omega, by omega⟩
      first | refine w_ldc rfl kn30 (by constructor) (by exact sz30.symm) (by exact ag30.symm) ?_ | refine w_ldp rfl kn30 rfl (by constructor) (by exact sz30.symm) (by exact ag30.symm) ?_
      refine y_call rfl (exc (by exact rfl) (exp_capL hcaps)) (hf i (by omega)) ?_
      exact hRR
    refine snd_cond _ rfl (fun hc16 => ?_) (fun hc16 => ?_)
    · skip
      apply sr tokTB (by kernel_rfl)
      · intro RR hRR
        refine w_move (by constructor) ?_
        refine w_assign (by constructor) ?_
        exact hRR
      refine snd_ret ?_
      exact rt (T := TB) (fun V => m_int (idx_at (by omega) (by exact hc16) inv_i).symm)
    · skip
      refine snd_skip ?_
      apply lr tokTB (by kernel_rfl)
      · intro RR hRR
        refine y_add rfl rfl ?_
        refine w_move (by constructor) ?_
        exact hRR
      refine ⟨i + 1, ρ0, ?_, ⟨by omega, all_step inv_i (by exact hc16)⟩, (by dsimp only; omega)⟩
      exact ⟨⟨(by first | exact m_vl | exact mt_fz (by exact trivial) rfl (fun _ _ => mt_vec (fun _ _ => rfl))), (Mt_closed (V := _) (by assumption) (fun _ _ _ => trivial) (by simp)), (by first | exact m_int rfl | exact m_int (by omega) | exact m_int (by simp; done) | (exact m_int (by simp; omega))), (by first | exact m_int rfl | exact m_int (by omega) | exact m_int (by simp; done) | (exact m_int (by simp; omega))), trivial⟩, trivial, trivial⟩
  · try simp only [hcs] at hc9
    have ge_i : M = i := by omega
    subst ge_i
    refine snd_exit ?_
    apply sr tokTB (by kernel_rfl)
    · intro RR hRR
      refine w_assign (by constructor) ?_
      exact hRR
    refine snd_ret ?_
    exact rt (T := TB) (fun V => m_int (idx_none inv_i).symm)
theorem c_ContainsFuncV {M : Nat} {F : Nat → Nat → Int} {g nc : Nat} {caps : Nat → AV} {P : Nat → Bool} (hm : M ≤ 16777216) (hcaps : (AV.fn g nc caps).closed) (hf : ∀ i, i < M → ACalls Try.prog TB g (vecA (F i) :: capL nc caps) (.bool (P i)) []) : ACalls Try.prog TB 101 [vlA M F, .fn g nc caps] (.bool (decide (0 ≤ idxF P M))) [] := by
  refine acalls_of tokTB Try.func101 rfl rfl (Nat.le_of_ble_eq_true rfl) ?_
  apply sr tokTB (by kernel_rfl)
  · intro RR hRR
    refine w_assign (by constructor) ?_
    exact hRR
  apply sr tokTB (by kernel_rfl)
  · intro RR hRR
    refine w_move (by constructor) ?_
    refine w_move (by constructor) ?_
    refine y_call rfl (exc ex_vl (exc (exp_closed hcaps) exn)) (c_IndexFuncV hm hcaps hf) ?_
    refine w_geq rfl rfl ?_
    refine w_assign (by constructor) ?_
    exact hRR
  refine snd_ret ?_
  exact rt (T := TB) (fun V => by first | exact m_bool rfl | exact m_int rfl)
theorem c_valid1 {p n : Int} {T : Nat → Nat → Nat → Int} {fo : Nat → Int} {v : Nat → Int} (hv : B8 v) : ACalls Try.prog TB 102 [vecA v, .cptr (algA p n T fo)] (.bool (!decide (smP p n v))) [] := by
  refine acalls_of tokTB Try.func102 rfl rfl (Nat.le_of_ble_eq_true rfl) ?_
  apply sr tokTB (by kernel_rfl)
  · intro RR hRR
    refine w_boxc (HV.eq (by constructor)) (by exact trivial) ?_
    refine w_assign (by constructor) ?_
    exact hRR
  apply sr tokTB (by kernel_rfl)
  · intro RR hRR
    refine w_ldc rfl kn30 (by constructor) (by exact sz30.symm) (by exact ag30.symm) ?_
    refine w_fac rfl und32 rfl kn2 nz2 (by decide) rfl (by constructor) ?_
    refine w_ldc rfl kn2 (by constructor) (by exact sz2.symm) (by exact ag2.symm) ?_
    refine w_fac rfl und32 rfl kn2 nz2 (by decide) rfl (by constructor) ?_
    refine w_ldc rfl kn2 (by constructor) (by exact sz2.symm) (by exact ag2.symm) ?_
    refine y_call rfl (ec (ec (ec exn))) (c_isVector hv) ?_
    refine w_not rfl ?_
    refine w_assign (by constructor) ?_
    exact hRR
  refine snd_ret ?_
  exact rt (T := TB) (fun V => by first | exact m_bool rfl | exact m_int rfl)
theorem c_l01Code {p n : Int} {T : Nat → Nat → Nat → Int} {fo : Nat → Int} {M : Nat} {F : Nat → Nat → Int} (hT : RB T) (hf : RV fo) (hM : M ≤ 16777216) (hF : ∀ i, B8 (F i)) : ACalls Try.prog TB 54 [algA p n T fo, vlA M F] (.int .i64 (cZ p n T fo M F)) [] := by
  refine acalls_of tokTB Try.func54 rfl rfl (Nat.le_of_ble_eq_true rfl) ?_
  apply sr tokTB (by kernel_rfl)
  · intro RR hRR
    refine w_boxc (HV.eq (by constructor)) (by exact trivial) ?_
    refine w_assign (by constructor) ?_
    exact hRR
  refine snd_seq ?_
  apply sr tokTB (by kernel_rfl)
  · intro RR hRR
    refine w_ldc rfl kn32 (by constructor) (by exact sz32.symm) (by exact ag32.symm) ?_
    refine y_call rfl (ec exn) (c_l01Algebra hT hf) ?_
    refine w_not rfl ?_
    exact hRR
  refine snd_cond _ rfl (fun hc8 => ?_) (fun hc8 => ?_)
  · try simp only [hcs] at hc8
    apply sr tokTB (by kernel_rfl)
    · intro RR hRR
      refine w_assign (by constructor) ?_
      exact hRR
    refine snd_ret ?_
    exact rt (T := TB) (fun V => m_int (cZ_no (fun h => hc8 h.1)).symm)
  · try simp only [hcs] at hc8
    refine snd_skip ?_
    refine snd_seq ?_
    apply sr tokTB (by kernel_rfl)
    · intro RR hRR
      refine w_assign (by constructor) ?_
      exact hRR
    refine snd_block ?_
    refine snd_loop (S := Nat) (fun i => ([(1, vlA M F), (2, .cptr (algA p n T fo)), (5, .int .i64 (i : Int))], [])) (fun i => i ≤ M ∧ (∀ a, a < i → smP p n (F a))) (fun i => M - i) (0) ρ0 ?_ ?_ ?_
    · exact ⟨⟨(by first | exact m_vl | exact mt_fz (by exact trivial) rfl (fun _ _ => mt_vec (fun _ _ => rfl))), m_calg, (by first | exact m_int rfl | exact m_int (by omega) | exact m_int (by simp; done) | (exact m_int (by simp; omega))), trivial⟩, trivial, trivial⟩
    · exact ⟨Nat.zero_le _, fun j hj => absurd hj (Nat.not_lt_zero _)⟩
    intro i hi0
    refine sq (env2 := [(1, vlA M F), (2, .cptr (algA p n T fo)), (5, .int .i64 (i : Int))]) (ol2 := []) rfl rfl ?_
    obtain ⟨le_i, inv_i⟩ := hi0
    refine snd_seq ?_
    apply sr tokTB (by kernel_rfl)
    · intro RR hRR
      refine w_move (by constructor) ?_
      refine w_move (by constructor) ?_
      refine w_len_r rfl rfl und27 ?_
      refine w_lss rfl rfl ?_
      exact hRR
    refine snd_cond _ rfl (fun hc12 => ?_) (fun hc12 => ?_)
    · try simp only [hcs] at hc12
      have lt_i : i < M := by omega
      refine snd_skip ?_
      refine snd_seq ?_
      refine snd_block ?_
      apply sd tokTB mixed (by kernel_rfl) (by kernel_rfl)
      · intro RR hRR
        refine w_ldc rfl kn32 (by constructor) (by exact sz32.symm) (by exact ag32.symm) ?_
        refine w_move (by constructor) ?_
        refine w_move (by constructor) ?_
        refine w_iar rfl rfl und27 kn30 (by exact sz30.symm) ?_ rfl ?_
        · exact ⟨by omega, by omega⟩
        first | refine w_ldc rfl kn30 (by constructor) (by exact sz30.symm) (by exact ag30.symm) ?_ | refine w_ldp rfl kn30 rfl (by constructor) (by exact sz30.symm) (by exact ag30.symm) ?_
        refine y_call rfl (ec (ec exn)) (c_l01Vector (v := F i) (hF i)) ?_
        refine w_not rfl ?_
        exact hRR
      refine snd_cond _ rfl (fun hc21 => ?_) (fun hc21 => ?_)
      · try simp only [hcs] at hc21
        apply sr tokTB (by kernel_rfl)
        · intro RR hRR
          refine w_assign (by constructor) ?_
          exact hRR
        refine snd_ret ?_
        exact rt (T := TB) (fun V => m_int (cZ_no (fun h => hc21 (h.2 i (by omega)))).symm)
      · try simp only [hcs] at hc21
        refine snd_skip ?_
        apply lr tokTB (by kernel_rfl)
        · intro RR hRR
          refine w_move (by constructor) ?_
          refine y_add rfl rfl ?_
          refine w_assign (by constructor) ?_
          exact hRR
        refine ⟨i + 1, ρ0, ?_, ⟨by omega, all_step inv_i hc21⟩, (by dsimp only; omega)⟩
        exact ⟨⟨(by first | exact m_vl | exact mt_fz (by exact trivial) rfl (fun _ _ => mt_vec (fun _ _ => rfl))), m_calg, (by first | exact m_int rfl | exact m_int (by omega) | exact m_int (by simp; done) | (exact m_int (by simp; omega))), trivial⟩, trivial, trivial⟩
    · try simp only [hcs] at hc12
      have ge_i : M = i := by omega
      subst ge_i
      refine snd_exit ?_
      apply sr tokTB (by kernel_rfl)
      · intro RR hRR
        refine w_assign (by constructor) ?_
        exact hRR
      refine snd_ret ?_
      exact rt (T := TB) (fun V => m_int (cZ_ok ⟨hc8, inv_i⟩).symm)
theorem c_valid {p n : Int} {T : Nat → Nat → Nat → Int} {fo : Nat → Int} {M : Nat} {F : Nat → Nat → Int} (hT : RB T) (hf : RV fo) (hM : M ≤ 16777216) (hF : ∀ i, B8 (F i)) : ACalls Try.prog TB 57 [algA p n T fo, vlA M F] (.int .i64 (cZ p n T fo M F)) [] := by
  refine acalls_of tokTB Try.func57 rfl rfl (Nat.le_of_ble_eq_true rfl) ?_
  apply sr tokTB (by kernel_rfl)
  · intro RR hRR
    refine w_boxc (HV.eq (by constructor)) (by exact trivial) ?_
    refine w_assign (by constructor) ?_
    exact hRR
  refine snd_seq ?_
  apply srG (env' := (12, .bool (!(decide (VA p n T fo)) || decide (0 ≤ idxF (fun i => !decide (smP p n (F i))) M))) :: (11, .any) :: (10, .any) :: (9, .any) :: (8, _) :: (7, _) :: (6, _) :: (5, _) :: _) tokTB (by kernel_rfl)
  · intro RR hRR
    refine w_ldc rfl kn32 (by constructor) (by exact sz32.symm) (by exact ag32.symm) ?_
    refine y_call rfl (ec exn) (c_IsAlgebra hT hf) ?_
    refine w_not rfl ?_
    refine w_move (by constructor) ?_
    refine w_g rfl rfl (fun hg3 => ?_) (fun hg3 => ?_)
    · skip
      refine w_move (by constructor) ?_
      refine w_g_on rfl rfl hg3 ?_
      refine w_mkf1 (by constructor) ?_
      refine w_g_on rfl rfl hg3 ?_
      refine y_call rfl (exc ex_vl (exc (exp_closed (closed_cap1 closed_calg)) exn)) (c_ContainsFuncV (nc := 1) (caps := cap1 (.cptr (algA p n T fo))) (P := fun i => !decide (smP p n (F i))) hM (closed_cap1 closed_calg) (fun i _ => c_valid1 (hF i))) ?_
      refine w_pick_0 rfl hg3 (by constructor) ?_
      try simp only [Int.toNat_natCast] at hg3
      exact hRR _ (EL.cons (.inr (by first | rfl | (simp only [hg3, els]; done) | (simp only [hg3, els]; rfl) | simp [hg3])) (EL.cons (.inl rfl) (EL.cons (.inl rfl) (EL.cons (.inl rfl) (EL.cons (.inr rfl) (EL.cons (.inr rfl) (EL.cons (.inr rfl) (EL.cons (.inr rfl) (EL.refl _)))))))))
    · have hg3 := eq_true_of_ne_false hg3
      refine w_g_off rfl rfl (by rw [hg3]; decide) ?_
      refine w_g_off rfl rfl (by rw [hg3]; decide) ?_
      refine w_pick_1 rfl hg3 (by constructor) ?_
      try simp only [Int.toNat_natCast] at hg3
      exact hRR _ (EL.cons (.inr (by first | rfl | (simp only [hg3, els]; done) | (simp only [hg3, els]; rfl) | simp [hg3])) (EL.cons (.inl rfl) (EL.cons (.inl rfl) (EL.cons (.inl rfl) (EL.cons (.inr rfl) (EL.cons (.inr rfl) (EL.cons (.inr rfl) (EL.cons (.inr rfl) (EL.refl _)))))))))
  refine snd_cond _ rfl (fun hc12 => ?_) (fun hc12 => ?_)
  · skip
    apply sr tokTB (by kernel_rfl)
    · intro RR hRR
      refine w_assign (by constructor) ?_
      exact hRR
    refine snd_ret ?_
    exact rt (T := TB) (fun V => m_int (cZ_no (fun h => by rw [decide_eq_true h.1] at hc12; obtain ⟨i, hi, hP⟩ := idx_ge.1 (by simpa using hc12); simp at hP; exact hP (h.2 i hi))).symm)
  · skip
    refine snd_skip ?_
    apply sr tokTB (by kernel_rfl)
    · intro RR hRR
      refine w_assign (by constructor) ?_
      exact hRR
    refine snd_ret ?_
    exact rt (T := TB) (fun V => m_int (cZ_ok (by simp only [Bool.or_eq_false_iff, Bool.not_eq_false', decide_eq_true_eq, decide_eq_false_iff_not] at hc12; exact ⟨hc12.1, fun i hi => Classical.byContradiction fun hn => hc12.2 (idx_ge.2 ⟨i, hi, by simpa using hn⟩)⟩)).symm)
theorem nil_l {F : Nat → Nat → Int} {a : AV} (h : a.closed) (ht : a ≠ .any) : MtL [a, vlA 0 F] [a, .nilsl] := ⟨Mt_closed h (fun _ _ _ => trivial) ht, rfl, trivial⟩
theorem c_valid0 {p n : Int} {T : Nat → Nat → Nat → Int} {fo : Nat → Int} (hT : RB T) (hf : RV fo) : ACalls Try.prog TB 57 [algA p n T fo, .nilsl] (.int .i64 (cZ p n T fo 0 (fun _ _ => 0))) [] := (c_valid (F := fun _ _ => 0) hT hf (by omega) (fun _ => B8_0)).mt (nil_l closed_alg (by simp))
theorem c_l01Code0 {p n : Int} {T : Nat → Nat → Nat → Int} {fo : Nat → Int} (hT : RB T) (hf : RV fo) : ACalls Try.prog TB 54 [algA p n T fo, .nilsl] (.int .i64 (cZ p n T fo 0 (fun _ _ => 0))) [] := (c_l01Code (F := fun _ _ => 0) hT hf (by omega) (fun _ => B8_0)).mt (nil_l closed_alg (by simp))
end Go.Am

